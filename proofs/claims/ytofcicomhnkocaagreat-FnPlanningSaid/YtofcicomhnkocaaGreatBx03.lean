import Derived.Test.YtofcicomhnkocaaGreatBx02
set_option linter.unusedVariables false
namespace Go.Proofs.YtofcicomhnkocaaGreat
set_option maxHeartbeats 1600000
open Go.RowKit Go.Sort
set_option maxRecDepth 100000
/-! ### Searches -/
section
variable {α : Type}
theorem ξaT {zs:List α} {p:α→Bool} {nil:α} {k:Nat} (hk:k<zs.length) (h:(zs.take k).any p=false) (e:p (zs[k]?.getD nil)=false):(zs.take (k+1)).any p=false:=by
 rw[ξg hk] at e
 rw[List.take_add_one,List.any_append,h,ξg hk]
 simpa using e
def idxG (zs:List α) (p:α→Bool):Int:=match zs.findIdx? p with | some k=>k | none=> -1
theorem ξaU {zs:List α} {p:α→Bool} (h:zs.any p=false):idxG zs p= -1:=by
 have:zs.findIdx? p=none:=by rw[List.findIdx?_eq_none_iff];simpa[List.any_eq_false] using h
 simp[idxG,this]
theorem ξbe {zs:List α} {p:α→Bool} {nil:α} {k:Nat} (hk:k<zs.length) (h:(zs.take k).any p=false) (e:p (zs[k]?.getD nil)=true):idxG zs p=k:=by
 have:zs.findIdx? p=some k:=by
  rw[List.findIdx?_eq_some_iff_getElem]
  refine⟨hk,by simpa[ξg hk] using e,fun j hj=> ?_⟩
  simp only[List.any_eq_false] at h
  have:=h zs[j] (List.mem_take_iff_getElem.2 ⟨j,by omega,by simp⟩)
  simpa using this
 simp[idxG,this]
theorem idxG_geq (zs:List α) (p:α→Bool):decide (0≤idxG zs p)=zs.any p:=by
 cases h:zs.findIdx? p with
 | none=>
   rw[List.findIdx?_eq_none_iff] at h
   have:zs.any p=false:=by simpa[List.any_eq_false] using h
   rw[this];simp[ξaU this]
 | some k=>
   have:=h
   rw[List.findIdx?_eq_some_iff_getElem] at h
   obtain⟨hk,e,_⟩:=h
   have h2:zs.any p=true:=List.any_eq_true.2 ⟨_,ξj hk,e⟩
   rw[h2];simp[idxG,this]
end
def IsFn (F:FuncId):Prop:=∀(args:Array Value) (w:World),(callFunc F args).run Tryz.prog w= .ok (.enter F args) w
theorem isFn_of {F : FuncId} {fn : Func} (h1 : Tryz.prog.funcs[F]? = some fn) (h2 : (fn.name == "runtime.NumGoroutine") = false) (h3 : fn.body.isNone = false) : IsFn F := by
 intro args w
 unfold callFunc
 simp only[Sem.run_bind,run_program,Result.andThen_ok,h1,h2,h3]
 rfl
/-! ### Growths -/
structure Gro where
 d:Dem
 s:Int
 e:Int
def nilG:Gro:=⟨⟨0,0,0,0⟩,0,0⟩
def groE (g:Gro):List Value:=[.int .i64 g.d.a,.int .i64 g.d.b,.int .i64 g.d.r,.int .i64 g.d.c,.int .i64 g.s,.int .i64 g.e]
def groV (g:Gro):Value:= .agg #[.int .i64 g.d.a,.int .i64 g.d.b,.int .i64 g.d.r,.int .i64 g.d.c,.int .i64 g.s,.int .i64 g.e]
def groOk (m:Nat) (g:Gro):Bool:=demOk g.d m&&inB g.s 0 g.e&&decide (g.e<8)
def ξQ (n:Net) (gs:List Gro):Bool:=ξL n&&decide (gs.length≤12) && !gs.any (fun g=>!groOk n.ns.length g)
abbrev ptr (b:Nat):Value:= .pointer (some ⟨b,0,none⟩)
theorem growthBad_any (g:Gro) (bn:Nat) (a1 a2:Option Addr) (m c1 n2 c2:Nat) (w:World) (hm:m≤1000) (h0:w.cell? ⟨bn,0,none⟩=some (.slice a1 m c1)) (h1:w.cell? ⟨bn,1,none⟩=some (.slice a2 n2 c2)):
 Calls Tryz.prog 80 #[groV g,ptr bn] w fun e w'=>e= .returned (.bool (!groOk m g))∧Below w.heap.size w w':=by
 obtain⟨⟨a,b,r,c⟩,s,e⟩:=g
 have HD:=ξh (fun w=>ξci a1 a2 m c1 n2 c2 ⟨a,b,r,c⟩ w hm)
 have HF:=ξh (show groOk m ⟨⟨a,b,r,c⟩,s,e⟩=(demOk ⟨a,b,r,c⟩ m&&inB s 0 e&&decide (e<8)) from rfl)
 generalize groOk m ⟨⟨a,b,r,c⟩,s,e⟩=q at *
 generalize demOk ⟨a,b,r,c⟩ m=dk at *
 obtain⟨bx,-,-,-⟩:=ξD w #[.int .i64 a,.int .i64 b,.int .i64 r,.int .i64 c,.int .i64 s,.int .i64 e] 55
 have HB:=ξh bx
 have hbw:=ξd w _ h0
 have hd8:decide (8≤e)= !decide (e<8):=by rw[Bool.eq_iff_iff];simp
 have hq:(!q)=(!dk || !inB s 0 e || !decide (e<8)):=by rw[HF.out];cases dk <;> cases inB s 0 e <;> cases decide (e<8) <;> rfl
 have HQ:=ξh hq
 have H8:=ξh hd8
 unfold groV
 unfold demV at HD
 clear bx hq hd8
 cases dk
 · go_enter Tryz.func80,Tryz.ntmps80
   go_wp2_with (go_at_call 81;refine(HD.out _).mono ?_;rintro e w' ⟨rfl,b2⟩;have HB2:=ξh (HB.trans (b2.mono HB.size));clear b2)
   go_ret
   exact⟨by rw[HQ.out];rfl,HB2.out⟩
 cases h2:inB s 0 e
 · rw[h2] at HQ
   go_enter Tryz.func80,Tryz.ntmps80
   go_wp2_with (first | (go_at_call 81;refine(HD.out _).mono ?_;rintro e w' ⟨rfl,b2⟩;have HB2:=ξh (HB.trans (b2.mono HB.size));obtain⟨hc,hf⟩:=bcell b2;clear b2) | (go_at_call 74;refine(ξE _ _ _ _).mono ?_;rintro e w' ⟨rfl,rfl⟩;rw[h2]))
   go_ret
   exact⟨by rw[HQ.out];rfl,HB2.out⟩
 rw[h2] at HQ
 cases h3:decide (e<8)
 all_goals
  rw[h3] at H8
  have h8:=H8.out
  simp only[Bool.not_false,Bool.not_true] at h8
  rw[h3] at HQ
  clear h3
  go_enter Tryz.func80,Tryz.ntmps80
  go_wp2_with (first | (go_at_call 81;refine(HD.out _).mono ?_;rintro e w' ⟨rfl,b2⟩;have HB2:=ξh (HB.trans (b2.mono HB.size));obtain⟨hc,hf⟩:=bcell b2;clear b2) | (go_at_call 74;refine(ξE _ _ _ _).mono ?_;rintro e w' ⟨rfl,rfl⟩;rw[h2]))
  go_ret
  exact⟨by rw[HQ.out];rfl,HB2.out⟩
open Go.RowKit
section
variable {α : Type} {k : α → Int}
def ltS (k:α→Int) (x y:α × Nat):Prop:=k x.1<k y.1∨(k x.1=k y.1∧x.2<y.2)
theorem ltS_asym {x y:α × Nat} (h:ltS k x y):¬ltS k y x:=fun h2=>by unfold ltS at h h2;omega
theorem ξay {x y z:α × Nat} (h:ltS k x y) (h2:ltS k y z):ltS k x z:=by unfold ltS at h h2 ⊢;omega
theorem ltS_cross {x y:α × Nat} (h:x.2<y.2):ltS k y x↔k y.1<k x.1:=by unfold ltS;omega
theorem ξb0 {x y:α × Nat} (h:x.2<y.2):ltS k x y↔ ¬k y.1<k x.1:=by unfold ltS;omega
def srtS (k:α→Int) (L:List (α × Nat)):Prop:=L.Pairwise (ltS k)
def crsS (X Y:List (α × Nat)):Prop:=∀x∈X,∀y∈Y,x.2<y.2
theorem ξaH {L:List (α × Nat)} (h:srtS k L) {i j:Nat} (hij:i<j) (hj:j<L.length):ltS k L[i] L[j]:=List.pairwise_iff_getElem.1 h i j (by omega) hj hij
theorem ξbH {L R:List (α × Nat)} (h1:srtS k L) (h2:srtS k R) (h:∀x∈L,∀y∈R,ltS k x y):srtS k (L++R):=List.pairwise_append.2 ⟨h1,h2,h⟩
theorem srtS_ins {L:List (α × Nat)} {x:α × Nat} {i:Nat} (h:srtS k L) (hi:i≤L.length) (h1:∀hi0:0<i,ltS k (L[i-1]'(by omega)) x) (h2:∀hl:i<L.length,ltS k x L[i]):srtS k (L.take i++x::L.drop i):=by
 refine ξbH (List.Pairwise.sublist (List.take_sublist i L) h) (List.pairwise_cons.2 ⟨fun y hy=> ?_,List.Pairwise.sublist (List.drop_sublist i L) h⟩) fun a ha b hb=> ?_
 · obtain⟨j,hj,e⟩:=List.getElem_of_mem hy
   rw[List.length_drop] at hj
   rw[List.getElem_drop] at e
   rw[←e]
   have hx:=h2 (by omega)
   rcases Nat.eq_zero_or_pos j with rfl | hj0
   · exact hx
   · exact ξay hx (ξaH h (by omega) (by omega))
 · obtain⟨j,hj,e⟩:=List.getElem_of_mem ha
   rw[List.length_take] at hj
   rw[List.getElem_take] at e
   have hax:ltS k a x:=by
    rw[←e]
    have hx:=h1 (by omega)
    by_cases hji:j=i-1
    · subst hji;exact hx
    · exact ξay (ξaH h (by omega) (by omega)) hx
   rcases List.mem_cons.1 hb with rfl | hb
   · exact hax
   · obtain⟨j2,hj2,e2⟩:=List.getElem_of_mem hb
     rw[List.length_drop] at hj2
     rw[List.getElem_drop] at e2
     rw[←e,←e2]
     exact ξaH h (by omega) (by omega)
theorem cutS {X Y:List (α × Nat)} (hx:srtS k X) (hy:srtS k Y) {s e:Nat} (hs:s≤X.length) (he:e≤Y.length)
 (c1:∀(h1:0<s) (h2:e<Y.length),ltS k (X[s-1]'(by omega)) Y[e]) (c2:∀(h1:0<e) (h2:s<X.length),ltS k (Y[e-1]'(by omega)) X[s]):
 ∀x∈X.take s++Y.take e,∀y∈X.drop s++Y.drop e,ltS k x y:=by
 intro x hx1 y hy1
 rcases List.mem_append.1 hx1 with h | h
 · obtain⟨i,hi,ei⟩:=List.getElem_of_mem h
   rw[List.length_take] at hi
   rw[List.getElem_take] at ei
   rcases List.mem_append.1 hy1 with g | g
   · obtain⟨j,hj,ej⟩:=List.getElem_of_mem g
     rw[List.length_drop] at hj
     rw[List.getElem_drop] at ej
     rw[←ei,←ej];exact ξaH hx (by omega) (by omega)
   · obtain⟨j,hj,ej⟩:=List.getElem_of_mem g
     rw[List.length_drop] at hj
     rw[List.getElem_drop] at ej
     have hc:=c1 (by omega) (by omega)
     have h1:X[i]=X[s-1]∨ltS k X[i] X[s-1]:=by
      by_cases e1:i=s-1
      · subst e1;exact .inl rfl
      · exact .inr (ξaH hx (by omega) (by omega))
     have h2:Y[e+j]=Y[e]∨ltS k Y[e] Y[e+j]:=by
      rcases Nat.eq_zero_or_pos j with rfl | hj0
      · exact .inl rfl
      · exact .inr (ξaH hy (by omega) (by omega))
     rw[←ei,←ej]
     have h3:ltS k X[i] Y[e]:=by
      rcases h1 with h1 | h1
      · rw[h1];exact hc
      · exact ξay h1 hc
     rcases h2 with h2 | h2
     · rw[h2];exact h3
     · exact ξay h3 h2
 · obtain⟨i,hi,ei⟩:=List.getElem_of_mem h
   rw[List.length_take] at hi
   rw[List.getElem_take] at ei
   rcases List.mem_append.1 hy1 with g | g
   · obtain⟨j,hj,ej⟩:=List.getElem_of_mem g
     rw[List.length_drop] at hj
     rw[List.getElem_drop] at ej
     have hc:=c2 (by omega) (by omega)
     have h1:Y[i]=Y[e-1]∨ltS k Y[i] Y[e-1]:=by
      by_cases e1:i=e-1
      · subst e1;exact .inl rfl
      · exact .inr (ξaH hy (by omega) (by omega))
     have h2:X[s+j]=X[s]∨ltS k X[s] X[s+j]:=by
      rcases Nat.eq_zero_or_pos j with rfl | hj0
      · exact .inl rfl
      · exact .inr (ξaH hx (by omega) (by omega))
     rw[←ei,←ej]
     have h3:ltS k Y[i] X[s]:=by
      rcases h1 with h1 | h1
      · rw[h1];exact hc
      · exact ξay h1 hc
     rcases h2 with h2 | h2
     · rw[h2];exact h3
     · exact ξay h3 h2
   · obtain⟨j,hj,ej⟩:=List.getElem_of_mem g
     rw[List.length_drop] at hj
     rw[List.getElem_drop] at ej
     rw[←ei,←ej];exact ξaH hy (by omega) (by omega)
theorem mrgS {X Y L R:List (α × Nat)} (hx:srtS k X) (hy:srtS k Y) {s e:Nat} (hs:s≤X.length) (he:e≤Y.length)
 (c1:∀(h1:0<s) (h2:e<Y.length),ltS k (X[s-1]'(by omega)) Y[e]) (c2:∀(h1:0<e) (h2:s<X.length),ltS k (Y[e-1]'(by omega)) X[s])
 (hL:srtS k L) (hLp:L.Perm (X.take s++Y.take e)) (hR:srtS k R) (hRp:R.Perm (X.drop s++Y.drop e)):srtS k (L++R)∧(L++R).Perm (X++Y):=by
 refine⟨ξbH hL hR fun x h1 y h2=>cutS hx hy hs he c1 c2 x (hLp.mem_iff.1 h1) y (hRp.mem_iff.1 h2),?_⟩
 have h1:(L++R).Perm ((X.take s++Y.take e)++(X.drop s++Y.drop e)):=hLp.append hRp
 have h2:((X.take s++Y.take e)++(X.drop s++Y.drop e)).Perm ((X.take s++X.drop s)++(Y.take e++Y.drop e)):=by
  rw[List.append_assoc,List.append_assoc]
  refine List.Perm.append_left _ ?_
  rw[←List.append_assoc,←List.append_assoc]
  exact List.Perm.append_right _ List.perm_append_comm
 rw[List.take_append_drop,List.take_append_drop] at h2
 exact h1.trans h2
def tagS (zs:List α):List (α × Nat):=zs.zipIdx
theorem tagS_fst (zs:List α):(tagS zs).map Prod.fst=zs:=by unfold tagS;simp
end
section
variable {α : Type} {k : α → Int} {p : α → Bool}
def isBest (k:α→Int) (p:α→Bool) (L:List (α × Nat)) (x:α × Nat):Prop:=x∈L∧p x.1=true∧ ∀y∈L,p y.1=true→y=x∨ltS k x y
theorem isBest_one {L:List (α × Nat)} {x y:α × Nat} (hx:isBest k p L x) (hy:isBest k p L y):x=y:=by
 rcases hx.2.2 y hy.1 hy.2.1 with h | h
 · exact h.symm
 · rcases hy.2.2 x hx.1 hx.2.1 with g | g
   · exact g
   · exact absurd g (ltS_asym h)
theorem head_best {S L:List (α × Nat)} (hs:srtS k S) (hp:S.Perm L) {x:α × Nat} {T:List (α × Nat)} (h:S.filter (fun y=>p y.1)=x::T):isBest k p L x:=by
 have hx:x∈S.filter (fun y=>p y.1):=by rw[h];exact List.mem_cons_self
 obtain⟨h1,h2⟩:=List.mem_filter.1 hx
 refine⟨hp.mem_iff.1 h1,h2,fun y hy hpy=> ?_⟩
 have hy2:y∈S.filter (fun y=>p y.1):=List.mem_filter.2 ⟨hp.mem_iff.2 hy,hpy⟩
 rw[h] at hy2
 rcases List.mem_cons.1 hy2 with e | e
 · exact .inl e
 · have hs2:srtS k (x::T):=by rw[←h];exact List.Pairwise.sublist List.filter_sublist hs
   exact .inr ((List.pairwise_cons.1 hs2).1 y e)
theorem head_none {S L:List (α × Nat)} (hp:S.Perm L) (h:S.filter (fun y=>p y.1)=[]):∀y∈L,p y.1=false:=fun y hy=>by
 have:=List.filter_eq_nil_iff.1 h y (hp.mem_iff.2 hy)
 simpa using this
def scanS (k:α→Int) (p:α→Bool) (zs:List α):Nat→Option (α × Nat)
 | 0=>none
 | i+1=>match zs[i]?,scanS k p zs i with
   | none,o=>o
   | some z,none=>if p z then some (z,i) else none
   | some z,some b=>if p z&&decide (k z<k b.1) then some (z,i) else some b
theorem ξb5 {zs:List α} {i:Nat} {x:α × Nat} :x∈(tagS zs).take i↔x.2<i∧zs[x.2]?= some x.1:=by
 constructor
 · intro h
   obtain⟨j,hj,e⟩:=List.getElem_of_mem h
   rw[List.length_take] at hj
   rw[List.getElem_take] at e
   unfold tagS at e hj
   rw[List.length_zipIdx] at hj
   rw[List.getElem_zipIdx] at e
   subst e
   refine⟨by simp;omega,?_⟩
   simp only[Nat.zero_add]
   exact ξg (by omega)
 · rintro⟨h1,h2⟩
   obtain⟨hl,e⟩:=ξl h2
   refine List.mem_of_getElem? (i:=x.2) ?_
   rw[List.getElem?_take_of_lt h1]
   unfold tagS
   rw[List.getElem?_zipIdx,h2]
   simp
theorem ξbp {zs:List α} {i:Nat} {z:α} (hz:zs[i]?= some z):scanS k p zs (i+1)=match scanS k p zs i with
 | none=>if p z then some (z,i) else none
 | some b=>if p z&&decide (k z<k b.1) then some (z,i) else some b:=by
 rw[scanS,hz]
 cases scanS k p zs i <;> rfl
theorem scanS_some {zs:List α} :∀{i:Nat} {x:α × Nat},i≤zs.length→scanS k p zs i=some x→isBest k p ((tagS zs).take i) x
 | 0,x,_,h=>by simp[scanS] at h
 | i+1,x,hi,h=>by
   have hz:zs[i]?= some zs[i]:=ξg (by omega)
   have hmem:∀y:α × Nat,y∈(tagS zs).take (i+1)↔y∈(tagS zs).take i∨y=(zs[i],i):=fun y=>by
    rw[ξb5,ξb5]
    constructor
    · rintro⟨h1,h2⟩
      by_cases e:y.2=i
      · right
        rw[e,hz] at h2
        exact Prod.ext (ξo h2).symm e
      · exact .inl ⟨by omega,h2⟩
    · rintro(⟨h1,h2⟩ | rfl)
      · exact⟨by omega,h2⟩
      · exact⟨by simp,hz⟩
   rw[ξbp hz] at h
   cases ho:scanS k p zs i with
   | none=>
     rw[ho] at h
     simp only at h
     split at h
     · rename_i hpz
       cases h
       refine⟨(hmem _).2 (.inr rfl),hpz,fun y hy hpy=> ?_⟩
       rcases(hmem y).1 hy with e | e
       · exact absurd hpy (by rw[scanS_none (by omega) ho y e];simp)
       · exact .inl e
     · cases h
   | some b=>
     rw[ho] at h
     simp only at h
     have hb:=scanS_some (by omega) ho
     have hbi:=(ξb5.1 hb.1).1
     split at h
     · rename_i hc
       simp only[Bool.and_eq_true,decide_eq_true_eq] at hc
       cases h
       refine⟨(hmem _).2 (.inr rfl),hc.1,fun y hy hpy=> ?_⟩
       rcases(hmem y).1 hy with e | e
       · right
         have hlt:ltS k (zs[i],i) b:= .inl hc.2
         rcases hb.2.2 y e hpy with e2 | e2
         · rw[e2];exact hlt
         · exact ξay hlt e2
       · exact .inl e
     · rename_i hc
       cases h
       refine⟨(hmem _).2 (.inl hb.1),hb.2.1,fun y hy hpy=> ?_⟩
       rcases(hmem y).1 hy with e | e
       · exact hb.2.2 y e hpy
       · right
         subst e
         simp only at hpy
         rw[hpy] at hc
         simp only[Bool.true_and,decide_eq_true_eq] at hc
         exact(ξb0 (y:=(zs[i],i)) hbi).2 hc
where
 scanS_none {zs:List α} :∀{i:Nat},i≤zs.length→scanS k p zs i=none→ ∀y∈(tagS zs).take i,p y.1=false
 | 0,_,_,y,hy=>by simp at hy
 | i+1,hi,h,y,hy=>by
   have hz:zs[i]?= some zs[i]:=ξg (by omega)
   rw[ξbp hz] at h
   cases ho:scanS k p zs i with
   | none=>
     rw[ho] at h
     simp only at h
     obtain⟨h1,h2⟩:=ξb5.1 hy
     by_cases e:y.2=i
     · rw[e,hz] at h2
       rw[←ξo h2]
       cases hp:p zs[i]
       · rfl
       · rw[hp] at h;simp at h
     · exact scanS_none (by omega) ho y (ξb5.2 ⟨by omega,h2⟩)
   | some b=>
     rw[ho] at h
     simp only at h
     split at h <;> cases h
end
structure Fmt where
 c:Int
 r:Int
def ξJ:Fmt:=⟨0,0⟩
def fmE (z:Fmt):List Value:=[.int .i64 z.c,.int .i64 z.r]
def fmAt (zs:List Fmt) (i:Nat):Bool:=
 inB (zs[i]?.getD ξJ).c 1 20000&&(inB (zs[i]?.getD ξJ).r 1 1000 && !(decide (0<i)&&(decide ((zs[i-1]?.getD ξJ).c≤(zs[i]?.getD ξJ).c) || decide ((zs[i]?.getD ξJ).r≤(zs[i-1]?.getD ξJ).r))))
def fmOk (zs:List Fmt):Bool:=(List.range zs.length).all (fmAt zs)&&inB (zs.length:Int) 1 6
theorem fmOk_at {zs:List Fmt} {k:Nat} (hk:k<zs.length) (h:fmAt zs k=false):fmOk zs=false:=by
 unfold fmOk
 have:(List.range zs.length).all (fmAt zs)=false:=by
  rw[List.all_eq_false]
  exact⟨k,List.mem_range.2 hk,by simp[h]⟩
 rw[this];rfl
theorem fmOk_all {zs:List Fmt} (h:∀i,i<zs.length→fmAt zs i=true):fmOk zs=inB (zs.length:Int) 1 6:=by
 unfold fmOk
 have:(List.range zs.length).all (fmAt zs)=true:=List.all_eq_true.2 fun i hi=>h i (List.mem_range.1 hi)
 rw[this];rfl
theorem fmOk_long {zs:List Fmt} (h:6<zs.length):fmOk zs=false:=by
 unfold fmOk
 have:inB (zs.length:Int) 1 6=false:=by unfold inB;rw[ξf (show¬(zs.length:Int)≤6 by omega)];simp
 rw[this];simp
theorem fmOk_len {zs:List Fmt} (h:fmOk zs=true):1≤zs.length∧zs.length≤6:=by
 unfold fmOk at h
 simp only[Bool.and_eq_true] at h
 have:=ξO h.2
 omega
theorem fm_up {zs:List Fmt} {k:Nat} (h:∀i,i<k→fmAt zs i=true) (hk:fmAt zs k=true):∀i,i<k+1→fmAt zs i=true:=fun i hi=>by
 by_cases e:i=k
 · subst e;exact hk
 · exact h i (by omega)
/-! ### Slots that a route needs -/
def bstI (fs:List Fmt) (len:Int):Nat→Int
 | 0=> -1
 | k+1=>if len≤(fs[k]?.getD ξJ).c then(k:Int) else bstI fs len k
theorem bstI_rng (fs:List Fmt) (len:Int):∀k:Nat,-1≤bstI fs len k∧bstI fs len k<k
 | 0=>by simp[bstI]
 | k+1=>by
   have:=bstI_rng fs len k
   rw[bstI];split <;> omega
def slI (fs:List Fmt) (len rate:Int):Int:=
 if bstI fs len fs.length<0 then 0 else
  if 24<(rate+(fs[(bstI fs len fs.length).toNat]?.getD ξJ).r-1)/(fs[(bstI fs len fs.length).toNat]?.getD ξJ).r then 0
  else(rate+(fs[(bstI fs len fs.length).toNat]?.getD ξJ).r-1)/(fs[(bstI fs len fs.length).toNat]?.getD ξJ).r
theorem slI_le (fs:List Fmt) (len rate:Int):slI fs len rate≤24:=by
 unfold slI;split
 · omega
 · split <;> omega
/-! ### What lights occupy -/
def ξU (ls:List Lgt) (i:Int):Nat:=ls.foldl (fun m x=>if x.fb.contains i then m ||| mskN x.fi.toNat x.ct.toNat else m) 0
def ξP (ls:List Lgt) (fb:List Int):Nat:=fb.foldl (fun m i=>m ||| ξU ls i) 0
def fitsN (m c:Nat):List Nat:=(List.range (25-c)).filter fun s=>m &&& mskN s c==0
theorem used_bit (i:Int) (b:Nat):∀(ls:List Lgt) (m:Nat),(ls.foldl (fun m x=>if x.fb.contains i then m ||| mskN x.fi.toNat x.ct.toNat else m) m).testBit b=(m.testBit b || ls.any fun x=>x.fb.contains i&&(mskN x.fi.toNat x.ct.toNat).testBit b)
 | [],m=>by simp
 | x::ls,m=>by
   rw[List.foldl_cons,used_bit i b ls,List.any_cons]
   cases h:x.fb.contains i
   · simp
   · simp[Nat.testBit_or,Bool.or_assoc]
theorem usedN_bit (ls:List Lgt) (i:Int) (b:Nat):(ξU ls i).testBit b=ls.any fun x=>x.fb.contains i&&(mskN x.fi.toNat x.ct.toNat).testBit b:=by
 unfold ξU;rw[used_bit];simp
theorem along_bit (ls:List Lgt) (b:Nat):∀(fb:List Int) (m:Nat),(fb.foldl (fun m i=>m ||| ξU ls i) m).testBit b=(m.testBit b || fb.any fun i=>(ξU ls i).testBit b)
 | [],m=>by simp
 | i::fb,m=>by rw[List.foldl_cons,along_bit ls b fb,List.any_cons,Nat.testBit_or,Bool.or_assoc]
theorem alongN_bit (ls:List Lgt) (fb:List Int) (b:Nat):(ξP ls fb).testBit b=fb.any fun i=>(ξU ls i).testBit b:=by
 unfold ξP;rw[along_bit];simp
theorem fits_apart {ls:List Lgt} {fb:List Int} {s c:Nat} (h:ξP ls fb &&& mskN s c=0) {x:Lgt} (hx:x∈ls) (hm:ξa9 x.fb fb=true):mskN x.fi.toNat x.ct.toNat &&& mskN s c=0:=by
 apply Nat.eq_of_testBit_eq
 intro b
 have hb:=congrArg (fun n=>n.testBit b) h
 simp only[Nat.testBit_and,Nat.zero_testBit] at hb ⊢
 cases h1:(mskN s c).testBit b
 · simp
 · rw[h1,Bool.and_true] at hb
   rw[Bool.and_true]
   cases h2:(mskN x.fi.toNat x.ct.toNat).testBit b
   · rfl
   · exfalso
     unfold ξa9 at hm
     obtain⟨i,hi,hi2⟩:=List.any_eq_true.1 hm
     have h3:(ξP ls fb).testBit b=true:=by
      rw[alongN_bit]
      refine List.any_eq_true.2 ⟨i,by simpa using hi2,?_⟩
      rw[usedN_bit]
      exact List.any_eq_true.2 ⟨x,hx,by simp[hi,h2]⟩
     rw[h3] at hb;cases hb
/-! ### Choosing -/
def usaR (n:Net) (fs:List Fmt) (d:Dem):List (List Int × Int):=(allR n d.a d.b).filterMap fun fb=>if 0<slI fs (lenR n fb) d.r then some (fb,slI fs (lenR n fb) d.r) else none
def costU (u:List Int × Int):Int:=u.2*(u.1.length:Int)
def fitU (ls:List Lgt) (u:List Int × Int):List Nat:=fitsN (ξP ls u.1) u.2.toNat
def okU (ls:List Lgt) (u:List Int × Int):Bool:=!(fitU ls u).isEmpty
def pickU (n:Net) (fs:List Fmt) (d:Dem) (ls:List Lgt):Option ((List Int × Int) × Nat):=scanS costU (okU ls) (usaR n fs d) (usaR n fs d).length
def lgtU (ls:List Lgt) (id st:Int) (u:List Int × Int):Lgt:=⟨id,st,u.1,((fitU ls u).headD 0:Nat),u.2⟩
def failU (n:Net) (d:Dem):Bool:=decide (200<(allR n d.a d.b).length)
/-! ### The run -/
structure PRun where
 ls:List Lgt
 bl:List Int
def putL (ls:List Lgt) (x:Lgt):List Lgt:=ls.takeWhile (fun y=>decide (y.id<x.id))++x::ls.dropWhile (fun y=>decide (y.id<x.id))
def delP (gs:List Gro) (t:Int) (ls:List Lgt) (i:Nat):List Lgt:=if(gs[i]?.getD nilG).e=t-1 then ls.eraseP (fun x=>decide (x.id=(i:Int)+1)) else ls
def addP (n:Net) (fs:List Fmt) (gs:List Gro) (t:Int) (o:Option PRun) (i:Nat):Option PRun:=
 match o with
 | none=>none
 | some r=>
   if(gs[i]?.getD nilG).s≠t then some r
   else if failU n (gs[i]?.getD nilG).d then none
   else match pickU n fs (gs[i]?.getD nilG).d r.ls with
    | some u=>some ⟨putL r.ls (lgtU r.ls ((i:Int)+1) (gs[i]?.getD nilG).d.a u.1),r.bl⟩
    | none=>some ⟨r.ls,r.bl++[(i:Int)]⟩
def delA (gs:List Gro) (t:Int) (ls:List Lgt) (k:Nat):List Lgt:=(List.range k).foldl (delP gs t) ls
def addA (n:Net) (fs:List Fmt) (gs:List Gro) (t:Int) (o:Option PRun) (k:Nat):Option PRun:=(List.range k).foldl (addP n fs gs t) o
def perP (n:Net) (fs:List Fmt) (gs:List Gro) (t:Nat) (r:PRun):Option PRun:=addA n fs gs t (some ⟨delA gs t r.ls gs.length,r.bl⟩) gs.length
def runP (n:Net) (fs:List Fmt) (gs:List Gro):Nat→Option (List (List Lgt) × PRun)
 | 0=>some ([],⟨[],[]⟩)
 | k+1=>match runP n fs gs k with
   | none=>none
   | some (ps,r)=>match perP n fs gs k r with
     | none=>none
     | some r2=>some (ps++[r2.ls],r2)
theorem ξbI (gs:List Gro) (t:Int) (ls:List Lgt) (k:Nat):delA gs t ls (k+1)=delP gs t (delA gs t ls k) k:=by
 unfold delA;rw[List.range_succ,List.foldl_append];rfl
theorem ξaV (n:Net) (fs:List Fmt) (gs:List Gro) (t:Int) (o:Option PRun) (k:Nat):addA n fs gs t o (k+1)=addP n fs gs t (addA n fs gs t o k) k:=by
 unfold addA;rw[List.range_succ,List.foldl_append];rfl
theorem addA_fail (n:Net) (fs:List Fmt) (gs:List Gro) (t:Int) {o:Option PRun} {j k:Nat} (h:addA n fs gs t o j=none) (hj:j≤k):addA n fs gs t o k=none:=by
 induction k with
 | zero=>obtain rfl:j=0:=by omega
         exact h
 | succ k ih=>
   by_cases e:j=k+1
   · subst e;exact h
   · rw[ξaV,ih (by omega)];rfl
theorem runP_len {n:Net} {fs:List Fmt} {gs:List Gro} :∀{k:Nat} {ps:List (List Lgt)} {r:PRun},runP n fs gs k=some (ps,r)→ps.length=k
 | 0,ps,r,h=>by simp[runP] at h;rw[h.1];rfl
 | k+1,ps,r,h=>by
   rw[runP] at h
   split at h
   · cases h
   · rename_i ps0 r0 h0
     split at h
     · cases h
     · rename_i r2 h2
       cases h
       rw[ξk,runP_len h0];rfl
theorem runP_fail {n:Net} {fs:List Fmt} {gs:List Gro} {j k:Nat} (h:runP n fs gs j=none) (hj:j≤k):runP n fs gs k=none:=by
 induction k with
 | zero=>obtain rfl:j=0:=by omega
         exact h
 | succ k ih=>
   by_cases e:j=k+1
   · subst e;exact h
   · rw[runP,ih (by omega)]
theorem ξcs {d:Dem} {m:Nat} (h:demOk d m=true):inB d.a 0 ((m:Int)-1)=true∧d.a≠d.b:=by
 unfold demOk at h
 simp only[Bool.and_eq_true,bne_iff_ne,ne_eq] at h
 exact⟨h.1.1.1.1,h.1.1.2⟩
/-! ### The routes of the search are routes -/
theorem extR_wlk {n:Net} {tt:Int} :∀{f:Nat} {t:Int} {seen fb r:List Int},r∈extR n tt f t seen fb→ ∃tl,r=fb++tl∧(wlk n seen t tl).isSome=true∧(tl=[]→t=tt)
 | 0,_,_,_,_,h=>by simp[extR] at h
 | f+1,t,seen,fb,r,h=>by
   rw[extR] at h
   split at h
   · rename_i ht
     simp at h
     exact⟨[],by simp[h],rfl,fun _=>ht⟩
   · obtain⟨i,hi,hm⟩:=List.mem_flatMap.1 h
     have hi:=List.mem_range.1 hi
     split at hm
     · rename_i hc
       obtain⟨tl,e,hw,-⟩:=extR_wlk hm
       refine⟨(i:Int)::tl,by rw[e];simp,?_,fun e=>by cases e⟩
       have hin:inB (i:Int) 0 ((n.fs.length:Int)-1)=true:=inB_mk (by omega) (by omega)
       rw[wlk,if_pos hin,Int.toNat_natCast,if_neg (fun hh=>hh.elim (fun x=>by omega) hc.2)]
       exact hw
     · cases hm
theorem allR_mem {n:Net} {a b:Int} {r:List Int} (h:r∈allR n a b):r∈extR n b (n.ns.length+1) a [a] []:=by
 unfold allR ξW at h
 have key:∀(M L:List (List Int)),r∈M.foldl (insR n) L→r∈L∨r∈M:=by
  intro M
  induction M with
  | nil=>intro L h;exact .inl h
  | cons m M ih=>
    intro L h
    rcases ih _ h with h | h
    · rcases List.mem_cons.1 ((ξbG n L m).mem_iff.1 h) with e | e
      · exact .inr (by simp[e])
      · exact .inl e
    · exact .inr (by simp[h])
 rcases key _ _ h with h | h
 · cases h
 · exact List.mem_of_mem_take h
theorem allR_rou {n:Net} {a b:Int} {r:List Int} (h:r∈allR n a b) (ha:inB a 0 ((n.ns.length:Int)-1)=true) (hab:a≠b):rouOk n ⟨a,r⟩=true:=by
 obtain⟨tl,e,hw,ht⟩:=extR_wlk (allR_mem h)
 rw[List.nil_append] at e
 subst e
 have hne:r≠[]:=fun e=>hab (ht e)
 unfold rouOk rouN
 have:r.isEmpty=false:=by simpa using hne
 rw[ha,this]
 exact hw
theorem usaR_mem {n:Net} {fs:List Fmt} {d:Dem} {u:List Int × Int} (h:u∈usaR n fs d):u.1∈allR n d.a d.b∧1≤u.2∧u.2≤24:=by
 unfold usaR at h
 obtain⟨fb,h1,h2⟩:=List.mem_filterMap.1 h
 split at h2
 · rename_i hc
   cases h2
   exact⟨h1,by omega,slI_le _ _ _⟩
 · cases h2
theorem pick_in {n:Net} {fs:List Fmt} {d:Dem} {ls:List Lgt} {u:(List Int × Int) × Nat} (h:pickU n fs d ls=some u):u.1∈usaR n fs d∧okU ls u.1=true:=by
 have hb:=scanS_some (ξr _) h
 exact⟨List.mem_of_getElem? (ξb5.1 hb.1).2,hb.2.1⟩
theorem meets_comm (xs ys:List Int):ξa9 xs ys=ξa9 ys xs:=by
 have key:∀xs ys:List Int,ξa9 xs ys=true→ξa9 ys xs=true:=fun xs ys h=>by
  unfold ξa9 at h ⊢
  obtain⟨i,h1,h2⟩:=List.any_eq_true.1 h
  exact List.any_eq_true.2 ⟨i,by simpa using h2,by simpa using h1⟩
 cases h1:ξa9 xs ys
 · cases h2:ξa9 ys xs
   · rfl
   · rw[key _ _ h2] at h1;cases h1
 · rw[key _ _ h1]
theorem collB_comm (x y:Lgt):ξY x y=ξY y x:=by
 unfold ξY hitB
 rw[meets_comm]
 congr 1
 exact decide_eq_decide.2 ⟨fun h=>⟨h.2,h.1⟩,fun h=>⟨h.2,h.1⟩⟩
theorem new_ok {n:Net} {fs:List Fmt} {d:Dem} {ls:List Lgt} {u:(List Int × Int) × Nat} {id:Int} (h:pickU n fs d ls=some u) (hd:demOk d n.ns.length=true) (hid:1≤id∧id≤999) (hls:∀x∈ls,ξah n x=true):
 ξah n (lgtU ls id d.a u.1)=true∧ ∀x∈ls,ξY x (lgtU ls id d.a u.1)=false:=by
 obtain⟨hu,ho⟩:=pick_in h
 obtain⟨h1,h2,h3⟩:=usaR_mem hu
 have hdp:=ξcs hd
 obtain⟨c,hc⟩:=Int.eq_ofNat_of_zero_le (show 0≤u.1.2 by omega)
 have hne:fitU ls u.1≠[]:=by
  unfold okU at ho
  simpa using ho
 obtain⟨f,T,hf⟩:∃f T,fitU ls u.1=f::T:=by
  cases hq:fitU ls u.1 with
  | nil=>exact absurd hq hne
  | cons f T=>exact⟨f,T,rfl⟩
 have hfm:f∈fitU ls u.1:=by rw[hf];exact List.mem_cons_self
 unfold fitU fitsN at hfm
 obtain⟨hfr,hfz⟩:=List.mem_filter.1 hfm
 have hfr:=List.mem_range.1 hfr
 have hfz:ξP ls u.1.1 &&& mskN f u.1.2.toNat=0:=by simpa using hfz
 have hct:u.1.2.toNat=c:=by rw[hc];rfl
 rw[hct] at hfz hfr
 have e:lgtU ls id d.a u.1=⟨id,d.a,u.1.1,f,c⟩:=by unfold lgtU;rw[hf,hc];rfl
 rw[e]
 refine⟨?_,fun x hx=> ?_⟩
 · unfold ξah ξac
   rw[allR_rou h1 hdp.1 hdp.2,inB_mk hid.1 hid.2,inB_mk (show(1:Int)≤c by omega) (show(c:Int)≤24 by omega)]
   rw[ξt (show(0:Int)≤(f:Int) by omega),ξt (show(f:Int)≤24-(c:Int) by omega)]
   rfl
 · unfold ξY
   cases hm:ξa9 x.fb u.1.1
   · simp
   · have h0:=fits_apart hfz hx hm
     have hxo:=hls x hx
     unfold ξah at hxo
     simp only[Bool.and_eq_true] at hxo
     have hb:=ξb4 hxo.2
     have:=(mskN_meet x.fi.toNat x.ct.toNat f c (by omega) (by omega)).1 h0
     rw[Bool.and_true]
     unfold hitB
     exact ξf fun hh=>this ⟨by have:=hh.1;simp only at this;omega,by have:=hh.2;simp only at this;omega⟩
abbrev gwA (gs:List Gro) (j:Nat):Gro:=gs[j]?.getD nilG
def ξae (gs:List Gro) (t:Int) (i j:Nat):Prop:=(gwA gs j).s<t∨((gwA gs j).s=t∧j<i)
structure RunOk (n:Net) (gs:List Gro) (t:Int) (i:Nat) (r:PRun):Prop where
 srt:r.ls.Pairwise fun x y=>x.id<y.id
 apt:r.ls.Pairwise fun x y=>ξY x y=false
 ok:∀x∈r.ls,ξah n x=true
 ids:∀x∈r.ls,∃j:Nat,j<gs.length∧x.id=(j:Int)+1∧(j:Int) ∉ r.bl∧t≤(gwA gs j).e∧ξae gs t i j
 all:∀j:Nat,j<gs.length→ξae gs t i j→t≤(gwA gs j).e→(j:Int) ∉ r.bl→ ∃x∈r.ls,x.id=(j:Int)+1
 bls:∀b∈r.bl,∃j:Nat,j<gs.length∧b=(j:Int)∧ξae gs t i j
def GrsP (n:Net) (gs:List Gro):Prop:=gs.length≤12∧ ∀j,j<gs.length→demOk (gwA gs j).d n.ns.length=true∧0≤(gwA gs j).s∧(gwA gs j).s≤(gwA gs j).e∧(gwA gs j).e<8
theorem ξaN {n:Net} {gs:List Gro} (h:ξQ n gs=true):ξL n=true∧GrsP n gs:=by
 unfold ξQ at h
 simp only[Bool.and_eq_true,decide_eq_true_eq,Bool.not_eq_true',List.any_eq_false] at h
 refine⟨h.1.1,h.1.2,fun j hj=> ?_⟩
 have:=h.2 gs[j] (ξj hj)
 unfold gwA
 rw[ξg hj,Option.getD_some]
 unfold groOk at this
 simp only[Bool.not_eq_false,Bool.and_eq_true,decide_eq_true_eq] at this
 have hb:=ξO this.1.2
 exact⟨this.1.1,hb.1,hb.2,this.2⟩
theorem RunOk.start {n:Net} {gs:List Gro} (hg:GrsP n gs):RunOk n gs 0 0 ⟨[],[]⟩:=
 ⟨List.Pairwise.nil,List.Pairwise.nil,(fun x hx=>by cases hx),(fun x hx=>by cases hx),(fun j hj hb=>by
  have:=hg.2 j hj
  unfold ξae at hb;omega),(fun b hb=>by cases hb)⟩
/-! ### A light is taken out -/
theorem eraseP_mem {ls:List Lgt} (h:ls.Pairwise fun x y=>x.id<y.id) (c:Int) {x:Lgt} :x∈ls.eraseP (fun x=>decide (x.id=c))↔x∈ls∧x.id≠c:=by
 induction ls with
 | nil=>simp
 | cons y ls ih=>
   obtain⟨h1,h2⟩:=List.pairwise_cons.1 h
   by_cases e:y.id=c
   · rw[List.eraseP_cons_of_pos (by simp[e])]
     constructor
     · intro hx;exact⟨by simp[hx],by have:=h1 x hx;omega⟩
     · rintro⟨hx,hne⟩
       rcases List.mem_cons.1 hx with rfl | hx
       · exact absurd e hne
       · exact hx
   · rw[List.eraseP_cons_of_neg (by simp[e]),List.mem_cons,ih h2]
     constructor
     · rintro(rfl | ⟨hx,hne⟩)
       · exact⟨by simp,e⟩
       · exact⟨by simp[hx],hne⟩
     · rintro⟨hx,hne⟩
       rcases List.mem_cons.1 hx with rfl | hx
       · exact .inl rfl
       · exact .inr ⟨hx,hne⟩
theorem ξaP (gs:List Gro) (t:Int) (ls:List Lgt):∀k,List.Sublist (delA gs t ls k) ls
 | 0=>by simp[delA]
 | k+1=>by
   rw[ξbI,delP]
   split
   · exact List.Sublist.trans List.eraseP_sublist (ξaP gs t ls k)
   · exact ξaP gs t ls k
theorem delA_mem {gs:List Gro} {t:Int} {ls:List Lgt} (h:ls.Pairwise fun x y=>x.id<y.id) {x:Lgt} :∀{k:Nat},x∈delA gs t ls k↔x∈ls∧ ∀j,j<k→ ¬(x.id=(j:Int)+1∧(gwA gs j).e=t-1)
 | 0=>by simp[delA]
 | k+1=>by
   rw[ξbI,delP]
   have ih:=delA_mem (gs:=gs) (t:=t) h (x:=x) (k:=k)
   have hs:=List.Pairwise.sublist (ξaP gs t ls k) h
   split
   · rename_i he
     rw[eraseP_mem hs,ih]
     constructor
     · rintro⟨⟨a,b⟩,c⟩
       refine⟨a,fun j hj=> ?_⟩
       by_cases e:j=k
       · subst e;exact fun hh=>c hh.1
       · exact b j (by omega)
     · rintro⟨a,b⟩
       exact⟨⟨a,fun j hj=>b j (by omega)⟩,fun hh=>b k (by omega) ⟨hh,he⟩⟩
   · rename_i he
     rw[ih]
     constructor
     · rintro⟨a,b⟩
       refine⟨a,fun j hj=> ?_⟩
       by_cases e:j=k
       · subst e;exact fun hh=>he hh.2
       · exact b j (by omega)
     · rintro⟨a,b⟩
       exact⟨a,fun j hj=>b j (by omega)⟩
theorem RunOk.next {n:Net} {gs:List Gro} {t:Int} {r:PRun} (h:RunOk n gs t gs.length r):RunOk n gs (t+1) 0 ⟨delA gs (t+1) r.ls gs.length,r.bl⟩:=by
 have hsub:=ξaP gs (t+1) r.ls gs.length
 have hmem:=fun x=>@delA_mem gs (t+1) r.ls h.srt x gs.length
 refine⟨List.Pairwise.sublist hsub h.srt,List.Pairwise.sublist hsub h.apt,fun x hx=>h.ok x (hsub.subset hx),fun x hx=> ?_,fun j hj hb he hn=> ?_,fun b hb=> ?_⟩
 · obtain⟨hx1,hx2⟩:=(hmem x).1 hx
   obtain⟨j,hj,e,hn,he,hb⟩:=h.ids x hx1
   have:=hx2 j hj
   refine⟨j,hj,e,hn,?_,?_⟩
   · have:¬(gwA gs j).e=t:=fun hh=>this ⟨e,by omega⟩
     omega
   · unfold ξae at hb ⊢;omega
 · have hb2:ξae gs t gs.length j:=by unfold ξae at hb ⊢;omega
   obtain⟨x,hx,e⟩:=h.all j hj hb2 (by omega) hn
   refine⟨x,(hmem x).2 ⟨hx,fun i hi hh=> ?_⟩,e⟩
   have:i=j:=by omega
   subst this
   omega
 · obtain⟨j,hj,e,hb2⟩:=h.bls b hb
   exact⟨j,hj,e,by unfold ξae at hb2 ⊢;omega⟩
/-! ### A light is put in -/
theorem putL_perm (ls:List Lgt) (x:Lgt):(putL ls x).Perm (x::ls):=by
 unfold putL
 have:=List.perm_middle (a:=x) (l₁:=ls.takeWhile (fun y=>decide (y.id<x.id))) (l₂:=ls.dropWhile (fun y=>decide (y.id<x.id)))
 rwa [List.takeWhile_append_dropWhile] at this
theorem drop_ge {ls:List Lgt} (h:ls.Pairwise fun x y=>x.id<y.id) (c:Int):∀y∈ls.dropWhile (fun y=>decide (y.id<c)),c≤y.id:=by
 induction ls with
 | nil=>intro y hy;cases hy
 | cons z ls ih=>
   obtain⟨h1,h2⟩:=List.pairwise_cons.1 h
   intro y hy
   by_cases e:z.id<c
   · rw[List.dropWhile_cons_of_pos (by simp[e])] at hy
     exact ih h2 y hy
   · rw[List.dropWhile_cons_of_neg (by simp[e])] at hy
     rcases List.mem_cons.1 hy with rfl | hy
     · omega
     · have:=h1 y hy;omega
theorem take_lt (ls:List Lgt) (c:Int):∀y∈ls.takeWhile (fun y=>decide (y.id<c)),y.id<c:=by
 induction ls with
 | nil=>intro y hy;cases hy
 | cons z ls ih=>
   intro y hy
   by_cases e:z.id<c
   · rw[List.takeWhile_cons_of_pos (by simp[e])] at hy
     rcases List.mem_cons.1 hy with rfl | hy
     · exact e
     · exact ih y hy
   · rw[List.takeWhile_cons_of_neg (by simp[e])] at hy
     cases hy
theorem putL_srt {ls:List Lgt} {x:Lgt} (h:ls.Pairwise fun x y=>x.id<y.id) (hx:∀y∈ls,y.id≠x.id):(putL ls x).Pairwise fun x y=>x.id<y.id:=by
 unfold putL
 have hd:=drop_ge h x.id
 have ht:=take_lt ls x.id
 have hdm:∀y∈ls.dropWhile (fun y=>decide (y.id<x.id)),x.id<y.id:=fun y hy=>by
  have h1:=hd y hy
  have h2:=hx y ((List.dropWhile_sublist _).subset hy)
  omega
 refine List.pairwise_append.2 ⟨List.Pairwise.sublist (List.takeWhile_sublist _) h,List.pairwise_cons.2 ⟨hdm,List.Pairwise.sublist (List.dropWhile_sublist _) h⟩,fun a ha b hb=> ?_⟩
 have h1:=ht a ha
 rcases List.mem_cons.1 hb with rfl | hb
 · exact h1
 · have:=hdm b hb;omega
theorem RunOk.step {n:Net} {fs:List Fmt} {gs:List Gro} (hg:GrsP n gs) {t:Int} {i:Nat} {r r2:PRun} (hi:i<gs.length) (h:RunOk n gs t i r) (ht:addP n fs gs t (some r) i=some r2):RunOk n gs t (i+1) r2:=by
 have hgi:=hg.2 i hi
 have hg12:=hg.1
 unfold addP at ht
 simp only at ht
 have up:∀j,ξae gs t i j→ξae gs t (i+1) j:=fun j hb=>by unfold ξae at hb ⊢;omega
 have nb:∀j,ξae gs t i j→(gwA gs i).s=t→j≠i:=fun j hb hs e=>by subst e;unfold ξae at hb;omega
 split at ht
 · rename_i hs
   cases ht
   have dn:∀j,ξae gs t (i+1) j→ξae gs t i j:=fun j hb=>by
    unfold ξae at hb ⊢
    by_cases e:j=i
    · subst e;exact .inl (by have:=hs;unfold gwA at hb ⊢;omega)
    · omega
   exact⟨h.srt,h.apt,h.ok,fun x hx=>by obtain⟨j,a,b,c,d,e⟩:=h.ids x hx;exact⟨j,a,b,c,d,up j e⟩,fun j hj hb=>h.all j hj (dn j hb),fun b hb=>by obtain⟨j,a,e,c⟩:=h.bls b hb;exact⟨j,a,e,up j c⟩⟩
 · rename_i hs
   have hs:(gwA gs i).s=t:=Classical.not_not.1 hs
   split at ht
   · cases ht
   · split at ht
     · rename_i u hu
       cases ht
       obtain⟨k1,k2⟩:=new_ok (id:=(i:Int)+1) hu hgi.1 (by omega) h.ok
       have hp:=putL_perm r.ls (lgtU r.ls ((i:Int)+1) (gwA gs i).d.a u.1)
       have hid:(lgtU r.ls ((i:Int)+1) (gwA gs i).d.a u.1).id=(i:Int)+1:=rfl
       generalize lgtU r.ls ((i:Int)+1) (gwA gs i).d.a u.1=x at *
       have hne:∀y∈r.ls,y.id≠x.id:=fun y hy e=>by
        obtain⟨j,hj,ej,_,_,hb⟩:=h.ids y hy
        exact nb j hb hs (by omega)
       have hib:(i:Int) ∉ r.bl:=fun hb=>by
        obtain⟨j,hj,ej,hb2⟩:=h.bls _ hb
        exact nb j hb2 hs (by omega)
       have hbi:ξae gs t (i+1) i:= .inr ⟨hs,by omega⟩
       refine⟨putL_srt h.srt hne,?_,fun y hy=> ?_,fun y hy=> ?_,fun j hj hb he hn=> ?_,fun b hb=> ?_⟩
       · refine(List.Perm.pairwise_iff (fun {a b} hh=>by rw[collB_comm];exact hh) hp).2 (List.pairwise_cons.2 ⟨fun y hy=> ?_,h.apt⟩)
         rw[collB_comm];exact k2 y hy
       · rcases List.mem_cons.1 (hp.mem_iff.1 hy) with rfl | hy
         · exact k1
         · exact h.ok y hy
       · rcases List.mem_cons.1 (hp.mem_iff.1 hy) with rfl | hy
         · exact⟨i,hi,hid,hib,by omega,hbi⟩
         · obtain⟨j,a,b,c,d,e⟩:=h.ids y hy
           exact⟨j,a,b,c,d,up j e⟩
       · by_cases e:j=i
         · subst e;exact⟨x,hp.mem_iff.2 (by simp),hid⟩
         · obtain⟨y,hy,ey⟩:=h.all j hj (by unfold ξae at hb ⊢;omega) he hn
           exact⟨y,hp.mem_iff.2 (by simp[hy]),ey⟩
       · obtain⟨j,a,e,c⟩:=h.bls b hb
         exact⟨j,a,e,up j c⟩
     · cases ht
       refine⟨h.srt,h.apt,h.ok,fun y hy=> ?_,fun j hj hb he hn=> ?_,fun b hb=> ?_⟩
       · obtain⟨j,a,b,c,d,e⟩:=h.ids y hy
         have:=nb j e hs
         exact⟨j,a,b,by simp[c];omega,d,up j e⟩
       · simp only[List.mem_append,List.mem_singleton,not_or] at hn
         exact h.all j hj (by unfold ξae at hb ⊢;omega) he hn.1
       · rcases List.mem_append.1 hb with hb | hb
         · obtain⟨j,a,e,c⟩:=h.bls b hb
           exact⟨j,a,e,up j c⟩
         · simp at hb
           exact⟨i,hi,hb,.inr ⟨hs,by omega⟩⟩
theorem addP_bl {n:Net} {fs:List Fmt} {gs:List Gro} {t:Int} {i:Nat} {r r2:PRun} (h:addP n fs gs t (some r) i=some r2):r2.bl=r.bl∨(r2.bl=r.bl++[(i:Int)]∧(gwA gs i).s=t):=by
 unfold addP at h
 simp only at h
 split at h
 · cases h;exact .inl rfl
 · rename_i hs
   split at h
   · cases h
   · split at h
     · cases h;exact .inl rfl
     · cases h;exact .inr ⟨rfl,Classical.not_not.1 hs⟩
theorem ξbw {n:Net} {fs:List Fmt} {gs:List Gro} (hg:GrsP n gs) {t:Int} {r:PRun} (h0:RunOk n gs t 0 r):∀{i:Nat} {r2:PRun},i≤gs.length→addA n fs gs t (some r) i=some r2→RunOk n gs t i r2∧ ∃tl,r2.bl=r.bl++tl∧ ∀b∈tl,∃j:Nat,j<gs.length∧b=(j:Int)∧(gwA gs j).s=t
 | 0,r2,_,h=>by
   unfold addA at h
   simp at h
   subst h
   exact⟨h0,[],by simp,fun b hb=>by cases hb⟩
 | i+1,r2,hi,h=>by
   rw[ξaV] at h
   cases h1:addA n fs gs t (some r) i with
   | none=>rw[h1] at h;cases h
   | some r1=>
     rw[h1] at h
     obtain⟨a,tl,e,hb⟩:=ξbw hg h0 (by omega) h1
     refine⟨RunOk.step hg (by omega) a h,?_⟩
     rcases addP_bl h with e2 | ⟨e2,hs⟩
     · exact⟨tl,by rw[e2,e],hb⟩
     · refine⟨tl++[(i:Int)],by rw[e2,e,List.append_assoc],fun b hbm=> ?_⟩
       rcases List.mem_append.1 hbm with hbm | hbm
       · exact hb b hbm
       · simp at hbm
         exact⟨i,by omega,hbm,hs⟩
theorem ξaz {n:Net} {fs:List Fmt} {gs:List Gro} (hg:GrsP n gs):∀{k:Nat} {ps:List (List Lgt)} {r:PRun},runP n fs gs k=some (ps,r)→
 RunOk n gs k 0 ⟨delA gs k r.ls gs.length,r.bl⟩∧ ∀t:Nat,t<k→ ∃rt:PRun,ps[t]?= some rt.ls∧RunOk n gs t gs.length rt∧ ∃tl,r.bl=rt.bl++tl∧ ∀b∈tl,∃j:Nat,j<gs.length∧b=(j:Int)∧(t:Int)<(gwA gs j).s
 | 0,ps,r,h=>by
   rw[runP] at h
   cases h
   refine⟨?_,fun t ht=>by omega⟩
   have e:delA gs ((0:Nat):Int) [] gs.length=[]:=List.eq_nil_of_sublist_nil (ξaP gs _ [] gs.length)
   simp only
   rw[e]
   exact RunOk.start hg
 | k+1,ps,r,h=>by
   rw[runP] at h
   split at h
   · cases h
   · rename_i ps0 r0 h0
     split at h
     · cases h
     · rename_i r2 h2
       cases h
       obtain⟨a,b⟩:=ξaz hg h0
       unfold perP at h2
       obtain⟨c,tl,e,hb⟩:=ξbw hg a (ξr _) h2
       have hl:=runP_len h0
       refine⟨by have:=RunOk.next c;push_cast;exact this,fun t ht=> ?_⟩
       by_cases hk:t=k
       · subst hk
         exact⟨r,by rw[List.getElem?_append_right (by omega),hl];simp,c,[],by simp,fun b hb=>by cases hb⟩
       · obtain⟨rt,x1,x2,tl2,x3,x4⟩:=b t (by omega)
         refine⟨rt,by rw[List.getElem?_append_left (by omega)];exact x1,x2,tl2++tl,by rw[e];simp only;rw[x3,List.append_assoc],fun b hbm=> ?_⟩
         rcases List.mem_append.1 hbm with hbm | hbm
         · exact x4 b hbm
         · obtain⟨j,y1,y2,y3⟩:=hb b hbm
           exact⟨j,y1,y2,by omega⟩
theorem asc_len:∀{xs:List Int} {lo m:Int},xs.Pairwise (· < ·)→(∀x∈xs,lo≤x∧x≤m)→lo≤m+1→(xs.length:Int)≤m-lo+1
 | [],lo,m,_,_,h=>by simp;omega
 | x::xs,lo,m,h,hb,hm=>by
   obtain⟨h1,h2⟩:=List.pairwise_cons.1 h
   have hx:=hb x (by simp)
   have:=asc_len (lo:=x+1) (m:=m) h2 (fun y hy=>⟨by have:=h1 y hy;omega,(hb y (by simp[hy])).2⟩) (by omega)
   simp only[List.length_cons];push_cast;omega
theorem RunOk.len {n:Net} {gs:List Gro} {t:Int} {i:Nat} {r:PRun} (hg:GrsP n gs) (h:RunOk n gs t i r):r.ls.length≤12:=by
 have hp:(r.ls.map (·.id)).Pairwise (· < ·):=List.pairwise_map.2 h.srt
 have:=asc_len (lo:=1) (m:=gs.length) hp (fun x hx=>by
  obtain⟨y,hy,rfl⟩:=List.mem_map.1 hx
  obtain⟨j,hj,e,_⟩:=h.ids y hy
  omega) (by omega)
 rw[List.length_map] at this
 have:=hg.1
 omega
theorem addP_nd {n:Net} {fs:List Fmt} {gs:List Gro} {t:Int} {i:Nat} {r r2:PRun} (h:addP n fs gs t (some r) i=some r2) (hn:r.bl.Nodup) (hb:∀b∈r.bl,∃j:Nat,j<gs.length∧b=(j:Int)∧ξae gs t i j):r2.bl.Nodup:=by
 rcases addP_bl h with e | ⟨e,hs⟩
 · rw[e];exact hn
 · rw[e,List.nodup_append]
   refine⟨hn,by simp,fun a ha b hbm e2=> ?_⟩
   simp only[List.mem_singleton] at hbm
   subst hbm;subst e2
   obtain⟨j,hj,ej,hg⟩:=hb _ ha
   have:j=i:=by omega
   subst this
   unfold ξae at hg
   omega
theorem addA_nd {n:Net} {fs:List Fmt} {gs:List Gro} (hg:GrsP n gs) {t:Int} {r:PRun} (h0:RunOk n gs t 0 r) (hn:r.bl.Nodup):∀{i:Nat} {r2:PRun},i≤gs.length→addA n fs gs t (some r) i=some r2→r2.bl.Nodup
 | 0,r2,_,h=>by
   unfold addA at h
   simp at h
   subst h
   exact hn
 | i+1,r2,hi,h=>by
   rw[ξaV] at h
   cases h1:addA n fs gs t (some r) i with
   | none=>rw[h1] at h;cases h
   | some r1=>
     rw[h1] at h
     exact addP_nd h (addA_nd hg h0 hn (by omega) h1) (ξbw hg h0 (by omega) h1).1.bls
theorem runP_nd {n:Net} {fs:List Fmt} {gs:List Gro} (hg:GrsP n gs):∀{k:Nat} {ps:List (List Lgt)} {r:PRun},runP n fs gs k=some (ps,r)→r.bl.Nodup
 | 0,ps,r,h=>by
   rw[runP] at h
   cases h
   exact List.nodup_nil
 | k+1,ps,r,h=>by
   rw[runP] at h
   split at h
   · cases h
   · rename_i ps0 r0 h0
     split at h
     · cases h
     · rename_i r2 h2
       cases h
       exact addA_nd hg (ξaz hg h0).1 (show r0.bl.Nodup from runP_nd hg h0) (ξr _) h2
theorem srt_ust {xs:List Int} (h:xs.Nodup):srt xs=ust xs:=by
 refine asc_ext ?_ (ust_asc xs) fun x=>by rw[srt_mem,ξb3]
 have h1:=srt_sorted xs
 have h2:(srt xs).Nodup:=((List.mergeSort_perm xs _).nodup_iff).2 h
 exact(List.Pairwise.and h1 h2).imp fun {a b} hh=>by have:=hh.1;have:=hh.2;omega
theorem ξaC {w:World} {x:Value} {u:Value} (h:Rdt w (.leaf x) u):u=x:=by cases h;rfl
theorem ξa1 {w:World} {v:Value} {zs:List Lgt} (h:Rdt w (rws 5 lgtD zs) v):∃a n cap,v= .slice a n cap∧Hid (zs.length=n)∧n≤cap∧n≤9223372036854775807∧
 (0<n→ ∃b off,a=some ⟨b,off,none⟩∧b<w.heap.size∧ ∀i,i<n→ ∃u,w.cell? ⟨b,off+i*5,none⟩=some (.int .i64 (zs[i]?.getD nilL).id)∧w.cell? ⟨b,off+i*5+1,none⟩=some (.int .i64 (zs[i]?.getD nilL).st)∧
   w.cell? ⟨b,off+i*5+2,none⟩=some u∧w.cell? ⟨b,off+i*5+3,none⟩=some (.int .i64 (zs[i]?.getD nilL).fi)∧w.cell? ⟨b,off+i*5+4,none⟩=some (.int .i64 (zs[i]?.getD nilL).ct)∧Rd w u (zs[i]?.getD nilL).fb):=by
 obtain⟨a,n,cap,e,HN,h1,h2,h3⟩:=rws_opn (m:=5) (en:=lgtD) (fun _=>rfl) (by omega) nilL h
 refine⟨a,n,cap,e,HN,h1,h2,fun h0=> ?_⟩
 obtain⟨b,off,ea,hb,hc⟩:=h3 h0
 refine⟨b,off,ea,hb,fun i hi=> ?_⟩
 obtain⟨u0,k0,d0⟩:=hc i hi 0 _ rfl
 obtain⟨u1,k1,d1⟩:=hc i hi 1 _ rfl
 obtain⟨u2,k2,d2⟩:=hc i hi 2 _ rfl
 obtain⟨u3,k3,d3⟩:=hc i hi 3 _ rfl
 obtain⟨u4,k4,d4⟩:=hc i hi 4 _ rfl
 rw[ξaC d0] at k0
 rw[ξaC d1] at k1
 rw[ξaC d3] at k3
 rw[ξaC d4] at k4
 exact⟨u2,k0,k1,k2,k3,k4,Rdt.toRd d2⟩
theorem ξbz (v:Value) (zs:List Lgt) (F:FuncId) (b0:Nat) (p:Lgt→Bool) (w:World) (h:Rdt w (rws 5 lgtD zs) v) (hF:IsFn F)
 (hp:∀(i:Nat) (w':World),i<zs.length→Below w.heap.size w w'→ ∀z u,z=zs[i]?.getD nilL→Rd w' u z.fb→Calls Tryz.prog F #[.agg #[.int .i64 z.id,.int .i64 z.st,u,.int .i64 z.fi,.int .i64 z.ct],ptr b0] w' fun e w2=>e= .returned (.bool (p z))∧Below w'.heap.size w' w2):
 Calls Tryz.prog 141 #[v,.func (.func F) #[] #[ptr b0]] w fun e w'=>e= .returned (.int .i64 (idxG zs p))∧Below w.heap.size w w':=by
 obtain⟨a,n,cap,rfl,HN,_,hla,ha⟩:=ξa1 h
 rw[HN.out] at hp
 have HP:=ξh hp
 have HA:=ξh ha
 clear hp ha h
 have hF:=show∀(args:Array Value) (w:World),(callFunc F args).run Tryz.prog w= .ok (.enter F args) w from hF
 have HI:=ξh (fun k hk h e=>ξbe (zs:=zs) (p:=p) (nil:=nilL) (k:=k) hk h e)
 have HO:=ξh (ξaU (zs:=zs) (p:=p))
 have HM:=ξh (fun k hk h e=>ξaT (zs:=zs) (p:=p) (nil:=nilL) (k:=k) hk h e)
 generalize idxG zs p=r at *
 go_enter Tryz.func141,Tryz.ntmps141
 go_wp2
 go_loopw [5,8] (fun _ i wr=>∃k:Nat,k≤n∧i= .int .i64 k∧Hid ((zs.take k).any p=false)∧Hid (Below w.heap.size w wr)) (fun _ i _=>n-(intOf i).toNat)
 case atStart=>exact⟨0,by omega,rfl,by simp[Hid],ξb _ _⟩
 case round=>
  obtain⟨k,hk,rfl,HT,HB⟩:=hrel
  by_cases hlt:k<n
  · have hltI:(k:Int)<(n:Int):=by omega
    have hkx:k<zs.length:=by rw[HN.out];exact hlt
    obtain⟨b,off,rfl,hbs,hcs⟩:=HA.out (by omega)
    obtain⟨u,e0,e1,e2,e3,e4,hru⟩:=hcs k hlt
    have hw0:=(HB.cell (p:=⟨b,off+k*5,none⟩) hbs).trans e0
    have hw1:=(HB.cell (p:=⟨b,off+k*5+1,none⟩) hbs).trans e1
    have hw2:=(HB.cell (p:=⟨b,off+k*5+2,none⟩) hbs).trans e2
    have hw3:=(HB.cell (p:=⟨b,off+k*5+3,none⟩) hbs).trans e3
    have hw4:=(HB.cell (p:=⟨b,off+k*5+4,none⟩) hbs).trans e4
    have HSL:=hru.opn
    have HPK:=ξh (HP.out k wr hlt HB.out _ u rfl (hru.belowAll HB.out))
    have HIK:=ξh (HI.out k hkx HT.out)
    have HMK:=ξh (HM.out k hkx HT.out)
    obtain⟨au,cu,nu,-,rfl,-,-,-⟩:=HSL
    clear hcs hkx e0 e1 e2 e3 e4 hru
    generalize zs[k]?.getD nilL=z at *
    generalize p z=pz at *
    have hz:=HB.size
    cases pz
    · have HE:=ξh (HMK.out rfl)
      go_wp2_with fail
      refine HPK.mono ?_
      rintro e w2 ⟨rfl,b2⟩
      have HB2:=ξh (HB.trans (b2.mono hz))
      clear b2
      go_wp2
      go_roundw
      case rel=>exact⟨k+1,by omega,by go_num,HE.out,HB2.out⟩
      case measure=>simp[intOf];omega
    · have HE:=ξh (HIK.out rfl)
      go_wp2_with fail
      refine HPK.mono ?_
      rintro e w2 ⟨rfl,b2⟩
      have HB2:=ξh (HB.trans (b2.mono hz))
      clear b2
      go_wp2
      go_ret
      exact⟨by rw[HE.out];rfl,HB2.out⟩
  · obtain rfl:n=k:=by omega
    have hall:=HT.out
    rw[←HN.out,List.take_length] at hall
    have HE:=ξh (HO.out hall)
    clear hall
    go_wp2
    go_ret
    exact⟨by rw[HE.out];rfl,HB.out⟩
end Go.Proofs.YtofcicomhnkocaaGreat
