/- Joined: XSymP XNamP XInt XIntW XSymW XNamW XNamS XTre. -/
import Derived.WalkKit
import Derived.Lib.Hide
import Derived.Test.YtofcicomhnkocaaGreatProg
import Derived.Deep.DeepFit
import Derived.Deep.QuietTactic
import Derived.BigQuiet
import Derived.Deep.LoopGhost
import Derived.Deep.DeepMust
import Derived.StillTailTactics
import Derived.Deep.RegionHeld3
import Derived.WalkSpells
import Derived.WalkLawsBesides
import Derived.Handy
import Derived.OpenShut
import Derived.Deep.AppendLies
set_option linter.unusedVariables false
namespace Go.Proofs.YtofcicomhnkocaaGreat
set_option maxHeartbeats 3200000
open Go.RowKit
def inB (n lo hi:Int):Bool:=decide (lo≤n)&&decide (n≤hi)
theorem inB_true {n lo hi:Int} (h:inB n lo hi=true):lo≤n∧n≤hi:=by simpa[inB] using h
theorem inB_mk {n lo hi:Int} (h:lo≤n) (h2:n≤hi):inB n lo hi=true:=by simp[inB,h,h2]
def m1 (a b:Nat):Nat→Nat
 | 0=>0
 | k+1=>if(b/2 ^ k)%2=1 then m1 a b k ^^^ (a*2 ^ k) else m1 a b k
def r1 (x:Nat):Nat→Nat
 | 0=>x
 | k+1=>if(r1 x k/2 ^ (6-k))%2=1 then r1 x k ^^^ (19*2 ^ (2-k)) else r1 x k
def letB (c:UInt8):Bool:=decide (97≤(c.toNat:Int))&&decide ((c.toNat:Int)≤122)
def digB (c:UInt8):Bool:=decide (48≤(c.toNat:Int))&&decide ((c.toNat:Int)≤57)
def sgnB (c:UInt8):Bool:=letB c || digB c
def hd0 (s:ByteArray):Bool:=match s.data.toList with | []=>false | c::_=>letB c
def nameOk (s:ByteArray):Bool:=decide (1≤s.size)&&decide (s.size≤8)&&hd0 s&&s.data.toList.all sgnB
theorem nam_snoc (s:ByteArray) (k:Nat) (h:k<s.size):s.data.toList.take (k+1)=s.data.toList.take k++[s[k]]:=by
 rw[List.take_succ_eq_append_getElem (by simpa using h)];rfl
theorem nam_all (s:ByteArray):s.data.toList.take s.size=s.data.toList:=List.take_of_length_le (by simp)
theorem nam_step {s:ByteArray} {p:UInt8→Bool} {k:Nat} (hk:k<s.size) (h:(s.data.toList.take k).all p=true) (e:p s[k]=true):(s.data.toList.take (k+1)).all p=true:=by
 rw[nam_snoc s k hk,List.all_append,h];simp[e]
theorem nam_no {s:ByteArray} {p:UInt8→Bool} {k:Nat} (hk:k<s.size) (e:p s[k]=false):s.data.toList.all p=false:=by
 rw[List.all_eq_false]
 exact⟨s[k],by rw[List.mem_iff_getElem];exact⟨k,by simpa using hk,rfl⟩,by simp[e]⟩
theorem hd0_of {s:ByteArray} (h:0<s.size):hd0 s=letB s[0]:=by
 have e:s[0]=s.data.toList[0]'(by simpa using h):=rfl
 rw[e]
 unfold hd0
 split
 · rename_i he
   have h3:s.data.toList.length=s.size:=by simp
   rw[he,List.length_nil] at h3
   omega
 · rename_i c l he
   simp[he]
theorem nameOk_sgn {s:ByteArray} (h:s.data.toList.all sgnB=false):nameOk s=false:=by unfold nameOk;rw[h];simp
theorem nameOk_hd {s:ByteArray} (h:hd0 s=false):nameOk s=false:=by unfold nameOk;rw[h];simp
theorem nameOk_len {s:ByteArray} (h:¬(1≤s.size∧s.size≤8)):nameOk s=false:=by
 unfold nameOk
 by_cases h1:1≤s.size
 · rw[decide_eq_false (show¬s.size≤8 by omega)];simp
 · rw[decide_eq_false h1];simp
theorem nameOk_yes {s:ByteArray} (h:1≤s.size∧s.size≤8) (h2:hd0 s=true) (h3:s.data.toList.all sgnB=true):nameOk s=true:=by
 unfold nameOk;rw[h2,h3,decide_eq_true h.1,decide_eq_true h.2];rfl
theorem int_eq {k:IntKind} {a b:Int} (h:a=b):Value.int k a=Value.int k b:=by rw[h]
theorem ret_int {k:IntKind} {a b:Int} (h:a=b):Ending.returned (.int k a)= .returned (.int k b):=by rw[h]
abbrev ints (xs:List Int):List Value:=xs.map (Value.int .i64)
def Rd (w:World) (v:Value) (xs:List Int):Prop:=
 (v= .slice none 0 0∧xs=[])∨
 ∃b off cap,v= .slice (some ⟨b,off,none⟩) xs.length cap∧xs.length≤cap∧cap≤maxLen∧b<w.heap.size∧ ∀j,j<xs.length→w.cell? ⟨b,off+j,none⟩=some (.int .i64 ((xs[j]?.getD 0)))
def Own (w:World) (base:Nat) (v:Value) (xs:List Int):Prop:=
 (v= .slice none 0 0∧xs=[])∨
 ∃g off cap cur,v= .slice (some ⟨g,off,none⟩) xs.length cap∧base≤g∧(∃T,w.heap[g]?= some (.cells cur T (0,0)))∧xs.length≤cap∧cap≤maxLen∧off+cap≤cur.size∧(cur.toList.drop off).take xs.length=ints xs
theorem Own.rd {w:World} {base:Nat} {v:Value} {xs:List Int} (h:Own w base v xs):Rd w v xs:=by
 rcases h with h | ⟨g,off,cap,cur,hv,hb,⟨T,hg⟩,hl,hm,hs,ht⟩
 · exact .inl h
 · refine .inr ⟨g,off,cap,hv,hl,hm,(Array.getElem?_eq_some_iff.1 hg).1,fun j hj=> ?_⟩
   rw[cell_of_row w g (off+j) cur _ (0,0) hg]
   have e:((cur.toList.drop off).take xs.length)[j]?= (ints xs)[j]?:=by rw[ht]
   rw[List.getElem?_take,if_pos hj,List.getElem?_drop] at e
   rw[←Array.getElem?_toList,e]
   simp[hj]
theorem Own.lt {w:World} {base:Nat} {v:Value} {xs:List Int} (h:Own w base v xs):∀k,v.ownBlock=some k→base≤k∧k<w.heap.size:=by
 intro k hk
 rcases h with ⟨rfl,_⟩ | ⟨g,off,cap,cur,rfl,hb,⟨T,hg⟩,_⟩
 · simp[Value.ownBlock] at hk
 · simp[Value.ownBlock] at hk
   subst hk
   exact⟨hb,(Array.getElem?_eq_some_iff.1 hg).1⟩
theorem Own.mono {w:World} {base base':Nat} {v:Value} {xs:List Int} (h:Own w base v xs) (hb:base'≤base):Own w base' v xs:=by
 rcases h with h | ⟨g,off,cap,cur,hv,hbg,rest⟩
 · exact .inl h
 · exact .inr ⟨g,off,cap,cur,hv,by omega,rest⟩
theorem Own.kept {w w':World} {base:Nat} {v:Value} {xs:List Int} (h:Own w base v xs) (hk:∀k,v.ownBlock=some k→w'.heap[k]?= w.heap[k]?):Own w' base v xs:=by
 rcases h with h | ⟨g,off,cap,cur,hv,hbg,hg,rest⟩
 · exact .inl h
 · subst hv
   obtain⟨T,hg⟩:=hg
   exact .inr ⟨g,off,cap,cur,rfl,hbg,⟨T,by rw[hk g rfl];exact hg⟩,rest⟩
theorem Own.below {B base:Nat} {w w':World} {v:Value} {xs:List Int} (h:Own w base v xs) (hb:Below B w w') (hB:∀k,v.ownBlock=some k→k<B):Own w' base v xs:=
 h.kept fun k hk=>hb.block k (hB k hk)
theorem Own.belowAll {base:Nat} {w w':World} {v:Value} {xs:List Int} (h:Own w base v xs) (hb:Below w.heap.size w w'):Own w' base v xs:=
 h.below hb fun k hk=>(h.lt k hk).2
theorem Rd.drew {w:World} {v:Value} {xs:List Int} (h:Rd w v xs):Rd w.drew v xs:=h
theorem Rd.below {B:Nat} {w w':World} {v:Value} {xs:List Int} (h:Rd w v xs) (hb:Below B w w') (hB:∀k,v.ownBlock=some k→k<B):Rd w' v xs:=by
 rcases h with h | ⟨b,off,cap,hv,h1,h2,h3,h4⟩
 · exact .inl h
 · subst hv
   exact .inr ⟨b,off,cap,rfl,h1,h2,by have:=hb.size;omega,fun j hj=>by rw[hb.cell (p:=⟨b,off+j,none⟩) (hB b rfl)];exact h4 j hj⟩
theorem Rd.belowAll {w w':World} {v:Value} {xs:List Int} (h:Rd w v xs) (hb:Below w.heap.size w w'):Rd w' v xs:=by
 refine h.below hb fun k hk=> ?_
 rcases h with ⟨rfl,_⟩ | ⟨b,off,cap,rfl,h1,h2,h3,h4⟩
 · simp[Value.ownBlock] at hk
 · simp[Value.ownBlock] at hk;omega
theorem Rd.shape {w:World} {v:Value} {xs:List Int} (h:Rd w v xs):∃a cap,v= .slice a xs.length cap∧xs.length≤cap∧cap≤maxLen∧
 (0<xs.length→ ∃b off,a=some ⟨b,off,none⟩∧b<w.heap.size∧ ∀j,j<xs.length→w.cell? ⟨b,off+j,none⟩=some (.int .i64 ((xs[j]?.getD 0)))):=by
 rcases h with ⟨rfl,rfl⟩ | ⟨b,off,cap,rfl,h1,h2,h3,h4⟩
 · exact⟨none,0,rfl,by simp,by simp,by simp⟩
 · exact⟨_,_,rfl,h1,h2,fun _=>⟨b,off,rfl,h3,h4⟩⟩
theorem _root_.Go.World.grownBy.trans' {a b c:World} {row:Option Nat} (h:a.grownBy b row) (h2:b.grownBy c row):a.grownBy c row:=
 ⟨h2.os.trans h.os,h2.tape.trans h.tape,h2.output.trans h.output,Nat.le_trans h.size h2.size,fun k hk hne=>(h2.block k (by have:=h.size;omega) hne).trans (h.block k hk hne)⟩
def Dr (w w':World):Prop:=∃n,w'=w.drewN n
theorem Dr.refl (w:World):Dr w w:=⟨0,rfl⟩
theorem Dr.drewN {w w':World} (h:Dr w w') (n:Nat):Dr w (w'.drewN n):=by
 obtain⟨m,rfl⟩:=h
 exact⟨m+n,by simp⟩
theorem Dr.drew {w w':World} (h:Dr w w'):Dr w w'.drew:=h.drewN 1
theorem Dr.below {B:Nat} {a w w':World} (h:Dr w w') (hb:Below B a w):Below B a w':=by
 obtain⟨m,rfl⟩:=h
 exact hb.trans ⟨rfl,rfl,rfl,Nat.le_refl _,fun _ _=>rfl⟩
theorem Rd.opn {w:World} {v:Value} {xs:List Int} (h:Rd w v xs):∃a cap n,Hid (xs.length=n)∧v= .slice a n cap∧n≤cap∧n≤9223372036854775807∧
 (0<n→ ∃b off,a=some ⟨b,off,none⟩∧b<w.heap.size∧ ∀j,j<n→w.cell? ⟨b,off+j,none⟩=some (.int .i64 ((xs[j]?.getD 0)))):=by
 obtain⟨a,cap,hv,h1,h2,h3⟩:=h.shape
 unfold maxLen at h2
 exact⟨a,cap,xs.length,rfl,hv,h1,by omega,h3⟩
theorem own_of_row {w:World} {base:Nat} {v:Value} {n:Nat} {xs:List Int} (h:w.ownsRow base 3 1 v n (ints xs)):Own w base v xs:=by
 obtain⟨hl,h⟩:=h
 have hn:n=xs.length:=by simpa using hl.symm
 subst hn
 rcases h with ⟨rfl,h0⟩ | ⟨g,cap,cur,rfl,hb,hg,h1,h2,h3,h4⟩
 · exact .inl ⟨rfl,List.eq_nil_of_length_eq_zero h0⟩
 · exact .inr ⟨g,0,cap,cur,rfl,hb,⟨_,hg⟩,h1,h2,by omega,by simpa using h4⟩
theorem Own.stored {w:World} {base:Nat} {v:Value} {xs:List Int} {g off n cap:Nat} (h:Own w base v xs) (hv:v= .slice (some ⟨g,off,none⟩) n cap) (j:Nat) (hj:j<xs.length) (u:Int):
 Own (w.setCell ⟨g,off+j,none⟩ (.int .i64 u)) base v (xs.set j u)∧w.grownBy (w.setCell ⟨g,off+j,none⟩ (.int .i64 u)) (some g):=by
 rcases h with ⟨rfl,rfl⟩ | ⟨g',off',cap',cur,hv',hb,⟨T,hg⟩,h1,h2,h3,h4⟩
 · simp at hj
 · rw[hv'] at hv
   simp only[Value.slice.injEq,Option.some.injEq,Addr.mk.injEq,and_true] at hv
   obtain⟨⟨rfl,rfl⟩,rfl,rfl⟩:=hv
   refine⟨.inr ⟨g',off',cap',cur.setIfInBounds (off'+j) (.int .i64 u),by simpa using hv',hb,⟨T,heap_setCell_same w g' (off'+j) cur _ _ hg⟩,by simpa using h1,h2,by simpa using h3,?_⟩,
    ⟨rfl,rfl,rfl,by simp,fun k _ hk=>heap_setCell_other w ⟨g',off'+j,none⟩ k _ (fun e=>hk (by simp[e]))⟩⟩
   rw[Array.toList_setIfInBounds,List.length_set]
   show List.take xs.length (List.drop off' (cur.toList.set (off'+j) (.int .i64 u)))=(xs.set j u).map (Value.int .i64)
   rw[List.map_set]
   show _=(ints xs).set j (Value.int .i64 u)
   rw[←h4,List.drop_set,if_neg (by omega),List.take_set]
   congr 1;omega
theorem Own.frozenAt {w:World} {base:Nat} {v:Value} {xs:List Int} {g off n cap:Nat} (h:Own w base v xs) (hv:v= .slice (some ⟨g,off,none⟩) n cap) (j:Nat):w.frozen? ⟨g,j,none⟩=false:=by
 rcases h with ⟨rfl,rfl⟩ | ⟨g',off',cap',cur,hv',hb,⟨T,hg⟩,h1,h2,h3,h4⟩
 · simp at hv
 · rw[hv'] at hv
   simp only[Value.slice.injEq,Option.some.injEq,Addr.mk.injEq,and_true] at hv
   obtain⟨⟨rfl,rfl⟩,rfl,rfl⟩:=hv
   exact frozen_of_row w g' j cur _ hg
theorem Own.cellAt {w:World} {base:Nat} {v:Value} {xs:List Int} {g off n cap:Nat} (h:Own w base v xs) (hv:v= .slice (some ⟨g,off,none⟩) n cap):n=xs.length∧ ∀j,j<xs.length→w.cell? ⟨g,off+j,none⟩=some (.int .i64 ((xs[j]?.getD 0))):=by
 rcases h.rd with ⟨rfl,rfl⟩ | ⟨b,off',cap',hv',h1,h2,h3,h4⟩
 · simp at hv
 · rw[hv'] at hv
   simp only[Value.slice.injEq,Option.some.injEq,Addr.mk.injEq,and_true] at hv
   obtain⟨⟨rfl,rfl⟩,rfl,rfl⟩:=hv
   exact⟨rfl,h4⟩
theorem Tryz.infoInt:(Tryz.prog.info? 3).map (fun i=>(i.zero,i.size,i.bytes))=some (some (.int .i64 0),1,8):=by kernel_rfl
theorem take_succ' (zs:List Int) (k:Nat) (hk:k<zs.length):zs.take (k+1)=zs.take k++[zs[k]?.getD 0]:=by
 rw[List.take_add_one,List.getElem?_eq_getElem hk];rfl
theorem take_eq_step {xs ys:List Int} {k:Nat} (hx:k<xs.length) (hy:k<ys.length) (h:xs.take k=ys.take k) (e:(xs[k]?.getD 0)=(ys[k]?.getD 0)):xs.take (k+1)=ys.take (k+1):=by
 rw[take_succ' _ _ hx,take_succ' _ _ hy,h]
 congr 1
 simpa[List.getD] using e
def eqL (xs ys:List Int):Bool:=decide (xs=ys)
theorem eqL_refl (xs:List Int):eqL xs xs=true:=by simp[eqL]
theorem eqL_of {xs ys:List Int} (h:xs=ys):eqL xs ys=true:=by simp[eqL,h]
def cnt (k:Int) (n:Nat):List Int:=(List.range n).map fun(i:Nat)=>k+(i:Int)
theorem cnt_len (k:Int) (n:Nat):(cnt k n).length=n:=by simp[cnt]
theorem cnt_getD (k:Int) (n j:Nat) (h:j<n):((cnt k n)[j]?.getD 0)=k+j:=by simp[cnt,h]
section
variable {P : Program}
end
section
variable {P : Program}
end
theorem eqIntS_any (va vb:Value) (xs ys:List Int) (w:World) (ha:Rd w va xs) (hb:Rd w vb ys):
 Calls Tryz.prog 33 #[va,vb] w fun e w'=>e= .returned (.bool (eqL xs ys))∧Dr w w':=by
 obtain⟨a,capa,n,HX,rfl,_,hla,ha⟩:=ha.opn
 obtain⟨b,capb,m,HY,rfl,_,hlb,hb⟩:=hb.opn
 by_cases hn:n=m
 · subst hn
   have hne:((n:Int) != (n:Int))=false:=by simp
   have HR:=Lib.hid (show xs=ys→eqL xs ys=true from eqL_of)
   have HN:=Lib.hid (show xs≠ys→eqL xs ys=false from fun h=>by simp[eqL,h])
   generalize eqL xs ys=r at *
   go_enter Tryz.func33,Tryz.ntmps33
   go_wp2
   go_loopw [5] (fun i wr=>∃k:Nat,k≤n∧i= .int .i64 k∧Hid (xs.take k=ys.take k)∧Dr w wr) (fun i _=>n-(intOf i).toNat)
   case atStart=>exact⟨0,by omega,rfl,by simp[Hid],Dr.refl _⟩
   case round=>
    obtain⟨k,hk,rfl,HT,m,rfl⟩:=hrel
    by_cases hlt:k<n
    · obtain⟨b1,o1,rfl,hs1,hc1⟩:=ha (by omega)
      obtain⟨b2,o2,rfl,hs2,hc2⟩:=hb (by omega)
      have c1:=hc1 k hlt
      have c2:=hc2 k hlt
      clear hc1 hc2
      by_cases he:(xs[k]?.getD 0)=(ys[k]?.getD 0)
      · have hne2:((xs[k]?.getD 0) != (ys[k]?.getD 0))=false:=by simpa using he
        have HE:=Lib.hid he
        clear he
        go_wp2
        go_quiet (fail)
        go_wp2
        go_roundw
        case rel=>exact⟨k+1,by omega,by go_num,take_eq_step (by rw[HX.out];exact hlt) (by rw[HY.out];exact hlt) HT.out HE.out,⟨_,rfl⟩⟩
        case measure=>simp[intOf];omega
      · have hne2:((xs[k]?.getD 0) != (ys[k]?.getD 0))=true:=by simpa using he
        have HE:=Lib.hid he
        clear he
        go_wp2
        go_quiet (fail)
        go_wp2
        go_ret
        exact⟨by rw[HN.out (fun h=>HE.out (by rw[h]))];rfl,Dr.drewN ⟨_,rfl⟩ _⟩
    · obtain rfl:k=n:=by omega
      go_wp2
      go_ret
      have hh:=HT.out
      rw[←HX.out,List.take_length,HX.out,←HY.out,List.take_length] at hh
      exact⟨by rw[HR.out hh];rfl,⟨_,rfl⟩⟩
 · have hne:((n:Int) != (m:Int))=true:=by rw[bne_iff_ne];omega
   have he:eqL xs ys=false:=by simp only[eqL,decide_eq_false_iff_not];exact fun h=>hn (by rw[←HX.out,←HY.out,h])
   have HE:=Lib.hid he
   clear he
   go_enter Tryz.func33,Tryz.ntmps33
   go_wp2
   go_ret
   exact⟨by rw[HE.out];rfl,Dr.refl _⟩
theorem mark_step (xs:List Int) (q:Int) (k:Nat) (hk:k<xs.length):(cnt q k++xs.drop k).set k (q+k)=cnt q (k+1)++xs.drop (k+1):=by
 have hl:(cnt q k).length=k:=cnt_len _ _
 rw[List.set_append_right _ _ (by omega),hl,Nat.sub_self]
 have:xs.drop k=xs[k]::xs.drop (k+1):=List.drop_eq_getElem_cons hk
 rw[this,List.set_cons_zero]
 simp[cnt,List.range_succ]
theorem markIntS_any (v:Value) (xs:List Int) (q:Int) (base:Nat) (w:World) (h:Own w base v xs) (hq:0≤q) (hq2:q+xs.length≤4611686018427387904):
 Calls Tryz.prog 37 #[v,.int .i64 q] w fun e w'=>e= .returned (.int .i64 (q+xs.length))∧Own w' base v (cnt q xs.length)∧w.grownBy w' v.ownBlock:=by
 obtain⟨a,cap,n,HX,hv,_,hla,ha⟩:=h.rd.opn
 have hx:xs.length=n:=HX.out
 rw[hx] at hq2
 rw[hx]
 have hown:Own w base v (cnt q 0++xs.drop 0):=by simpa[cnt] using h
 have hgr:w.grownBy w v.ownBlock:=World.grownBy.refl _ _
 subst hv
 clear hx h
 go_enter Tryz.func37,Tryz.ntmps37
 go_wp2
 go_loopw [1,5] (fun x i wr=>∃k:Nat,k≤n∧i= .int .i64 k∧x= .int .i64 (q+k)∧Own wr base (.slice a n cap) (cnt q k++xs.drop k)∧w.grownBy wr (Value.slice a n cap).ownBlock) (fun _ i _=>n-(intOf i).toNat)
 case atStart=>exact⟨0,by omega,rfl,by simp,hown,hgr⟩
 case round=>
  obtain⟨k,hk,rfl,rfl,hown,hgr⟩:=hrel
  by_cases hlt:k<n
  · obtain⟨b,off,rfl,_,hc⟩:=ha (by omega)
    have hlen:(cnt q k++xs.drop k).length=n:=by have:=HX.out;simp[cnt_len];omega
    have hcell:=(hown.cellAt rfl).2 k (by omega)
    have hfr:=hown.frozenAt rfl (off+k)
    have hst:=hown.stored rfl k (by omega) (q+k)
    rw[mark_step xs q k (by rw[HX.out];exact hlt)] at hst
    have HS:=Lib.hid hst
    have HG:=Lib.hid hgr
    clear hst hown hlen hgr
    go_wp2
    go_roundw
    case rel=>exact⟨k+1,by omega,by go_num,int_eq (by omega),HS.out.1,HG.out.trans' HS.out.2⟩
    case measure=>simp[intOf];omega
  · obtain rfl:k=n:=by omega
    go_wp2
    go_ret
    exact⟨rfl,by have e:=HX.out;rw[List.drop_of_length_le (by omega),List.append_nil] at hown;exact hown,hgr⟩
theorem heldIntS_yes (v:Value) (q:Int) (n:Nat) (w:World) (h:Rd w v (cnt q n)) (hq:0≤q) (hq2:q+n≤4611686018427387904):
 Calls Tryz.prog 38 #[v,.int .i64 q] w fun e w'=>e= .returned (.int .i64 (q+n))∧Dr w w':=by
 obtain⟨a,cap,n',HX,hv,_,hla,ha⟩:=h.opn
 have hx:n=n':=by rw[←HX.out,cnt_len]
 subst hx
 subst hv
 go_enter Tryz.func38,Tryz.ntmps38
 go_wp2
 go_loopw [1,5] (fun x i wr=>∃k:Nat,k≤n∧i= .int .i64 k∧x= .int .i64 (q+k)∧Dr w wr) (fun _ i _=>n-(intOf i).toNat)
 case atStart=>exact⟨0,by omega,rfl,by simp,Dr.refl _⟩
 case round=>
  obtain⟨k,hk,rfl,rfl,m,rfl⟩:=hrel
  by_cases hlt:k<n
  · obtain⟨b,off,rfl,_,hc⟩:=ha (by omega)
    have hcell:=hc k hlt
    have hcc:=cnt_getD q n k hlt
    rw[hcc] at hcell
    clear hc hcc
    have hne:((q+k:Int) != (q+k:Int))=false:=by simp
    go_wp2
    go_roundw
    case rel=>exact⟨k+1,by omega,by go_num,int_eq (by omega),⟨_,rfl⟩⟩
    case measure=>simp[intOf];omega
  · obtain rfl:k=n:=by omega
    go_wp2
    go_ret
    exact⟨rfl,⟨_,rfl⟩⟩
theorem within_any (n lo hi:Int) (w:World):Calls Tryz.prog 74 #[.int .i64 n,.int .i64 lo,.int .i64 hi] w fun e w'=>e= .returned (.bool (inB n lo hi))∧w=w':=by
 by_cases h1:lo≤n
 · have hd:decide (lo≤n)=true:=by simpa using h1
   go_enter Tryz.func74,Tryz.ntmps74
   go_wp2
   go_ret
   exact⟨by simp[inB,h1],rfl⟩
 · have hd:decide (lo≤n)=false:=by simpa using h1
   go_enter Tryz.func74,Tryz.ntmps74
   go_wp2
   go_ret
   exact⟨by rw[inB,hd];rfl,rfl⟩
theorem l1In_any (n lo hi:Int) (w:World):Calls Tryz.prog 77 #[.int .i64 n,.int .i64 lo,.int .i64 hi] w fun e w'=>e= .returned (.bool (inB n lo hi))∧w=w':=by
 by_cases h1:lo≤n
 · have hd:decide (lo≤n)=true:=by simpa using h1
   go_enter Tryz.func77,Tryz.ntmps77
   go_wp2
   go_ret
   exact⟨by simp[inB,h1],rfl⟩
 · have hd:decide (lo≤n)=false:=by simpa using h1
   go_enter Tryz.func77,Tryz.ntmps77
   go_wp2
   go_ret
   exact⟨by rw[inB,hd];rfl,rfl⟩
set_option maxRecDepth 100000
theorem isName_any (s:ByteArray) (w:World) (hs:s.size≤maxLen):
 Calls Tryz.prog 128 #[.string s] w fun e w'=>e= .returned (.bool (nameOk s))∧Dr w w':=by
 unfold maxLen at hs
 have HN:=Lib.hid (fun k (hk:k<s.size) h=>nameOk_sgn (nam_no (s:=s) (p:=sgnB) (k:=k) hk h))
 have HS:=Lib.hid (fun k (hk:k<s.size) h e=>nam_step (s:=s) (p:=sgnB) (k:=k) hk h e)
 have HA:=Lib.hid (nam_all s)
 have HH:=Lib.hid (@nameOk_hd s)
 have HL:=Lib.hid (@nameOk_len s)
 have HY:=Lib.hid (@nameOk_yes s)
 have H0:=Lib.hid (@hd0_of s)
 generalize nameOk s=r at *
 go_enter Tryz.func128,Tryz.ntmps128
 go_wp2
 go_loopw [3,4,5,8] (fun _ _ _ i wr=>∃k:Nat,k≤s.size∧i= .int .i64 k∧Hid ((s.data.toList.take k).all sgnB=true)∧Hid (0<k→hd0 s=true)∧Hid (Dr w wr)) (fun _ _ _ i _=>s.size-(intOf i).toNat)
 case atStart=>exact⟨0,Nat.zero_le _,rfl,by simp[Hid],fun h=>by omega,Dr.refl _⟩
 case round=>
  obtain⟨k,hk,rfl,HT,HK,HD⟩:=hrel
  by_cases hlt:k<s.size
  · have hltI:(k:Int)<(s.size:Int):=by omega
    have HN1:=Lib.hid (HN.out k hlt)
    have HS1:=Lib.hid (HS.out k hlt HT.out)
    have H01:=Lib.hid (fun h:k=0=>show hd0 s=letB s[k] by subst h;exact H0.out hlt)
    have HSG:=Lib.hid (show sgnB s[k]=((decide (97≤(s[k].toNat:Int))&&decide ((s[k].toNat:Int)≤122)) || (decide (48≤(s[k].toNat:Int))&&decide ((s[k].toNat:Int)≤57))) from rfl)
    have HLE:=Lib.hid (show letB s[k]=(decide (97≤(s[k].toNat:Int))&&decide ((s[k].toNat:Int)≤122)) from rfl)
    clear HN HS H0
    by_cases c1:97≤(s[k].toNat:Int)
    · have c1d:decide (97≤(s[k].toNat:Int))=true:=decide_eq_true c1
      have c3:48≤(s[k].toNat:Int):=by omega
      have c3d:decide (48≤(s[k].toNat:Int))=true:=decide_eq_true c3
      have c4:¬(s[k].toNat:Int)≤57:=by omega
      have c4d:decide ((s[k].toNat:Int)≤57)=false:=decide_eq_false c4
      by_cases c2:(s[k].toNat:Int)≤122
      · have c2d:decide ((s[k].toNat:Int)≤122)=true:=decide_eq_true c2
        have HT2:=Lib.hid (HS1.out (by rw[HSG.out,c1d,c2d];rfl))
        have HK2:=Lib.hid (fun(_:0<k+1)=>show hd0 s=true by
         by_cases h:k=0
         · rw[H01.out h,HLE.out,c1d,c2d];rfl
         · exact HK.out (by omega))
        go_wp2
        go_quiet (fail)
        go_wp2
        go_roundw
        case rel=>exact⟨k+1,hlt,by go_num,HT2.out,HK2.out,HD.out.drewN _⟩
        case measure=>simp[intOf];omega
      · have c2d:decide ((s[k].toNat:Int)≤122)=false:=decide_eq_false c2
        have HF:=Lib.hid (HN1.out (by rw[HSG.out,c1d,c2d,c3d,c4d];rfl))
        go_wp2
        go_quiet (fail)
        go_wp2
        go_ret
        exact⟨by rw[HF.out];rfl,HD.out.drewN _⟩
    · have c1d:decide (97≤(s[k].toNat:Int))=false:=decide_eq_false c1
      by_cases c3:48≤(s[k].toNat:Int)
      · have c3d:decide (48≤(s[k].toNat:Int))=true:=decide_eq_true c3
        by_cases c4:(s[k].toNat:Int)≤57
        · have c4d:decide ((s[k].toNat:Int)≤57)=true:=decide_eq_true c4
          by_cases h0:k=0
          · have HF:=Lib.hid (HH.out (by rw[H01.out h0,HLE.out,c1d];rfl))
            have h0I:(k:Int)=0:=by omega
            have h0b:((k:Int)==0)=true:=by simpa using h0I
            clear h0I h0 H01
            go_wp2
            go_quiet (fail)
            go_wp2
            go_ret
            exact⟨by rw[HF.out];rfl,HD.out.drewN _⟩
          · have h0b:((k:Int)==0)=false:=by simp;omega
            have HT2:=Lib.hid (HS1.out (by rw[HSG.out,c1d,c3d,c4d];rfl))
            have HK2:=Lib.hid (fun(_:0<k+1)=>HK.out (by omega))
            go_wp2
            go_quiet (fail)
            go_wp2
            go_roundw
            case rel=>exact⟨k+1,hlt,by go_num,HT2.out,HK2.out,HD.out.drewN _⟩
            case measure=>simp[intOf];omega
        · have c4d:decide ((s[k].toNat:Int)≤57)=false:=decide_eq_false c4
          have HF:=Lib.hid (HN1.out (by rw[HSG.out,c1d,c3d,c4d];rfl))
          go_wp2
          go_quiet (fail)
          go_wp2
          go_ret
          exact⟨by rw[HF.out];rfl,HD.out.drewN _⟩
      · have c3d:decide (48≤(s[k].toNat:Int))=false:=decide_eq_false c3
        have HF:=Lib.hid (HN1.out (by rw[HSG.out,c1d,c3d];rfl))
        go_wp2
        go_quiet (fail)
        go_wp2
        go_ret
        exact⟨by rw[HF.out];rfl,HD.out.drewN _⟩
  · obtain rfl:k=s.size:=by omega
    have hall:=HT.out
    rw[HA.out] at hall
    have HR:=Lib.hid (show inB (s.size:Int) 1 8=r from by
     by_cases h:1≤s.size∧s.size≤8
     · rw[HY.out h (HK.out (by omega)) hall];simp[inB];omega
     · rw[HL.out h]
       by_cases h1:1≤s.size
       · simp[inB];omega
       · simp[inB];omega)
    clear HT HK HA HN HS HH HL HY H0 hall
    go_wp2_with (go_at_call 74;refine(within_any _ _ _ _).mono ?_;rintro e w' ⟨rfl,rfl⟩)
    go_ret
    exact⟨by rw[←HR.out];rfl,HD.out⟩
theorem l2Sign_any (b:UInt8) (w:World):
 Calls Tryz.prog 211 #[.int .u8 (b.toNat:Int)] w fun e w'=>e= .returned (.bool (sgnB b))∧w=w':=by
 have HSG:=Lib.hid (show sgnB b=((decide (97≤(b.toNat:Int))&&decide ((b.toNat:Int)≤122)) || (decide (48≤(b.toNat:Int))&&decide ((b.toNat:Int)≤57))) from rfl)
 generalize sgnB b=r at *
 generalize (b.toNat:Int)=x at *
 by_cases c1:97≤x
 · have c1d:decide (97≤x)=true:=decide_eq_true c1
   by_cases c2:x≤122
   · have c2d:decide (x≤122)=true:=decide_eq_true c2
     go_enter Tryz.func211,Tryz.ntmps211
     go_wp2
     go_ret
     exact⟨by rw[HSG.out,c1d,c2d];rfl,rfl⟩
   · have c2d:decide (x≤122)=false:=decide_eq_false c2
     have c3:48≤x:=by omega
     have c3d:decide (48≤x)=true:=decide_eq_true c3
     have c4:¬x≤57:=by omega
     have c4d:decide (x≤57)=false:=decide_eq_false c4
     go_enter Tryz.func211,Tryz.ntmps211
     go_wp2
     go_ret
     exact⟨by rw[HSG.out,c1d,c2d,c3d,c4d];rfl,rfl⟩
 · have c1d:decide (97≤x)=false:=decide_eq_false c1
   by_cases c3:48≤x
   · have c3d:decide (48≤x)=true:=decide_eq_true c3
     by_cases c4:x≤57
     · have c4d:decide (x≤57)=true:=decide_eq_true c4
       go_enter Tryz.func211,Tryz.ntmps211
       go_wp2
       go_ret
       exact⟨by rw[HSG.out,c1d,c3d,c4d];rfl,rfl⟩
     · have c4d:decide (x≤57)=false:=decide_eq_false c4
       go_enter Tryz.func211,Tryz.ntmps211
       go_wp2
       go_ret
       exact⟨by rw[HSG.out,c1d,c3d,c4d];rfl,rfl⟩
   · have c3d:decide (48≤x)=false:=decide_eq_false c3
     go_enter Tryz.func211,Tryz.ntmps211
     go_wp2
     go_ret
     exact⟨by rw[HSG.out,c1d,c3d];rfl,rfl⟩
theorem l2Name_any (s:ByteArray) (w:World) (hs:s.size≤maxLen):
 Calls Tryz.prog 168 #[.string s] w fun e w'=>e= .returned (.bool (nameOk s))∧w=w':=by
 unfold maxLen at hs
 have HN:=Lib.hid (fun k (hk:k<s.size) h=>nameOk_sgn (nam_no (s:=s) (p:=sgnB) (k:=k) hk h))
 have HS:=Lib.hid (fun k (hk:k<s.size) h e=>nam_step (s:=s) (p:=sgnB) (k:=k) hk h e)
 have HA:=Lib.hid (nam_all s)
 have HH:=Lib.hid (@nameOk_hd s)
 have HL:=Lib.hid (@nameOk_len s)
 have HY:=Lib.hid (@nameOk_yes s)
 have H0:=Lib.hid (@hd0_of s)
 generalize nameOk s=r at *
 by_cases hl:1≤s.size∧s.size≤8
 · have hb:inB (s.size:Int) 1 8=true:=by simp[inB];omega
   have h0:0<s.size:=by omega
   have h0I:(0:Int)<(s.size:Int):=by omega
   have HLE:=Lib.hid (show hd0 s=(decide (97≤(s[0].toNat:Int))&&decide ((s[0].toNat:Int)≤122)) from(H0.out h0).trans rfl)
   by_cases c1:(s[0].toNat:Int)<97
   · have c1d:decide ((s[0].toNat:Int)<97)=true:=decide_eq_true c1
     have HF:=Lib.hid (HH.out (by rw[HLE.out,decide_eq_false (show¬97≤(s[0].toNat:Int) by omega)];rfl))
     go_enter Tryz.func168,Tryz.ntmps168
     go_wp2_with (go_at_call 77;refine(l1In_any _ _ _ _).mono ?_;rintro e w' ⟨rfl,rfl⟩;rw[hb])
     go_ret
     exact⟨by rw[HF.out];rfl,rfl⟩
   by_cases c2:122<(s[0].toNat:Int)
   · have c1d:decide ((s[0].toNat:Int)<97)=false:=decide_eq_false c1
     have c2d:decide (122<(s[0].toNat:Int))=true:=decide_eq_true c2
     have HF:=Lib.hid (HH.out (by rw[HLE.out,decide_eq_false (show¬(s[0].toNat:Int)≤122 by omega)];simp))
     go_enter Tryz.func168,Tryz.ntmps168
     go_wp2_with (go_at_call 77;refine(l1In_any _ _ _ _).mono ?_;rintro e w' ⟨rfl,rfl⟩;rw[hb])
     go_ret
     exact⟨by rw[HF.out];rfl,rfl⟩
   have c1d:decide ((s[0].toNat:Int)<97)=false:=decide_eq_false c1
   have c2d:decide (122<(s[0].toNat:Int))=false:=decide_eq_false c2
   have HHD:=Lib.hid (show hd0 s=true by rw[HLE.out,decide_eq_true (show 97≤(s[0].toNat:Int) by omega),decide_eq_true (show(s[0].toNat:Int)≤122 by omega)];rfl)
   go_enter Tryz.func168,Tryz.ntmps168
   go_wp2_with (go_at_call 77;refine(l1In_any _ _ _ _).mono ?_;rintro e w' ⟨rfl,rfl⟩;rw[hb])
   go_loop [3] (fun i=>∃k:Nat,k≤s.size∧i= .int .i64 k∧Hid ((s.data.toList.take k).all sgnB=true)) (fun i=>s.size-(intOf i).toNat)
   case atStart=>exact⟨0,Nat.zero_le _,rfl,by simp[Hid]⟩
   case round=>
    obtain⟨k,hk,rfl,HT⟩:=hrel
    by_cases hlt:k<s.size
    · have hltI:(k:Int)<(s.size:Int):=by omega
      have HN1:=Lib.hid (HN.out k hlt)
      have HS1:=Lib.hid (HS.out k hlt HT.out)
      have HQ:=Lib.hid (fun w=>l2Sign_any s[k] w)
      generalize sgnB s[k]=ok at *
      cases ok
      · have HF:=Lib.hid (HN1.out rfl)
        go_wp2_with (go_at_call 211;refine(HQ.out _).mono ?_;rintro e w' ⟨rfl,rfl⟩)
        go_ret
        exact⟨by rw[HF.out];rfl,rfl⟩
      · have HT2:=Lib.hid (HS1.out rfl)
        go_wp2_with (go_at_call 211;refine(HQ.out _).mono ?_;rintro e w' ⟨rfl,rfl⟩)
        go_round
        case rel=>exact⟨k+1,hlt,by go_num,HT2.out⟩
        case measure=>simp[intOf];omega
    · obtain rfl:k=s.size:=by omega
      have hall:=HT.out
      rw[HA.out] at hall
      have HR:=Lib.hid (HY.out hl HHD.out hall)
      go_wp2
      go_ret
      exact⟨by rw[HR.out];rfl,rfl⟩
 · have hb:inB (s.size:Int) 1 8=false:=by
    by_cases h1:1≤s.size
    · simp[inB];omega
    · simp[inB];omega
   have HF:=Lib.hid (HL.out hl)
   clear hl
   go_enter Tryz.func168,Tryz.ntmps168
   go_wp2_with (go_at_call 77;refine(l1In_any _ _ _ _).mono ?_;rintro e w' ⟨rfl,rfl⟩;rw[hb])
   go_ret
   exact⟨by rw[HF.out];rfl,rfl⟩
inductive Dt where
 | leaf (v:Value)
 | rows (size:Nat) (ds:List Dt)
inductive Rdt (w:World):Dt→Value→Prop
 | leaf (u:Value):Rdt w (.leaf u) u
 | nil (size:Nat):Rdt w (.rows size []) (.slice none 0 0)
 | mk {size n b off cap:Nat} {ds:List Dt} {us:List Value} (hl:ds.length=n*size) (hu:us.length=ds.length) (hn:n≤cap) (hc:cap≤maxLen) (hb:b<w.heap.size)
  (hcell:∀(j:Nat) (u:Value),us[j]?= some u→w.cell? ⟨b,off+j,none⟩=some u) (hd:∀(j:Nat) (d:Dt) (u:Value),ds[j]?= some d→us[j]?= some u→Rdt w d u):Rdt w (.rows size ds) (.slice (some ⟨b,off,none⟩) n cap)
inductive Odt (w:World):Dt→Value→List Nat→Prop
 | leaf (u:Value):Odt w (.leaf u) u []
 | nil (size:Nat):Odt w (.rows size []) (.slice none 0 0) []
 | mk {size n g off cap:Nat} {ds:List Dt} {us:List Value} {fs:List (List Nat)} {cur:Array Value} {T:TypeId} (hl:ds.length=n*size) (hu:us.length=ds.length) (hf:fs.length=ds.length) (hn:n≤cap) (hc:cap≤maxLen)
  (hg:w.heap[g]?= some (.cells cur T (0,0))) (hcs:off+cap*size≤cur.size) (ht:(cur.toList.drop off).take (n*size)=us)
  (hd:∀(j:Nat) (d:Dt) (u:Value) (f:List Nat),ds[j]?= some d→us[j]?= some u→fs[j]?= some f→Odt w d u f):Odt w (.rows size ds) (.slice (some ⟨g,off,none⟩) n cap) (g::fs.flatten)
theorem Rdt.leaf_inv {w:World} {u v:Value} (h:Rdt w (.leaf u) v):v=u:=by cases h;rfl
theorem Odt.leaf_inv {w:World} {u v:Value} {fp:List Nat} (h:Odt w (.leaf u) v fp):v=u∧fp=[]:=by cases h;exact⟨rfl,rfl⟩
theorem Rdt.kept {w w':World} {d:Dt} {v:Value} (h:Rdt w d v) (hs:w.heap.size≤w'.heap.size) (hk:∀p:Addr,p.block<w.heap.size→w'.cell? p=w.cell? p):Rdt w' d v:=by
 induction h with
 | leaf u=>exact .leaf u
 | nil size=>exact .nil size
 | mk hl hu hn hc hb hcell hd ih=>
   exact .mk hl hu hn hc (by omega) (fun j u hj=>(hk _ hb).trans (hcell j u hj)) (fun j d u h1 h2=>ih j d u h1 h2)
theorem Rdt.behind {w w':World} {d:Dt} {v:Value} (h:Rdt w d v) (hb:Below w.heap.size w w'):Rdt w' d v:=h.kept hb.size (fun _ hp=>hb.cell hp)
theorem Odt.kept {w w':World} {d:Dt} {v:Value} {fp:List Nat} (h:Odt w d v fp) (hk:∀b∈fp,w'.heap[b]?= w.heap[b]?):Odt w' d v fp:=by
 induction h with
 | leaf u=>exact .leaf u
 | nil size=>exact .nil size
 | @mk size n g off cap ds us fs cur T hl hu hf hn hc hg hcs ht hd ih=>
   refine .mk hl hu hf hn hc (by rw[hk g (by simp)];exact hg) hcs ht (fun j d u f h1 h2 h3=>ih j d u f h1 h2 h3 fun b hb=>hk b ?_)
   exact List.mem_cons_of_mem _ (List.mem_flatten.2 ⟨f,List.mem_of_getElem? h3,hb⟩)
theorem Odt.lt {w:World} {d:Dt} {v:Value} {fp:List Nat} (h:Odt w d v fp):∀b∈fp,b<w.heap.size:=by
 induction h with
 | leaf u=>intro b hb;cases hb
 | nil size=>intro b hb;cases hb
 | @mk size n g off cap ds us fs cur T hl hu hf hn hc hg hcs ht hd ih=>
   intro b hb
   rcases List.mem_cons.1 hb with rfl | hb
   · exact(Array.getElem?_eq_some_iff.1 hg).1
   · obtain⟨f,hf1,hf2⟩:=List.mem_flatten.1 hb
     obtain⟨j,hj,e⟩:=List.mem_iff_getElem.1 hf1
     exact ih j (ds[j]'(by omega)) (us[j]'(by omega)) f (List.getElem?_eq_getElem _) (List.getElem?_eq_getElem _) (by rw[List.getElem?_eq_getElem hj,e]) b hf2
theorem Odt.behind {w w':World} {d:Dt} {v:Value} {fp:List Nat} (h:Odt w d v fp) (hb:Below w.heap.size w w'):Odt w' d v fp:=h.kept fun b hb'=>hb.block b (h.lt b hb')
theorem row_cell {w:World} {g off m:Nat} {cur:Array Value} {T:TypeId} {us:List Value} (hg:w.heap[g]?= some (.cells cur T (0,0))) (ht:(cur.toList.drop off).take m=us) {j:Nat} {u:Value} (hj:us[j]?= some u) (hm:us.length=m):w.cell? ⟨g,off+j,none⟩=some u:=by
 rw[cell_of_row _ _ _ _ _ _ hg,←Array.getElem?_toList]
 have hlt:j<m:=by have:=(List.getElem?_eq_some_iff.1 hj).1;omega
 have h2:((cur.toList.drop off).take m)[j]?= some u:=by rw[ht];exact hj
 rw[List.getElem?_take,if_pos hlt,List.getElem?_drop] at h2
 exact h2
theorem Odt.rd {w:World} {d:Dt} {v:Value} {fp:List Nat} (h:Odt w d v fp):Rdt w d v:=by
 induction h with
 | leaf u=>exact .leaf u
 | nil size=>exact .nil size
 | @mk size n g off cap ds us fs cur T hl hu hf hn hc hg hcs ht hd ih=>
   refine .mk (us:=us) hl hu hn hc (Array.getElem?_eq_some_iff.1 hg).1 (fun j u hj=>row_cell hg ht hj (by omega)) (fun j d u h1 h2=> ?_)
   have hj:j<fs.length:=by have:=(List.getElem?_eq_some_iff.1 h1).1;omega
   exact ih j d u _ h1 h2 (List.getElem?_eq_getElem hj)
theorem Rdt.opn {w:World} {size:Nat} {ds:List Dt} {v:Value} (h:Rdt w (.rows size ds) v):∃a n cap,v= .slice a n cap∧Hid (ds.length=n*size)∧n≤cap∧n≤9223372036854775807∧
 (0<n→ ∃b off,a=some ⟨b,off,none⟩∧b<w.heap.size∧ ∀(j:Nat) (d:Dt),ds[j]?= some d→ ∃u,w.cell? ⟨b,off+j,none⟩=some u∧Rdt w d u):=by
 cases h with
 | nil size=>exact⟨none,0,0,rfl,by simp[Hid],by omega,by omega,fun h=>by omega⟩
 | @mk size n b off cap ds us hl hu hn hc hb hcell hd=>
   refine⟨_,n,cap,rfl,hl,hn,by unfold maxLen at hc;omega,fun _=>⟨b,off,rfl,hb,fun j d hj=> ?_⟩⟩
   have hju:j<us.length:=by have:=(List.getElem?_eq_some_iff.1 hj).1;omega
   exact⟨us[j],hcell j _ (List.getElem?_eq_getElem hju),hd j _ _ hj (List.getElem?_eq_getElem hju)⟩
structure Wr (w w':World) (fp:List Nat):Prop where
 os:w'.os=w.os
 tape:w'.tape=w.tape
 output:w'.output=w.output
 size:w.heap.size≤w'.heap.size
 block:∀k,k<w.heap.size→k ∉ fp→w'.heap[k]?= w.heap[k]?
theorem Wr.refl (w:World) (fp:List Nat):Wr w w fp:=⟨rfl,rfl,rfl,Nat.le_refl _,fun _ _ _=>rfl⟩
theorem Wr.trans {a b c:World} {fp:List Nat} (h:Wr a b fp) (k:Wr b c fp):Wr a c fp:=
 ⟨k.os.trans h.os,k.tape.trans h.tape,k.output.trans h.output,Nat.le_trans h.size k.size,fun i hi hn=>(k.block i (Nat.lt_of_lt_of_le hi h.size) hn).trans (h.block i hi hn)⟩
theorem Wr.mono {a b:World} {fp fq:List Nat} (h:Wr a b fp) (hm:∀k∈fp,k∈fq):Wr a b fq:=⟨h.os,h.tape,h.output,h.size,fun k hk hn=>h.block k hk fun e=>hn (hm k e)⟩
theorem Wr.of_below {a b:World} {fp:List Nat} (h:Below a.heap.size a b):Wr a b fp:=⟨h.os,h.tape,h.output,h.size,fun k hk _=>h.block k hk⟩
theorem Wr.of_grown {a b:World} {v:Value} {fp:List Nat} (h:a.grownBy b v.ownBlock) (hv:∀k,v.ownBlock=some k→k∈fp):Wr a b fp:=⟨h.os,h.tape,h.output,h.size,fun k hk hn=>h.block k hk fun e=>hn (hv k e.symm)⟩
theorem Wr.of_set (a:World) {g j:Nat} {u:Value} {fp:List Nat} (hg:g∈fp):Wr a (a.setCell ⟨g,j,none⟩ u) fp:=
 ⟨rfl,rfl,rfl,by simp,fun k _ hn=>heap_setCell_other a ⟨g,j,none⟩ k u fun e=>hn (by rw[show k=g from e];exact hg)⟩
theorem Wr.below {a b u:World} {fp:List Nat} {B:Nat} (h:Wr a b fp) (hb:Below B u a) (hB:B≤a.heap.size) (hf:∀k∈fp,B≤k):Below B u b:=
 ⟨h.os.trans hb.os,h.tape.trans hb.tape,h.output.trans hb.output,Nat.le_trans hb.size h.size,fun k hk=>(h.block k (Nat.lt_of_lt_of_le hk hB) fun e=>by have:=hf k e;omega).trans (hb.block k hk)⟩
theorem Odt.apart {w w':World} {d:Dt} {v:Value} {fp fq:List Nat} (h:Odt w d v fp) (hw:Wr w w' fq) (hd:∀k∈fp,k ∉ fq):Odt w' d v fp:=h.kept fun b hb=>hw.block b (h.lt b hb) (hd b hb)
theorem Odt.deep {w:World} {size:Nat} {ds:List Dt} {v:Value} {fp:List Nat} (h:Odt w (.rows size ds) v fp) (hn:fp.Nodup) {j:Nat} {d:Dt} (hj:ds[j]?= some d):
 ∃g off n cap u f,v= .slice (some ⟨g,off,none⟩) n cap∧w.cell? ⟨g,off+j,none⟩=some u∧Odt w d u f∧(∀k∈f,k∈fp)∧f.Nodup∧g ∉ f∧
  ∀(w':World) (d':Dt),Odt w' d' u f→Wr w w' f→Odt w' (.rows size (ds.set j d')) v fp:=by
 cases h with
 | nil size=>simp at hj
 | @mk size n g off cap ds us fs cur T hl hu hf hnc hc hg hcs ht hd=>
   have hjl:j<ds.length:=(List.getElem?_eq_some_iff.1 hj).1
   have hju:us[j]?= some (us[j]'(by omega)):=List.getElem?_eq_getElem (by omega)
   have hjf:fs[j]?= some (fs[j]'(by omega)):=List.getElem?_eq_getElem (by omega)
   obtain⟨hgn,hfn⟩:=List.nodup_cons.1 hn
   have hsub:∀k∈fs[j]'(by omega),k∈fs.flatten:=fun k hk=>List.mem_flatten.2 ⟨_,List.getElem_mem _,hk⟩
   obtain⟨hf1,hf2⟩:=List.pairwise_flatten.1 (show List.Pairwise (· ≠·) fs.flatten from hfn)
   have hf2':=List.pairwise_iff_getElem.1 hf2
   refine⟨g,off,n,cap,_,_,rfl,row_cell hg ht hju (by omega),hd j d _ _ hj hju hjf,fun k hk=>List.mem_cons_of_mem _ (hsub k hk),hf1 _ (List.getElem_mem _),fun e=>hgn (hsub g e),fun w' d' h' hw=> ?_⟩
   refine .mk (by rw[List.length_set];exact hl) (by rw[List.length_set];exact hu) (by rw[List.length_set];exact hf) hnc hc (by rw[hw.block g (Array.getElem?_eq_some_iff.1 hg).1 (fun e=>hgn (hsub g e))];exact hg) hcs ht (fun i d2 u2 f2 h1 h2 h3=> ?_)
   by_cases e:j=i
   · subst e
     rw[List.getElem?_set_self hjl] at h1
     rw[hju] at h2
     rw[hjf] at h3
     cases h1;cases h2;cases h3
     exact h'
   · rw[List.getElem?_set_ne e] at h1
     refine(hd i d2 u2 f2 h1 h2 h3).apart hw fun k hk hk2=> ?_
     have hil:i<fs.length:=(List.getElem?_eq_some_iff.1 h3).1
     have e3:fs[i]=f2:=(List.getElem?_eq_some_iff.1 h3).2
     rw[←e3] at hk
     rcases Nat.lt_or_gt_of_ne e with hlt | hgt
     · exact hf2' j i (by omega) hil hlt k hk2 k hk rfl
     · exact hf2' i j hil (by omega) hgt k hk k hk2 rfl
theorem Odt.store {w:World} {size:Nat} {ds:List Dt} {v:Value} {fp:List Nat} (h:Odt w (.rows size ds) v fp) (hn:fp.Nodup) {j:Nat} {u:Value} (hj:ds[j]?= some (.leaf u)) (u':Value):
 ∃g off n cap,v= .slice (some ⟨g,off,none⟩) n cap∧w.cell? ⟨g,off+j,none⟩=some u∧w.frozen? ⟨g,off+j,none⟩=false∧g∈fp∧
  Odt (w.setCell ⟨g,off+j,none⟩ u') (.rows size (ds.set j (.leaf u'))) v fp∧Wr w (w.setCell ⟨g,off+j,none⟩ u') fp:=by
 cases h with
 | nil size=>simp at hj
 | @mk size n g off cap ds us fs cur T hl hu hf hnc hc hg hcs ht hd=>
   have hjl:j<ds.length:=(List.getElem?_eq_some_iff.1 hj).1
   have hju:us[j]?= some (us[j]'(by omega)):=List.getElem?_eq_getElem (by omega)
   have hjf:fs[j]?= some (fs[j]'(by omega)):=List.getElem?_eq_getElem (by omega)
   obtain⟨hgn,hfn⟩:=List.nodup_cons.1 hn
   have hlf:=hd j _ _ _ hj hju hjf
   obtain⟨hu2,hfe⟩:=hlf.leaf_inv
   refine⟨g,off,n,cap,rfl,by rw[row_cell hg ht hju (by omega),hu2],frozen_of_row _ _ _ _ _ hg,by simp,?_,Wr.of_set w (by simp)⟩
   have hg':=heap_setCell_same w g (off+j) cur T u' hg
   refine .mk (us:=us.set j u') (by rw[List.length_set];exact hl) (by rw[List.length_set,List.length_set];exact hu) (by rw[List.length_set];exact hf) hnc hc hg' (by simpa using hcs) ?_ (fun i d2 u2 f2 h1 h2 h3=> ?_)
   · rw[Array.toList_setIfInBounds,List.drop_set,if_neg (by omega),Nat.add_sub_cancel_left,List.take_set,ht]
   · by_cases e:j=i
     · subst e
       rw[List.getElem?_set_self hjl] at h1
       rw[List.getElem?_set_self (by omega)] at h2
       rw[hjf,hfe] at h3
       cases h1;cases h2;cases h3
       exact .leaf u'
     · rw[List.getElem?_set_ne e] at h1 h2
       refine(hd i d2 u2 f2 h1 h2 h3).apart (Wr.of_set w (fp:=[g]) (by simp)) fun k hk hk2=> ?_
       have:k=g:=by simpa using hk2
       subst this
       exact hgn (List.mem_flatten.2 ⟨f2,List.mem_of_getElem? h3,hk⟩)
def inD (xs:List Int):Dt:= .rows 1 (xs.map fun x=> .leaf (.int .i64 x))
theorem Rdt.toRd {w:World} {xs:List Int} {v:Value} (h:Rdt w (inD xs) v):Rd w v xs:=by
 unfold inD at h
 generalize hD:(xs.map fun x=>Dt.leaf (.int .i64 x))=ds at h
 cases h with
 | nil size=>exact .inl ⟨rfl,by simpa using hD⟩
 | @mk size n b off cap ds us hl hu hn hc hb hcell hd=>
   have hlen:xs.length=n:=by rw[←hD] at hl;simpa using hl
   subst hlen
   refine .inr ⟨b,off,cap,rfl,hn,hc,hb,fun j hj=> ?_⟩
   have hju:j<us.length:=by omega
   have h1:=hd j (.leaf (.int .i64 xs[j])) us[j] (by rw[←hD];simp[hj]) (List.getElem?_eq_getElem hju)
   have h2:us[j]= .int .i64 xs[j]:=h1.leaf_inv
   rw[hcell j _ (List.getElem?_eq_getElem hju),h2,List.getElem?_eq_getElem hj];rfl
theorem Own.tree {w:World} {base:Nat} {v:Value} {xs:List Int} (h:Own w base v xs):∃fp,Odt w (inD xs) v fp∧fp.Nodup∧(∀k∈fp,v.ownBlock=some k):=by
 rcases h with ⟨rfl,rfl⟩ | ⟨g,off,cap,cur,rfl,hb,⟨T,hg⟩,h1,h2,h3,h4⟩
 · exact⟨[],.nil 1,List.nodup_nil,fun k hk=>by cases hk⟩
 · refine⟨[g],?_,by simp,fun k hk=>by simp at hk;subst hk;rfl⟩
   have hfl:(List.replicate xs.length ([]:List Nat)).flatten=[]:=by simp
   have:=Odt.mk (w:=w) (size:=1) (n:=xs.length) (g:=g) (off:=off) (cap:=cap) (ds:=xs.map fun x=>Dt.leaf (.int .i64 x)) (us:=ints xs) (fs:=List.replicate xs.length []) (by simp) (by simp) (by simp) h1 h2 hg (by omega) (by rw[Nat.mul_one];exact h4)
    (fun j d u f e1 e2 e3=>by
      have hj:j<xs.length:=by have:=(List.getElem?_eq_some_iff.1 e1).1;simpa using this
      simp[hj] at e1 e2 e3
      subst e1;subst e2;subst e3
      exact .leaf _)
   rw[hfl] at this
   exact this
theorem Odt.toOwn {w:World} {base:Nat} {v:Value} {xs:List Int} {fp:List Nat} (h:Odt w (inD xs) v fp) (hb:∀k∈fp,base≤k):Own w base v xs∧ ∀k,v.ownBlock=some k→k∈fp:=by
 unfold inD at h
 generalize hD:(xs.map fun x=>Dt.leaf (.int .i64 x))=ds at h
 cases h with
 | nil size=>exact⟨.inl ⟨rfl,by simpa using hD⟩,fun k hk=>by simp[Value.ownBlock] at hk⟩
 | @mk size n g off cap ds us fs cur T hl hu hf hn hc hg hcs ht hd=>
   have hlen:xs.length=n:=by rw[←hD] at hl;simpa using hl
   subst hlen
   have hus:us=ints xs:=by
    apply List.ext_getElem?
    intro j
    by_cases hj:j<xs.length
    · have hju:j<us.length:=by omega
      have hjf:j<fs.length:=by omega
      have h1:=hd j (.leaf (.int .i64 xs[j])) us[j] fs[j] (by rw[←hD];simp[hj]) (List.getElem?_eq_getElem hju) (List.getElem?_eq_getElem hjf)
      have h2:us[j]= .int .i64 xs[j]:=h1.leaf_inv.1
      rw[List.getElem?_eq_getElem hju,h2];simp[hj]
    · rw[List.getElem?_eq_none (by omega),List.getElem?_eq_none (by simp;omega)]
   refine⟨.inr ⟨g,off,cap,cur,rfl,hb g (by simp),⟨T,hg⟩,hn,hc,by omega,by rw[Nat.mul_one] at ht;rw[ht,hus]⟩,fun k hk=>by simp[Value.ownBlock] at hk;subst hk;simp⟩
end Go.Proofs.YtofcicomhnkocaaGreat
