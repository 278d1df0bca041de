/- Joined: XFlt XNamF XSymP XSymW XFib XCmp XCpf XNetP XFlu XNumP. -/
import Derived.Test.YtofcicomhnkocaaGreatAls
import Derived.Test.YtofcicomhnkocaaGreatBq01
import Derived.WalkKit
import Derived.BigQuiet
import Derived.Deep.QuietTactic
import Derived.Handy
import Derived.Lib.Hide
import Derived.Test.YtofcicomhnkocaaGreatProg
import Derived.WalkLawsBesides
import Derived.WalkSpells
import Derived.Deep.AppendLies
import Derived.Deep.DeepFit
import Derived.Deep.DeepMust
import Derived.Deep.LoopGhost
import Derived.Deep.RegionHeld3
import Derived.Deep.Slices
import Derived.Lib.SmallJoins
import Derived.OpenShut
import Derived.StillTailTactics
import Derived.Lib.QuietBelow
import Derived.OwnWalk
import Derived.Lib.ItoaNum
set_option linter.unusedVariables false
namespace Go.Proofs.YtofcicomhnkocaaGreat
set_option maxHeartbeats 1600000
open Go.RowKit
theorem Ofr.lf (w:World) (lo:Nat) (x:Value):Ofr w lo (.leaf x) x:=⟨[],.leaf x,List.nodup_nil,fun k hk=>by cases hk⟩
section
variable {α : Type}
def fltC (enc:α→List Value) (zs:List α):List Dt:=zs.flatMap fun z=>(enc z).map Dt.leaf
def flt (m:Nat) (enc:α→List Value) (zs:List α):Dt:= .rows m (fltC enc zs)
theorem fltC_len {enc:α→List Value} {m:Nat} (hm:∀z,(enc z).length=m) (zs:List α):(fltC enc zs).length=zs.length*m:=by
 induction zs with
 | nil=>simp[fltC]
 | cons z zs ih=>
   simp only[fltC,List.flatMap_cons,List.length_append,List.length_map,hm,List.length_cons] at ih ⊢
   rw[ih,Nat.add_mul,Nat.one_mul,Nat.add_comm]
theorem fltC_at {enc:α→List Value} {m:Nat} (hm:∀z,(enc z).length=m) (zs:List α) (i r:Nat) (hr:r<m):(fltC enc zs)[i*m+r]?= (zs[i]?).bind fun z=>((enc z)[r]?).map Dt.leaf:=by
 induction zs generalizing i with
 | nil=>simp[fltC]
 | cons z zs ih=>
   have hl:((enc z).map Dt.leaf).length=m:=by simp[hm]
   simp only[fltC,List.flatMap_cons] at ih ⊢
   rcases i with _ | i
   · rw[Nat.zero_mul,Nat.zero_add,List.getElem?_append_left (by omega)]
     simp
   · rw[List.getElem?_append_right (by rw[hl,Nat.add_mul];omega),hl,show(i+1)*m+r-m=i*m+r by rw[Nat.add_mul];omega,ih i]
     simp
theorem fltC_cell {enc:α→List Value} {m:Nat} (hm:∀z,(enc z).length=m) (nil:α) (zs:List α) (i r:Nat) (u:Value) (hi:i<zs.length) (hu:(enc (zs[i]?.getD nil))[r]?= some u):(fltC enc zs)[i*m+r]?= some (.leaf u):=by
 have hr:r<m:=by rw[←hm (zs[i]?.getD nil)];exact(ξl hu).1
 rw[fltC_at hm zs i r hr]
 rw[ξg hi] at hu ⊢
 simp only[Option.getD_some] at hu
 simp[hu]
theorem flt_opn {enc:α→List Value} {m:Nat} {w:World} {v:Value} {zs:List α} (hm:∀z,(enc z).length=m) (hm0:0<m) (nil:α) (h:Rdt w (flt m enc zs) v):
 ∃a n cap,v= .slice a n cap∧Hid (zs.length=n)∧n≤cap∧n≤9223372036854775807∧
 (0<n→ ∃b off,a=some ⟨b,off,none⟩∧b<w.heap.size∧ ∀i,i<n→ ∀r u,(enc (zs[i]?.getD nil))[r]?= some u→w.cell? ⟨b,off+i*m+r,none⟩=some u):=by
 obtain⟨a,n,cap,hv,HN,h1,h2,h3⟩:=h.opn
 have hn:zs.length=n:=by
  have:=HN.out
  rw[fltC_len hm] at this
  exact Nat.eq_of_mul_eq_mul_right hm0 this
 refine⟨a,n,cap,hv,hn,h1,h2,fun h0=> ?_⟩
 obtain⟨b,off,ea,hb,hc⟩:=h3 h0
 refine⟨b,off,ea,hb,fun i hi r u hu=> ?_⟩
 obtain⟨u',k1,k2⟩:=hc (i*m+r) (.leaf u) (fltC_cell hm nil zs i r u (by omega) hu)
 rw[Nat.add_assoc,k1,k2.leaf_inv]
theorem flt_opnw {enc:α→List Value} {m:Nat} {w:World} {v:Value} {zs:List α} (hm:∀z,(enc z).length=m) (hm0:0<m) (nil:α) (h:Rwt w (flt m enc zs) v):
 ∃a n cap,v= .slice a n cap∧Hid (zs.length=n)∧n≤9223372036854775807∧
 (0<n→ ∃b off,a=some ⟨b,off,none⟩∧b<w.heap.size∧ ∀i,i<n→ ∀r u,(enc (zs[i]?.getD nil))[r]?= some u→w.cell? ⟨b,off+i*m+r,none⟩=some u):=by
 obtain⟨a,n,cap,hv,HN,h2,h3⟩:=h.opn
 have hn:zs.length=n:=by
  have:=HN.out
  rw[fltC_len hm] at this
  exact Nat.eq_of_mul_eq_mul_right hm0 this
 refine⟨a,n,cap,hv,hn,h2,fun h0=> ?_⟩
 obtain⟨b,off,ea,hb,hc⟩:=h3 h0
 refine⟨b,off,ea,hb,fun i hi r u hu=> ?_⟩
 obtain⟨u',k1,k2⟩:=hc (i*m+r) (.leaf u) (fltC_cell hm nil zs i r u (by omega) hu)
 rw[Nat.add_assoc,k1,k2.leaf_inv]
def setRow (w:World) (g o:Nat):List Value→World
 | []=>w
 | u::us=>setRow (w.setCell ⟨g,o,none⟩ u) g (o+1) us
def setDs (ds:List Dt) (o:Nat):List Value→List Dt
 | []=>ds
 | u::us=>setDs (ds.set o (.leaf u)) (o+1) us
theorem setDs_at (us:List Value):∀(ds:List Dt) (o j:Nat),o+us.length≤ds.length→(setDs ds o us)[j]?= if o≤j∧j<o+us.length then(us[j-o]?).map Dt.leaf else ds[j]?:=by
 induction us with
 | nil=>intro ds o j h;rw[setDs,if_neg (by simp)]
 | cons u us ih=>
   intro ds o j h
   rw[List.length_cons] at h
   rw[setDs,ih _ _ _ (by rw[List.length_set];omega),List.length_cons]
   by_cases e:o=j
   · subst e
     rw[if_neg (by omega),if_pos (by omega),List.getElem?_set_self (by omega),Nat.sub_self]
     rfl
   · rw[List.getElem?_set_ne e]
     by_cases e2:o+1≤j∧j<o+1+us.length
     · rw[if_pos e2,if_pos (by omega),show j-o=(j-(o+1))+1 by omega,List.getElem?_cons_succ]
     · rw[if_neg e2,if_neg (by omega)]
theorem setDs_flt {enc:α→List Value} {m:Nat} (hm:∀z,(enc z).length=m) (hm0:0<m) (zs:List α) (z:α) {k:Nat} (hk:k<zs.length):setDs (fltC enc zs) (k*m) (enc z)=fltC enc (zs.set k z):=by
 have hkm:k*m+m≤zs.length*m:=by
  have:=Nat.mul_le_mul_right m (show k+1≤zs.length by omega)
  rw[Nat.add_mul] at this;omega
 apply List.ext_getElem?
 intro j
 rw[setDs_at _ _ _ _ (by rw[hm,fltC_len hm];exact hkm),hm]
 obtain⟨i,r,hr,rfl⟩:∃i r,r<m∧j=i*m+r:=⟨j/m,j%m,Nat.mod_lt _ hm0,by rw[Nat.mul_comm];exact(Nat.div_add_mod j m).symm⟩
 rw[fltC_at hm _ i r hr,fltC_at hm _ i r hr]
 by_cases e:k=i
 · subst e
   rw[if_pos (by omega),List.getElem?_set_self hk,Nat.add_sub_cancel_left]
   rfl
 · rw[List.getElem?_set_ne e,if_neg]
   intro h
   rcases Nat.lt_or_gt_of_ne e with h2 | h2
   · have:=Nat.mul_le_mul_right m (show k+1≤i by omega)
     rw[Nat.add_mul] at this;omega
   · have:=Nat.mul_le_mul_right m (show i+1≤k by omega)
     rw[Nat.add_mul] at this;omega
theorem Ofr.putRow {base size:Nat} {v:Value} {g off n cap:Nat} (hv:v= .slice (some ⟨g,off,none⟩) n cap) (us:List Value):∀(w:World) (ds:List Dt) (o:Nat),Ofr w base (.rows size ds) v→base≤w.heap.size→o+us.length≤ds.length→
 Ofr (setRow w g (off+o) us) base (.rows size (setDs ds o us)) v:=by
 induction us with
 | nil=>intro w ds o h _ _;exact h
 | cons u us ih=>
   intro w ds o h hb hl
   rw[List.length_cons] at hl
   obtain⟨g',off',n',cap',e,-,-,-,-,h2⟩:=h.put hb (ξb _ _) (Ofr.lf w w.heap.size u) (j:=o) (by omega)
   rw[hv] at e
   simp only[Value.slice.injEq,Option.some.injEq,Addr.mk.injEq,and_true] at e
   obtain⟨⟨rfl,rfl⟩,rfl,rfl⟩:=e
   exact ih _ _ (o+1) h2 (by simpa using hb) (by rw[List.length_set];omega)
theorem Ofr.frozen {w:World} {base size g off n cap:Nat} {ds:List Dt} (h:Ofr w base (.rows size ds) (.slice (some ⟨g,off,none⟩) n cap)) (j:Nat):w.frozen? ⟨g,j,none⟩=false:=by
 obtain⟨fp,q,_⟩:=h
 cases q with
 | mk hl hu hf hn hc hgg hcs ht hd=>exact ξz _ _ _ _ _ hgg
theorem flt_put {enc:α→List Value} {m base:Nat} {w:World} {v:Value} {zs:List α} (hm:∀z,(enc z).length=m) (hm0:0<m) (h:Ofr w base (flt m enc zs) v) (hb:base≤w.heap.size) {k:Nat} (hk:k<zs.length) (z:α):
 ∃g off cap,v= .slice (some ⟨g,off,none⟩) zs.length cap∧base≤g∧g<w.heap.size∧(∀r,r<m→ ∃u0,w.cell? ⟨g,off+k*m+r,none⟩=some u0)∧(∀j,w.frozen? ⟨g,j,none⟩=false)∧
  Ofr (setRow w g (off+k*m) (enc z)) base (flt m enc (zs.set k z)) v:=by
 have hkm:k*m+m≤zs.length*m:=by
  have:=Nat.mul_le_mul_right m (show k+1≤zs.length by omega)
  rw[Nat.add_mul] at this;omega
 have hl:=fltC_len hm zs
 obtain⟨g,off,n,cap,rfl,h1,h2,-,-,-⟩:=h.put hb (ξb _ _) (Ofr.lf w w.heap.size undef) (j:=k*m) (by omega)
 have hn:zs.length=n:=by
  obtain⟨a,n',cap',e,HN,-,-,-⟩:=h.rd.opn
  simp only[Value.slice.injEq] at e
  obtain⟨-,rfl,-⟩:=e
  have:=HN.out
  rw[hl] at this
  exact Nat.eq_of_mul_eq_mul_right hm0 this
 subst hn
 refine⟨g,off,cap,rfl,h1,h2,fun r hr=> ?_,fun j=> ?_,?_⟩
 · obtain⟨g',off',n',cap',e,-,-,⟨u0,h3⟩,-,-⟩:=h.put hb (ξb _ _) (Ofr.lf w w.heap.size undef) (j:=k*m+r) (by omega)
   simp only[Value.slice.injEq,Option.some.injEq,Addr.mk.injEq,and_true] at e
   obtain⟨⟨rfl,rfl⟩,-,rfl⟩:=e
   rw[←Nat.add_assoc] at h3
   exact⟨u0,h3⟩
 · exact h.frozen j
 · have:=h.putRow rfl (enc z) w (fltC enc zs) (k*m) hb (by rw[hm];omega)
   rw[setDs_flt hm hm0 zs z hk] at this
   exact this
theorem Ofr.of_row {w:World} {base m n:Nat} {T:TypeId} {v:Value} {us:List Value} (h:w.ownsRow base T m v n us):Ofr w base (.rows m (us.map Dt.leaf)) v:=by
 refine Grw.ofr (T:=T) (n:=n) ⟨us,List.replicate us.length [],h,by simp,by simp,fun j d u f e1 e2 e3=> ?_,by simp,by simp,by simp⟩
 rw[List.getElem?_map,e2] at e1
 simp at e1
 subst e1
 have:f=[]:=by
  have:=List.mem_of_getElem? e3
  exact List.eq_of_mem_replicate this
 subst this
 exact .leaf _
theorem flt_of_row {enc:α→List Value} {w:World} {base m n:Nat} {T:TypeId} {v:Value} {zs:List α} (h:w.ownsRow base T m v n (zs.flatMap enc)):Ofr w base (flt m enc zs) v:=by
 have:=Ofr.of_row h
 rw[List.map_flatMap] at this
 exact this
end
set_option maxRecDepth 100000
def nilS:ByteArray:=⟨#[]⟩
def strE (s:ByteArray):List Value:=[.string s]
def plc (ns:List ByteArray) (x:ByteArray):Int:=match ns.findIdx? (fun s=>s.toList==x.toList) with | some i=>(i:Int) | none=> -1
theorem plc_none {ns:List ByteArray} {x:ByteArray} (h:ns.any (fun s=>s.toList==x.toList)=false):plc ns x= -1:=by
 unfold plc
 rw[List.findIdx?_eq_none_iff.2 fun s hs=>by
  have:=(List.any_eq_false.1 h) s hs
  simpa using this]
theorem plc_some {ns:List ByteArray} {x:ByteArray} {k:Nat} (hk:k<ns.length) (h:(ns.take k).any (fun s=>s.toList==x.toList)=false) (e:((ns[k]?.getD nilS).toList==x.toList)=true):plc ns x=(k:Int):=by
 rw[ξg hk] at e
 unfold plc
 rw[List.findIdx?_eq_some_iff_getElem.2 ⟨hk,by simpa using e,fun j hj=>by
  have:=(List.any_eq_false.1 h) (ns[j]'(by omega)) (List.mem_take_iff_getElem.2 ⟨j,by omega,rfl⟩)
  simpa using this⟩]
theorem any_more {ns:List ByteArray} {x:ByteArray} {k:Nat} (hk:k<ns.length) (h:(ns.take k).any (fun s=>s.toList==x.toList)=false) (e:((ns[k]?.getD nilS).toList==x.toList)=false):(ns.take (k+1)).any (fun s=>s.toList==x.toList)=false:=by
 rw[ξg hk] at e
 rw[List.take_add_one,List.any_append,h,ξg hk]
 simpa using e
theorem l2Find_any (v:Value) (ns:List ByteArray) (x:ByteArray) (w:World) (h:Rdt w (flt 1 strE ns) v):
 Calls Tryz.prog 169 #[v,.string x] w fun e w'=>e= .returned (.int .i64 (plc ns x))∧w=w':=by
 obtain⟨a,n,cap,rfl,HN,_,hnl,ha⟩:=flt_opn (m:=1) (enc:=strE) (fun _=>rfl) (by omega) nilS h
 have HA:=ξh ha
 have HP:=ξh (fun k (hk:k<ns.length)=>@plc_some ns x k hk)
 have HM:=ξh (fun k (hk:k<ns.length)=>@any_more ns x k hk)
 have HO:=ξh (@plc_none ns x)
 clear ha h
 generalize plc ns x=r at *
 go_enter Tryz.func169,Tryz.ntmps169
 go_wp2
 go_loop [5] (fun i=>∃k:Nat,k≤n∧i= .int .i64 k∧Hid ((ns.take k).any (fun s=>s.toList==x.toList)=false)) (fun i=>n-(intOf i).toNat)
 case atStart=>exact⟨0,Nat.zero_le _,rfl,by simp[Hid]⟩
 case round=>
  obtain⟨k,hk,rfl,HT⟩:=hrel
  by_cases hlt:k<n
  · have hltI:(k:Int)<(n:Int):=by omega
    have hkx:k<ns.length:=by rw[HN.out];exact hlt
    obtain⟨b,off,rfl,hbs,hcs⟩:=HA.out (by omega)
    have hc0:=hcs k hlt 0 _ rfl
    rw[Nat.mul_one,Nat.add_zero] at hc0
    have HP1:=ξh (HP.out k hkx HT.out)
    have HM1:=ξh (HM.out k hkx HT.out)
    clear hcs hkx
    generalize ns[k]?.getD nilS=s at *
    by_cases he:(s.toList==x.toList)=true
    · have HE:=ξh (HP1.out he)
      go_wp2
      go_ret
      exact⟨by rw[HE.out];rfl,rfl⟩
    · have he:(s.toList==x.toList)=false:=by simpa using he
      have HE:=ξh (HM1.out he)
      go_wp2
      go_round
      case rel=>exact⟨k+1,by omega,by go_num,HE.out⟩
      case measure=>simp[intOf];omega
  · obtain rfl:k=n:=by omega
    have hall:=HT.out
    rw[←HN.out,List.take_length] at hall
    have HE:=ξh (HO.out hall)
    clear hall
    go_wp2
    go_ret
    exact⟨by rw[HE.out];rfl,rfl⟩
theorem indexS_any (v:Value) (ns:List ByteArray) (x:ByteArray) (w:World) (h:Rdt w (flt 1 strE ns) v):
 Calls Tryz.prog 172 #[v,.string x] w fun e w'=>e= .returned (.int .i64 (plc ns x))∧w=w':=by
 obtain⟨a,n,cap,rfl,HN,_,hnl,ha⟩:=flt_opn (m:=1) (enc:=strE) (fun _=>rfl) (by omega) nilS h
 have HA:=ξh ha
 have HP:=ξh (fun k (hk:k<ns.length)=>@plc_some ns x k hk)
 have HM:=ξh (fun k (hk:k<ns.length)=>@any_more ns x k hk)
 have HO:=ξh (@plc_none ns x)
 clear ha h
 generalize plc ns x=r at *
 go_enter Tryz.func172,Tryz.ntmps172
 go_wp2
 go_loop [5,8] (fun _ i=>∃k:Nat,k≤n∧i= .int .i64 k∧Hid ((ns.take k).any (fun s=>s.toList==x.toList)=false)) (fun _ i=>n-(intOf i).toNat)
 case atStart=>exact⟨0,Nat.zero_le _,rfl,by simp[Hid]⟩
 case round=>
  obtain⟨k,hk,rfl,HT⟩:=hrel
  by_cases hlt:k<n
  · have hltI:(k:Int)<(n:Int):=by omega
    have hkx:k<ns.length:=by rw[HN.out];exact hlt
    obtain⟨b,off,rfl,hbs,hcs⟩:=HA.out (by omega)
    have hc0:=hcs k hlt 0 _ rfl
    rw[Nat.mul_one,Nat.add_zero] at hc0
    have HP1:=ξh (HP.out k hkx HT.out)
    have HM1:=ξh (HM.out k hkx HT.out)
    clear hcs hkx
    generalize ns[k]?.getD nilS=s at *
    by_cases he:(s.toList==x.toList)=true
    · have HE:=ξh (HP1.out he)
      have he2:(x.toList==s.toList)=true:=by rw[←he];exact BEq.comm
      go_wp2
      go_ret
      exact⟨by rw[HE.out];rfl,rfl⟩
    · have he:(s.toList==x.toList)=false:=by simpa using he
      have HE:=ξh (HM1.out he)
      have he2:(x.toList==s.toList)=false:=by rw[←he];exact BEq.comm
      go_wp2
      go_round
      case rel=>exact⟨k+1,by omega,by go_num,HE.out⟩
      case measure=>simp[intOf];omega
  · obtain rfl:k=n:=by omega
    have hall:=HT.out
    rw[←HN.out,List.take_length] at hall
    have HE:=ξh (HO.out hall)
    clear hall
    go_wp2
    go_ret
    exact⟨by rw[HE.out];rfl,rfl⟩
theorem containsS_any (v:Value) (ns:List ByteArray) (x:ByteArray) (w:World) (h:Rdt w (flt 1 strE ns) v):
 Calls Tryz.prog 129 #[v,.string x] w fun e w'=>e= .returned (.bool (decide (0≤plc ns x)))∧w=w':=by
 have HI:=ξh (indexS_any v ns x w h)
 generalize plc ns x=r at *
 obtain⟨a,n,cap,rfl,-,-,-,-⟩:=flt_opn (m:=1) (enc:=strE) (fun _=>rfl) (by omega) nilS h
 clear h
 go_enter Tryz.func129,Tryz.ntmps129
 go_wp2_with (go_at_call 172;refine(HI.out).mono ?_;rintro e w' ⟨rfl,rfl⟩)
 go_ret
 exact⟨rfl,rfl⟩
def inB (n lo hi:Int):Bool:=decide (lo≤n)&&decide (n≤hi)
theorem inB_true {n lo hi:Int} (h:inB n lo hi=true):lo≤n∧n≤hi:=by simpa[inB] using h
theorem inB_mk {n lo hi:Int} (h:lo≤n) (h2:n≤hi):inB n lo hi=true:=by simp[inB,h,h2]
def m1 (a b:Nat):Nat→Nat
 | 0=>0
 | k+1=>if(b/2 ^ k)%2=1 then m1 a b k ^^^ (a*2 ^ k) else m1 a b k
def r1 (x:Nat):Nat→Nat
 | 0=>x
 | k+1=>if(r1 x k/2 ^ (6-k))%2=1 then r1 x k ^^^ (19*2 ^ (2-k)) else r1 x k
theorem within_any (n lo hi:Int) (w:World):Calls Tryz.prog 74 #[.int .i64 n,.int .i64 lo,.int .i64 hi] w fun e w'=>e= .returned (.bool (inB n lo hi))∧w=w':=by
 by_cases h1:lo≤n
 · have hd:decide (lo≤n)=true:=by simpa using h1
   go_enter Tryz.func74,Tryz.ntmps74
   go_wp2
   go_ret
   exact⟨by simp[inB,h1],rfl⟩
 · have hd:decide (lo≤n)=false:=by simpa using h1
   go_enter Tryz.func74,Tryz.ntmps74
   go_wp2
   go_ret
   exact⟨by rw[inB,hd];rfl,rfl⟩
theorem l1In_any (n lo hi:Int) (w:World):Calls Tryz.prog 77 #[.int .i64 n,.int .i64 lo,.int .i64 hi] w fun e w'=>e= .returned (.bool (inB n lo hi))∧w=w':=by
 by_cases h1:lo≤n
 · have hd:decide (lo≤n)=true:=by simpa using h1
   go_enter Tryz.func77,Tryz.ntmps77
   go_wp2
   go_ret
   exact⟨by simp[inB,h1],rfl⟩
 · have hd:decide (lo≤n)=false:=by simpa using h1
   go_enter Tryz.func77,Tryz.ntmps77
   go_wp2
   go_ret
   exact⟨by rw[inB,hd];rfl,rfl⟩
structure Fib where
 a:Int
 b:Int
 l:Int
 r:Int
def nilB:Fib:=⟨0,0,0,0⟩
def fibE (f:Fib):List Value:=[.int .i64 f.a,.int .i64 f.b,.int .i64 f.l,.int .i64 f.r]
def fibV (f:Fib):Value:= .agg #[.int .i64 f.a,.int .i64 f.b,.int .i64 f.l,.int .i64 f.r]
def fibOk (f:Fib) (m:Nat):Bool:=inB f.a 0 ((m:Int)-1)&&inB f.b (f.a+1) ((m:Int)-1)&&inB f.l 1 5000&&inB f.r 0 9
theorem l2Fiber_any (f:Fib) (m:Nat) (w:World) (hm:m≤1000):
 Calls Tryz.prog 170 #[fibV f,.int .i64 (m:Int)] w fun e w'=>e= .returned (.bool (fibOk f m))∧Below w.heap.size w w':=by
 obtain⟨a,b,l,r⟩:=f
 have HB:=ξh ((ξb w.heap.size w).alloc (ξr _) (.cells #[.int .i64 a,.int .i64 b,.int .i64 l,.int .i64 r] 146))
 have HF:=ξh (show fibOk ⟨a,b,l,r⟩ m=(inB a 0 ((m:Int)-1)&&inB b (a+1) ((m:Int)-1)&&inB l 1 5000&&inB r 0 9) from rfl)
 generalize fibOk ⟨a,b,l,r⟩ m=q at *
 unfold fibV
 cases h1:inB a 0 ((m:Int)-1)
 · rw[h1] at HF
   go_enter Tryz.func170,Tryz.ntmps170
   go_wp2_with (go_at_call 77;refine(l1In_any _ _ _ _).mono ?_;rintro e w' ⟨rfl,rfl⟩)
   go_ret
   exact⟨by rw[HF.out];rfl,HB.out⟩
 rw[h1] at HF
 have hb1:=inB_true h1
 cases h2:inB b (a+1) ((m:Int)-1)
 · rw[h2] at HF
   go_enter Tryz.func170,Tryz.ntmps170
   go_wp2_with (go_at_call 77;refine(l1In_any _ _ _ _).mono ?_;rintro e w' ⟨rfl,rfl⟩)
   go_ret
   exact⟨by rw[HF.out];rfl,HB.out⟩
 rw[h2] at HF
 cases h3:inB l 1 5000
 · rw[h3] at HF
   go_enter Tryz.func170,Tryz.ntmps170
   go_wp2_with (go_at_call 77;refine(l1In_any _ _ _ _).mono ?_;rintro e w' ⟨rfl,rfl⟩)
   go_ret
   exact⟨by rw[HF.out];rfl,HB.out⟩
 rw[h3] at HF
 go_enter Tryz.func170,Tryz.ntmps170
 go_wp2_with (go_at_call 77;refine(l1In_any _ _ _ _).mono ?_;rintro e w' ⟨rfl,rfl⟩)
 go_ret
 exact⟨by rw[HF.out];rfl,HB.out⟩
def fibGt (f g:Fib):Bool:=if f.a≠g.a then decide (g.a<f.a) else if f.b≠g.b then decide (g.b<f.b) else if f.l≠g.l then decide (g.l<f.l) else decide (g.r<f.r)
def smallF (f:Fib):Prop:=(-100000≤f.a∧f.a≤100000)∧(-100000≤f.b∧f.b≤100000)∧(-100000≤f.l∧f.l≤100000)∧(-100000≤f.r∧f.r≤100000)
def befF (f g:Fib):Int:=if f.a≠g.a then f.a-g.a else if f.b≠g.b then f.b-g.b else if f.l≠g.l then f.l-g.l else f.r-g.r
theorem befF_gt (f g:Fib):decide (0<befF f g)=fibGt f g:=by
 unfold befF fibGt
 by_cases e1:f.a≠g.a
 · rw[if_pos e1,if_pos e1];congr 1;simp only[eq_iff_iff];omega
 · rw[if_neg e1,if_neg e1]
   by_cases e2:f.b≠g.b
   · rw[if_pos e2,if_pos e2];congr 1;simp only[eq_iff_iff];omega
   · rw[if_neg e2,if_neg e2]
     by_cases e3:f.l≠g.l
     · rw[if_pos e3,if_pos e3];congr 1;simp only[eq_iff_iff];omega
     · rw[if_neg e3,if_neg e3];congr 1;simp only[eq_iff_iff];omega
theorem l2Before_any (f g:Fib) (w:World) (hf:smallF f) (hg:smallF g):
 Calls Tryz.prog 171 #[fibV f,fibV g] w fun e w'=>e= .returned (.int .i64 (befF f g))∧Below w.heap.size w w':=by
 obtain⟨a,b,l,r⟩:=f
 obtain⟨a',b',l',r'⟩:=g
 obtain⟨a1,b1,l1,r1⟩:=hf
 obtain⟨a2,b2,l2,r2⟩:=hg
 simp only at a1 b1 l1 r1 a2 b2 l2 r2
 have hal:=(ξb w.heap.size w).alloc (ξr _) (.cells #[.int .i64 a,.int .i64 b,.int .i64 l,.int .i64 r] 146)
 have HB:=ξh (hal.alloc hal.size (.cells #[.int .i64 a',.int .i64 b',.int .i64 l',.int .i64 r'] 146))
 have HD:=ξh (show∀d:Int,(if a≠a' then d=a-a' else if b≠b' then d=b-b' else if l≠l' then d=l-l' else d=r-r')→befF ⟨a,b,l,r⟩ ⟨a',b',l',r'⟩=d from by
  intro d h
  unfold befF
  simp only
  split at h
  · rename_i e
    rw[if_pos e];exact h.symm
  · rename_i e
    rw[if_neg e]
    split at h
    · rename_i e2
      rw[if_pos e2];exact h.symm
    · rename_i e2
      rw[if_neg e2]
      split at h
      · rename_i e3
        rw[if_pos e3];exact h.symm
      · rename_i e3
        rw[if_neg e3];exact h.symm)
 generalize befF ⟨a,b,l,r⟩ ⟨a',b',l',r'⟩=q at *
 unfold fibV
 clear hal
 by_cases e1:a=a'
 case neg=>
  have e1b:(a != a')=true:=by rw[bne_iff_ne];exact e1
  have HX:=ξh (HD.out (a-a') (by rw[if_pos e1]))
  clear e1
  go_enter Tryz.func171,Tryz.ntmps171
  go_wp2
  go_ret
  exact⟨by rw[HX.out];rfl,HB.out⟩
 have e1b:(a != a')=false:=by simp[e1]
 by_cases e2:b=b'
 case neg=>
  have e2b:(b != b')=true:=by rw[bne_iff_ne];exact e2
  have HX:=ξh (HD.out (b-b') (by rw[if_neg (by simpa using e1),if_pos e2]))
  clear e1 e2
  go_enter Tryz.func171,Tryz.ntmps171
  go_wp2
  go_ret
  exact⟨by rw[HX.out];rfl,HB.out⟩
 have e2b:(b != b')=false:=by simp[e2]
 by_cases e3:l=l'
 case neg=>
  have e3b:(l != l')=true:=by rw[bne_iff_ne];exact e3
  have HX:=ξh (HD.out (l-l') (by rw[if_neg (by simpa using e1),if_neg (by simpa using e2),if_pos e3]))
  clear e1 e2 e3
  go_enter Tryz.func171,Tryz.ntmps171
  go_wp2
  go_ret
  exact⟨by rw[HX.out];rfl,HB.out⟩
 have e3b:(l != l')=false:=by simp[e3]
 have HX:=ξh (HD.out (r-r') (by rw[if_neg (by simpa using e1),if_neg (by simpa using e2),if_neg (by simpa using e3)]))
 clear e1 e2 e3
 go_enter Tryz.func171,Tryz.ntmps171
 go_wp2
 go_ret
 exact⟨by rw[HX.out];rfl,HB.out⟩
def cmpI (a b:Int):Int:=if a<b then -1 else if b<a then 1 else 0
theorem notNaN_any (a:Int) (w:World):Calls Tryz.prog 212 #[.int .i64 a] w fun e w'=>e= .returned (.bool false)∧w=w':=by
 have h:(a != a)=false:=by simp
 go_enter Tryz.func212,Tryz.ntmps212
 go_wp2
 go_ret
 exact⟨rfl,rfl⟩
theorem compare_any (a b:Int) (w:World):Calls Tryz.prog 174 #[.int .i64 a,.int .i64 b] w fun e w'=>e= .returned (.int .i64 (cmpI a b))∧w=w':=by
 by_cases h1:a<b
 · have h1d:decide (a<b)=true:=ξt h1
   have HR:=ξh (show cmpI a b= -1 by unfold cmpI;rw[if_pos h1])
   go_enter Tryz.func174,Tryz.ntmps174
   go_wp2_with (go_at_call 212;refine(notNaN_any _ _).mono ?_;rintro e w' ⟨rfl,rfl⟩)
   go_ret
   exact⟨by rw[HR.out];rfl,rfl⟩
 have h1d:decide (a<b)=false:=ξf h1
 by_cases h2:b<a
 · have h2d:decide (b<a)=true:=ξt h2
   have HR:=ξh (show cmpI a b=1 by unfold cmpI;rw[if_neg h1,if_pos h2])
   go_enter Tryz.func174,Tryz.ntmps174
   go_wp2_with (go_at_call 212;refine(notNaN_any _ _).mono ?_;rintro e w' ⟨rfl,rfl⟩)
   go_ret
   exact⟨by rw[HR.out];rfl,rfl⟩
 · have h2d:decide (b<a)=false:=ξf h2
   have HR:=ξh (show cmpI a b=0 by unfold cmpI;rw[if_neg h1,if_neg h2])
   go_enter Tryz.func174,Tryz.ntmps174
   go_wp2_with (go_at_call 212;refine(notNaN_any _ _).mono ?_;rintro e w' ⟨rfl,rfl⟩)
   go_ret
   exact⟨by rw[HR.out];rfl,rfl⟩
def orI:List Int→Int
 | []=>0
 | x::xs=>if x=0 then orI xs else x
theorem orI_none:∀{xs:List Int},xs.all (fun x=>x==0)=true→orI xs=0
 | [],_=>rfl
 | x::xs,h=>by
   simp only[List.all_cons,Bool.and_eq_true,beq_iff_eq] at h
   rw[orI,if_pos h.1];exact orI_none h.2
theorem orI_some:∀{xs:List Int} {k:Nat},k<xs.length→(xs.take k).all (fun x=>x==0)=true→xs[k]?.getD 0≠0→orI xs=xs[k]?.getD 0
 | [],k,hk,_,_=>by simp at hk
 | x::xs,0,_,_,e=>by
   have e:x≠0:=by simpa using e
   rw[orI,if_neg e];simp
 | x::xs,k+1,hk,h,e=>by
   simp only[List.take_succ_cons,List.all_cons,Bool.and_eq_true,beq_iff_eq] at h
   rw[orI,if_pos h.1,List.getElem?_cons_succ]
   exact orI_some (by simpa using hk) h.2 (by simpa using e)
theorem all0_more {xs:List Int} {k:Nat} (hk:k<xs.length) (h:(xs.take k).all (fun x=>x==0)=true) (e:xs[k]?.getD 0=0):(xs.take (k+1)).all (fun x=>x==0)=true:=by
 rw[ξg hk] at e
 rw[List.take_add_one,List.all_append,h,ξg hk]
 simpa using e
theorem or_any (v:Value) (xs:List Int) (w:World) (h:Rd w v xs):
 Calls Tryz.prog 173 #[v] w fun e w'=>e= .returned (.int .i64 (orI xs))∧w=w':=by
 obtain⟨a,cap,n,HN,rfl,_,hnl,ha⟩:=h.opn
 have HA:=ξh ha
 have HO:=ξh (@orI_none xs)
 have HS:=ξh (fun k (hk:k<xs.length)=>@orI_some xs k hk)
 have HM:=ξh (fun k (hk:k<xs.length)=>@all0_more xs k hk)
 clear ha h
 generalize orI xs=r at *
 go_enter Tryz.func173,Tryz.ntmps173
 go_wp2
 go_loop [5,8] (fun _ i=>∃k:Nat,k≤n∧i= .int .i64 k∧Hid ((xs.take k).all (fun x=>x==0)=true)) (fun _ i=>n-(intOf i).toNat)
 case atStart=>exact⟨0,Nat.zero_le _,rfl,by simp[Hid]⟩
 case round=>
  obtain⟨k,hk,rfl,HT⟩:=hrel
  by_cases hlt:k<n
  · have hltI:(k:Int)<(n:Int):=by omega
    have hkx:k<xs.length:=by rw[HN.out];exact hlt
    obtain⟨b,off,rfl,hbs,hcs⟩:=HA.out (by omega)
    have hc0:=hcs k hlt
    have HS1:=ξh (HS.out k hkx HT.out)
    have HM1:=ξh (HM.out k hkx HT.out)
    clear hcs hkx
    generalize xs[k]?.getD 0=x at *
    by_cases he:x=0
    · have HE:=ξh (HM1.out he)
      have heb:(x != 0)=false:=by simp[he]
      clear he
      go_wp2
      go_round
      case rel=>exact⟨k+1,by omega,by go_num,HE.out⟩
      case measure=>simp[intOf];omega
    · have HE:=ξh (HS1.out he)
      have heb:(x != 0)=true:=by rw[bne_iff_ne];exact he
      clear he
      go_wp2
      go_ret
      exact⟨by rw[HE.out];rfl,rfl⟩
  · obtain rfl:k=n:=by omega
    have hall:=HT.out
    rw[←HN.out,List.take_length] at hall
    have HE:=ξh (HO.out hall)
    clear hall
    go_wp2
    go_ret
    exact⟨by rw[HE.out];rfl,rfl⟩
theorem orI_fib (f g:Fib):decide (0<orI [cmpI f.a g.a,cmpI f.b g.b,cmpI f.l g.l,cmpI f.r g.r])=fibGt f g:=by
 have hc:∀a b:Int,(a=b∧cmpI a b=0)∨(a≠b∧cmpI a b≠0∧decide (0<cmpI a b)=decide (b<a)):=by
  intro a b
  unfold cmpI
  by_cases h1:a<b
  · rw[if_pos h1];right;refine⟨by omega,by omega,?_⟩
    rw[ξf (show¬(0:Int) < -1 by omega),ξf (show¬b<a by omega)]
  · rw[if_neg h1]
    by_cases h2:b<a
    · rw[if_pos h2];right;refine⟨by omega,by omega,?_⟩
      rw[ξt h2];rfl
    · rw[if_neg h2];left;exact⟨by omega,rfl⟩
 unfold fibGt
 rcases hc f.a g.a with ⟨e1,z1⟩ | ⟨e1,z1,d1⟩
 · rw[if_neg (by simpa using e1),orI,if_pos z1]
   rcases hc f.b g.b with ⟨e2,z2⟩ | ⟨e2,z2,d2⟩
   · rw[if_neg (by simpa using e2),orI,if_pos z2]
     rcases hc f.l g.l with ⟨e3,z3⟩ | ⟨e3,z3,d3⟩
     · rw[if_neg (by simpa using e3),orI,if_pos z3]
       rcases hc f.r g.r with ⟨e4,z4⟩ | ⟨e4,z4,d4⟩
       · rw[orI,if_pos z4,orI,e4,ξf (by omega),ξf (by omega)]
       · rw[orI,if_neg z4,d4]
     · rw[if_pos e3,orI,if_neg z3,d3]
   · rw[if_pos e2,orI,if_neg z2,d2]
 · rw[if_pos e1,orI,if_neg z1,d1]
def cmpF (f g:Fib):Int:=orI [cmpI f.a g.a,cmpI f.b g.b,cmpI f.l g.l,cmpI f.r g.r]
theorem cmpF_gt (f g:Fib):decide (0<cmpF f g)=fibGt f g:=orI_fib f g
theorem rd_alloc (w:World) (T:TypeId) (xs:List Int) (h:xs.length≤maxLen):Rd (w.alloc (.cells (ints xs).toArray T)) (.slice (some ⟨w.heap.size,0,none⟩) xs.length xs.length) xs:=by
 refine .inr ⟨w.heap.size,0,xs.length,rfl,ξr _,h,by simp,fun j hj=> ?_⟩
 have hn:=ξn w (.cells (ints xs).toArray T)
 rw[cell_of_row _ _ _ _ _ _ hn]
 simp[hj]
theorem blkc {w:World} {b j:Nat} {us:Array Value} {T:TypeId} {u:Value} (h:w.heap[b]?= some (.cells us T (0,0))) (hj:us[j]?= some u):w.cell? ⟨b,j,none⟩=some u:=by
 rw[cell_of_row _ _ _ _ _ _ h,hj]
theorem compareFibers_any (f g:Fib) (w:World):
 Calls Tryz.prog 130 #[fibV f,fibV g] w fun e w'=>e= .returned (.int .i64 (cmpF f g))∧Below w.heap.size w w':=by
 have HO:=ξh (show cmpF f g=orI [cmpI f.a g.a,cmpI f.b g.b,cmpI f.l g.l,cmpI f.r g.r] from rfl)
 generalize cmpF f g=q at *
 obtain⟨a,b,l,r⟩:=f
 obtain⟨a',b',l',r'⟩:=g
 unfold fibV
 go_enter Tryz.func130,Tryz.ntmps130
 go_wp2
 have hA:=ξn w (.cells #[.int .i64 a,.int .i64 b,.int .i64 l,.int .i64 r] 146)
 have hA2:=(heap_alloc_old _ (.cells #[.int .i64 a',.int .i64 b',.int .i64 l',.int .i64 r'] 146) (ξa hA).1).trans hA
 have hB2:=ξn (w.alloc (.cells #[.int .i64 a,.int .i64 b,.int .i64 l,.int .i64 r] 146)) (.cells #[.int .i64 a',.int .i64 b',.int .i64 l',.int .i64 r'] 146)
 rw[show(w.alloc (.cells #[.int .i64 a,.int .i64 b,.int .i64 l,.int .i64 r] 146)).heap.size=w.heap.size+1 by simp] at hB2
 have hal:=(ξb w.heap.size w).alloc (ξr _) (.cells #[.int .i64 a,.int .i64 b,.int .i64 l,.int .i64 r] 146)
 have HB:=ξh (hal.alloc hal.size (.cells #[.int .i64 a',.int .i64 b',.int .i64 l',.int .i64 r'] 146))
 clear hA hal
 generalize (w.alloc (.cells #[.int .i64 a,.int .i64 b,.int .i64 l,.int .i64 r] 146)).alloc (.cells #[.int .i64 a',.int .i64 b',.int .i64 l',.int .i64 r'] 146)=W at *
 have c0:=blkc hA2 (j:=0) rfl
 have c1:=blkc hA2 (j:=1) rfl
 have c2:=blkc hA2 (j:=2) rfl
 have c3:=blkc hA2 (j:=3) rfl
 have c4:=blkc hB2 (j:=0) rfl
 have c5:=blkc hB2 (j:=1) rfl
 have c6:=blkc hB2 (j:=2) rfl
 have c7:=blkc hB2 (j:=3) rfl
 clear hA2 hB2
 go_still_tail 20,(by kernel_rfl)
 still_call ((compare_any _ _ _).mono fun _ _ h=>⟨h.1,h.2.symm⟩)
 repeat still_step
 still_call ((compare_any _ _ _).mono fun _ _ h=>⟨h.1,h.2.symm⟩)
 repeat still_step
 still_call ((compare_any _ _ _).mono fun _ _ h=>⟨h.1,h.2.symm⟩)
 repeat still_step
 still_call ((compare_any _ _ _).mono fun _ _ h=>⟨h.1,h.2.symm⟩)
 repeat still_step
 refine wpStill_nil ?_
 go_wp2_with fail
 refine(or_any _ [cmpI a a',cmpI b b',cmpI l l',cmpI r r'] _ (show Rd (W.alloc (.cells #[.int .i64 (cmpI a a'),.int .i64 (cmpI b b'),.int .i64 (cmpI l l'),.int .i64 (cmpI r r')] 3)).drew (.slice (some ⟨W.heap.size,0,none⟩) 4 4) [cmpI a a',cmpI b b',cmpI l l',cmpI r r'] from(rd_alloc W 3 [cmpI a a',cmpI b b',cmpI l l',cmpI r r'] (by show 4≤maxLen;decide)).drew)).mono ?_
 rintro e w' ⟨rfl,rfl⟩
 go_wp2
 go_ret
 exact⟨by rw[HO.out];rfl,(HB.out.alloc HB.out.size _).drew⟩
open Go.RowKit Go.Sort
/-! ### Boxes, regions -/
theorem box_facts (w:World) (us:Array Value) (T:TypeId):Below w.heap.size w (w.alloc (.cells us T))∧(∀j u,us[j]?= some u→(w.alloc (.cells us T)).cell? ⟨w.heap.size,j,none⟩=some u)∧w.heap.size<(w.alloc (.cells us T)).heap.size∧(∀j,(w.alloc (.cells us T)).frozen? ⟨w.heap.size,j,none⟩=false):=
 ⟨(ξb w.heap.size w).alloc (ξr _) _,fun j u h=>blkc (ξn w (.cells us T)) h,by simp,fun j=>ξz _ _ _ _ _ (ξn w (.cells us T))⟩
theorem bcell {W w1:World} (hb:Below W.heap.size W w1):(∀b o,b<W.heap.size→w1.cell? ⟨b,o,none⟩=W.cell? ⟨b,o,none⟩)∧(∀b o,b<W.heap.size→w1.frozen? ⟨b,o,none⟩=W.frozen? ⟨b,o,none⟩):=
 ⟨fun b o h=>hb.cell (p:=⟨b,o,none⟩) h,fun b o h=>hb.frozen (p:=⟨b,o,none⟩) h⟩
theorem rg {w:World} {a:Addr} {v:Value} (h:w.cell? a=some v):∀d os,(grow (redrawn w d) os).cell? a=some v:=fun d os=>cell_regrown h d os
theorem rg_same {P:Program} {f:FuncId} {args:Array Value} {w:World} {d:Nat} {os:Array Obj} {v:Value}
 (h:Calls P f args (grow (redrawn w d) os) fun e w'=>e= .returned v∧grow (redrawn w d) os=w'):Calls P f args (grow (redrawn w d) os) fun e w''=>e= .returned v∧ ∃p:Regrown,w''=grow (redrawn w p.d) p.os:=
 h.mono fun _ _ ⟨he,hb⟩=>⟨he,⟨⟨d,os⟩,hb.symm⟩⟩
theorem Rdt.rg {w:World} {dt:Dt} {v:Value} (h:Rdt w dt v) (d:Nat) (os:Array Obj):Rdt (grow (redrawn w d) os) dt v:=h.behind (below_regrown w d os)
/-! ### Ranges -/
theorem rng_no {m i:Nat} {P:Nat→Bool} (hi:i<m) (h:P i=false):(List.range m).all P=false:=by
 rw[List.all_eq_false];exact⟨i,List.mem_range.2 hi,by simp[h]⟩
theorem rng_yes {m:Nat} {P:Nat→Bool} (h:∀i,i<m→P i=true):(List.range m).all P=true:=by
 rw[List.all_eq_true];exact fun i hi=>h i (List.mem_range.1 hi)
theorem upto_succ {k:Nat} {P:Nat→Bool} (h:∀i,i<k→P i=true) (hk:P k=true):∀i,i<k+1→P i=true:=fun i hi=>by
 by_cases e:i=k
 · rw[e];exact hk
 · exact h i (by omega)
/-! ### Networks -/
structure Net where
 ns:List ByteArray
 fs:List Fib
abbrev nmA (n:Net) (i:Nat):ByteArray:=n.ns[i]?.getD nilS
abbrev fbA (n:Net) (i:Nat):Fib:=n.fs[i]?.getD nilB
def nmOk (n:Net) (i:Nat):Bool:=nameOk (nmA n i)&&decide (plc n.ns (nmA n i)=(i:Int))
def fbOk (n:Net) (i:Nat):Bool:=fibOk (fbA n i) n.ns.length && !(decide (0<i)&&fibGt (fbA n (i-1)) (fbA n i))
def netOk (n:Net):Bool:=decide (2≤n.ns.length∧n.ns.length≤8∧n.fs.length≤14)&&((List.range n.ns.length).all (nmOk n)&&(List.range n.fs.length).all (fbOk n))
theorem netOk_nm {n:Net} {i:Nat} (hi:i<n.ns.length) (h:nmOk n i=false):netOk n=false:=by
 unfold netOk;rw[rng_no hi h];simp
theorem netOk_fb {n:Net} {i:Nat} (hi:i<n.fs.length) (h:fbOk n i=false):netOk n=false:=by
 unfold netOk;rw[rng_no hi h];simp
theorem netOk_sz {n:Net} (h:¬(2≤n.ns.length∧n.ns.length≤8∧n.fs.length≤14)):netOk n=false:=by
 unfold netOk;rw[ξf h];simp
theorem netOk_all {n:Net} (h1:∀i,i<n.ns.length→nmOk n i=true) (h2:∀i,i<n.fs.length→fbOk n i=true):netOk n=decide (2≤n.ns.length∧n.ns.length≤8∧n.fs.length≤14):=by
 unfold netOk;rw[rng_yes h1,rng_yes h2];simp
theorem netOk_yes {n:Net} (h:netOk n=true):2≤n.ns.length∧n.ns.length≤8∧n.fs.length≤14∧(∀i,i<n.ns.length→nmOk n i=true)∧(∀i,i<n.fs.length→fbOk n i=true):=by
 unfold netOk at h
 simp only[Bool.and_eq_true,decide_eq_true_eq,List.all_eq_true] at h
 obtain⟨⟨a,b,c⟩,d,e⟩:=h
 exact⟨a,b,c,fun i hi=>d i (List.mem_range.2 hi),fun i hi=>e i (List.mem_range.2 hi)⟩
theorem fibOk_parts {f:Fib} {m:Nat} (h:fibOk f m=true):0≤f.a∧f.a<f.b∧f.b<m∧1≤f.l∧f.l≤5000∧0≤f.r∧f.r≤9:=by
 unfold fibOk at h
 simp only[Bool.and_eq_true] at h
 obtain⟨⟨⟨h1,h2⟩,h3⟩,h4⟩:=h
 have:=inB_true h1;have:=inB_true h2;have:=inB_true h3;have:=inB_true h4
 omega
theorem fibOk_small {f:Fib} {m:Nat} (h:fibOk f m=true) (hm:m≤1000):smallF f:=by
 have:=fibOk_parts h
 unfold smallF
 omega
theorem plc_pre {ns:List ByteArray} {k:Nat} (hk:k<ns.length):decide (0≤plc (ns.take k) (ns[k]?.getD nilS))= !decide (plc ns (ns[k]?.getD nilS)=(k:Int)):=by
 generalize hx:ns[k]?.getD nilS=x
 cases h:(ns.take k).any (fun s=>s.toList==x.toList)
 · rw[plc_none h,plc_some hk h (by rw[hx];simp)];simp
 · have h1:0≤plc (ns.take k) x∧plc (ns.take k) x<k∧plc ns x=plc (ns.take k) x:=by
    unfold plc
    cases hf:(ns.take k).findIdx? (fun s=>s.toList==x.toList) with
    | none=>
      rw[List.findIdx?_eq_none_iff] at hf
      obtain⟨s,hs,e⟩:=List.any_eq_true.1 h
      rw[hf s hs] at e;cases e
    | some i=>
      obtain⟨hi,e1,e2⟩:=List.findIdx?_eq_some_iff_getElem.1 hf
      have hi':i<k:=by simp at hi;omega
      have hfull:ns.findIdx? (fun s=>s.toList==x.toList)=some i:=List.findIdx?_eq_some_iff_getElem.2 ⟨by omega,by simpa using e1,fun j hj=>by have:=e2 j hj;simpa using this⟩
      rw[hfull]
      simp;omega
   rw[ξt h1.1,h1.2.2,ξf (by omega)];rfl
def NetR (w:World) (v:Value) (n:Net):Prop:=∃u1 u2,v= .agg #[u1,u2]∧Rdt w (flt 1 strE n.ns) u1∧Rdt w (flt 4 fibE n.fs) u2∧ ∀i:Nat,(nmA n i).size≤1048576
theorem NetR.behind {w w':World} {v:Value} {n:Net} (h:NetR w v n) (hb:Below w.heap.size w w'):NetR w' v n:=by
 obtain⟨u1,u2,e,h1,h2,h3⟩:=h;exact⟨u1,u2,e,h1.behind hb,h2.behind hb,h3⟩
theorem flt_take {α:Type} {enc:α→List Value} {m:Nat} {w:World} {a:Option Addr} {n cap k:Nat} {zs:List α} (hm:∀z,(enc z).length=m) (hm0:0<m) (h:Rdt w (flt m enc zs) (.slice a n cap)) (hk:k≤n):Rdt w (flt m enc (zs.take k)) (.slice a k cap):=by
 unfold flt at h ⊢
 have hlen:=fltC_len hm zs
 have hlk:=fltC_len hm (zs.take k)
 have hat:∀j,j<k*m→(fltC enc (zs.take k))[j]?= (fltC enc zs)[j]?:=fun j hj=>by
  obtain⟨i,r,hr,rfl⟩:∃i r,r<m∧j=i*m+r:=⟨j/m,j%m,Nat.mod_lt _ hm0,by rw[Nat.mul_comm];exact(Nat.div_add_mod j m).symm⟩
  have hi:i<k:=by
   by_cases e:i<k
   · exact e
   · have:=Nat.mul_le_mul_right m (Nat.le_of_not_lt e);omega
  rw[fltC_at hm _ i r hr,fltC_at hm _ i r hr,List.getElem?_take,if_pos hi]
 generalize fltC enc zs=ds at *
 generalize fltC enc (zs.take k)=ds' at *
 cases h with
 | nil size=>
   obtain rfl:k=0:=by omega
   have:ds'=[]:=List.eq_nil_of_length_eq_zero (by simpa using hlk)
   rw[this];exact .nil m
 | @mk size n b off cap ds us hl hu hn hc hb hcell hd=>
   have hzl:zs.length=n:=Nat.eq_of_mul_eq_mul_right hm0 (by omega)
   rw[List.length_take,hzl,Nat.min_eq_left hk] at hlk
   have hkm:=Nat.mul_le_mul_right m hk
   refine .mk (us:=us.take (k*m)) hlk (by rw[List.length_take,hlk];omega) (by omega) hc hb (fun j u hj=> ?_) (fun j d u e1 e2=> ?_)
   · rw[List.getElem?_take] at hj
     split at hj
     · exact hcell j u hj
     · cases hj
   · rw[List.getElem?_take] at e2
     split at e2
     · rename_i hjk
       rw[hat j hjk] at e1
       exact hd j d u e1 e2
     · cases e2
theorem Rdt.slice' {α:Type} {enc:α→List Value} {m:Nat} {zs:List α} {w:World} {v:Value} (h:Rdt w (flt m enc zs) v):∃a n cap,v= .slice a n cap:=by
 obtain⟨a,n,cap,e,_⟩:=Rdt.opn (show Rdt w (.rows m (fltC enc zs)) v from h);exact⟨a,n,cap,e⟩
theorem kept_o' {X Y:World} {b:Nat} {x:Obj} (h:X.heap[b]?= some x) (hb:Below X.heap.size X Y):Y.heap[b]?= some x:=by
 rw[hb.block b (ξa h).1];exact h
section
variable {α : Type}
theorem flatV_at {enc:α→List Value} {m:Nat} (hm:∀z,(enc z).length=m):∀(zs:List α) (i r:Nat),r<m→(zs.flatMap enc)[i*m+r]?= (zs[i]?).bind fun z=>(enc z)[r]?
 | [],i,r,_=>by simp
 | z::zs,0,r,h=>by
   rw[List.flatMap_cons,List.getElem?_append_left (by rw[hm];omega)]
   simp
 | z::zs,i+1,r,h=>by
   rw[List.flatMap_cons,List.getElem?_append_right (by rw[hm,Nat.add_mul];omega),hm,show(i+1)*m+r-m=i*m+r by rw[Nat.add_mul];omega,flatV_at hm zs i r h]
   simp
theorem madeCells_flat {enc:α→List Value} {m:Nat} (hm:∀z,(enc z).length=m) (hm0:0<m) (nil:α) (zc:Array Value) (hz:zc.toList=enc nil) (n:Nat):(madeCells zc (n*m)).toList=(List.replicate n nil).flatMap enc:=by
 have hs:zc.size=m:=by rw[←Array.length_toList,hz,hm]
 apply List.ext_getElem?
 intro j
 obtain⟨i,r,hr,rfl⟩:∃i r,r<m∧j=i*m+r:=⟨j/m,j%m,Nat.mod_lt _ hm0,by rw[Nat.mul_comm];exact(Nat.div_add_mod j m).symm⟩
 rw[flatV_at hm _ i r hr]
 have hmod:(i*m+r)%m=r:=by rw[Nat.mul_comm,Nat.mul_add_mod];exact Nat.mod_eq_of_lt hr
 by_cases hi:i<n
 · have hlt:i*m+r<n*m:=by
    have:=Nat.mul_le_mul_right m (show i+1≤n by omega)
    rw[Nat.add_mul] at this;omega
   have hre:(List.replicate n nil)[i]?= some nil:=by simp[hi]
   rw[hre,Option.bind_some,←hz,Array.getElem?_toList,Array.getElem?_toList]
   unfold madeCells
   rw[Array.getElem?_map,Array.getElem?_range,if_pos hlt,Option.map_some,hs,hmod]
   simp[hs,hr]
 · have hge:n*m≤i*m+r:=by
    have:=Nat.mul_le_mul_right m (show n≤i by omega)
    omega
   have hre:(List.replicate n nil)[i]?= none:=by simp;omega
   rw[hre,Option.bind_none,Array.getElem?_toList]
   unfold madeCells
   rw[Array.getElem?_map,Array.getElem?_range,if_neg (by omega)]
   rfl
theorem made_flat {enc:α→List Value} {m:Nat} {w:World} {base n:Nat} {T:TypeId} {v:Value} (hm:∀z,(enc z).length=m) (hm0:0<m) (nil:α) {zc:Array Value} (hz:zc.toList=enc nil) (h:w.ownsRow base T m v n (madeCells zc (n*m)).toList):Ofr w base (flt m enc (List.replicate n nil)) v:=by
 rw[madeCells_flat hm hm0 nil zc hz] at h
 exact flt_of_row h
theorem setRow_below {B:Nat} {w:World} {g:Nat} (hB:B≤g) (us:List Value):∀(w':World) (o:Nat),Below B w w'→Below B w (setRow w' g o us):=by
 induction us with
 | nil=>intro w' o h;exact h
 | cons u us ih=>intro w' o h;exact ih _ _ (h.setCell (p:=⟨g,o,none⟩) hB _)
def fillG (nil:α) (zs:List α) (n k:Nat):List α:=zs.take k++List.replicate (n-k) nil
theorem fillG_zero (nil:α) (zs:List α) (n:Nat):fillG nil zs n 0=List.replicate n nil:=by simp[fillG]
theorem fillG_all (nil:α) (zs:List α) (n:Nat) (h:zs.length=n):fillG nil zs n n=zs:=by simp[fillG,←h]
theorem fillG_len (nil:α) (zs:List α) (n k:Nat) (h:zs.length=n) (hk:k≤n):(fillG nil zs n k).length=n:=by simp[fillG];omega
theorem fillG_step (nil:α) (zs:List α) (n k:Nat) (h:zs.length=n) (hk:k<n):(fillG nil zs n k).set k (zs[k]?.getD nil)=fillG nil zs n (k+1):=by
 unfold fillG
 have hl:(zs.take k).length=k:=by simp;omega
 rw[List.set_append_right _ _ (by omega),hl,Nat.sub_self]
 obtain⟨m,hm⟩:∃m,n-k=m+1:=⟨n-k-1,by omega⟩
 rw[hm,List.replicate_succ,List.set_cons_zero,show n-(k+1)=m by omega,List.take_add_one,List.append_assoc,ξg (show k<zs.length by omega)]
 rfl
def mkG (f:Nat→α) (zs:List α) (k:Nat):List α:=(List.range k).map f++zs.drop k
theorem mkG_zero (f:Nat→α) (zs:List α):mkG f zs 0=zs:=by simp[mkG]
theorem mkG_all (f:Nat→α) (zs:List α) (n:Nat) (h:zs.length=n):mkG f zs n=(List.range n).map f:=by simp[mkG,←h]
theorem mkG_len (f:Nat→α) (zs:List α) (k:Nat) (h:k≤zs.length):(mkG f zs k).length=zs.length:=by simp[mkG];omega
theorem mkG_at (f:Nat→α) (zs:List α) (k:Nat):(mkG f zs k)[k]?= zs[k]?:=by
 rw[mkG,List.getElem?_append_right (by simp)];simp
theorem mkG_step (f:Nat→α) (zs:List α) (k:Nat) (h:k<zs.length):(mkG f zs k).set k (f k)=mkG f zs (k+1):=by
 unfold mkG
 rw[List.set_append_right _ _ (by simp),List.length_map,List.length_range,Nat.sub_self,List.drop_eq_getElem_cons h,List.set_cons_zero,List.range_succ,List.map_append,List.append_assoc]
 rfl
theorem rangeMap_get (f:Nat→α) (nil:α) (n k:Nat) (h:k<n):((List.range n).map f)[k]?.getD nil=f k:=by simp[h]
theorem Odt.storeRow {size:Nat} {v:Value} {fp:List Nat} {g off n cap:Nat} (hv:v= .slice (some ⟨g,off,none⟩) n cap) (hn:fp.Nodup) (us:List Value):∀(w:World) (ds:List Dt) (o:Nat),Odt w (.rows size ds) v fp→(∀r,r<us.length→ ∃u,ds[o+r]?= some (.leaf u))→
 Odt (setRow w g (off+o) us) (.rows size (setDs ds o us)) v fp∧Wr w (setRow w g (off+o) us) fp:=by
 induction us with
 | nil=>intro w ds o h _;exact⟨h,Wr.refl _ _⟩
 | cons u us ih=>
   intro w ds o h hl
   obtain⟨u0,hu0⟩:=hl 0 (by simp)
   obtain⟨g',off',n',cap',e,-,-,-,h2,h3⟩:=h.store hn (j:=o) hu0 u
   rw[hv] at e
   simp only[Value.slice.injEq,Option.some.injEq,Addr.mk.injEq,and_true] at e
   obtain⟨⟨rfl,rfl⟩,rfl,rfl⟩:=e
   obtain⟨k1,k2⟩:=ih _ _ (o+1) h2 (fun r hr=>by
    obtain⟨u1,e1⟩:=hl (r+1) (by simpa using hr)
    refine⟨u1,?_⟩
    rw[List.getElem?_set_ne (by omega),show o+1+r=o+(r+1) by omega,e1])
   exact⟨k1,h3.trans k2⟩
theorem flt_leaf {enc:α→List Value} {m:Nat} (hm:∀z,(enc z).length=m) (zs:List α) {k r:Nat} (hk:k<zs.length) (hr:r<m):∃u,(fltC enc zs)[k*m+r]?= some (.leaf u):=by
 rw[fltC_at hm zs k r hr,ξg hk]
 have:r<(enc zs[k]).length:=by rw[hm];exact hr
 exact⟨(enc zs[k])[r],by simp[ξg this]⟩
theorem flt_mark {enc:α→List Value} {m:Nat} {w:World} {fp:List Nat} {a:Option Addr} {n cap k:Nat} {zs:List α} (hm:∀z,(enc z).length=m) (hm0:0<m) (h:Odt w (flt m enc zs) (.slice a n cap) fp) (hn:fp.Nodup) (hk:k<zs.length):
 ∃g off,a=some ⟨g,off,none⟩∧(∀r,r<m→ ∃u0,w.cell? ⟨g,off+k*m+r,none⟩=some u0)∧(∀j,w.frozen? ⟨g,j,none⟩=false)∧
  ∀z,Odt (setRow w g (off+k*m) (enc z)) (flt m enc (zs.set k z)) (.slice a n cap) fp∧Wr w (setRow w g (off+k*m) (enc z)) fp:=by
 obtain⟨u0,hu0⟩:=flt_leaf hm zs hk hm0
 obtain⟨g,off,n',cap',e,-,-,hg,-,-⟩:=Odt.store (show Odt w (.rows m (fltC enc zs)) _ fp from h) hn hu0 undef
 simp only[Value.slice.injEq] at e
 obtain⟨rfl,rfl,rfl⟩:=e
 refine⟨g,off,rfl,fun r hr=> ?_,fun j=> ?_,fun z=> ?_⟩
 · obtain⟨u1,hu1⟩:=flt_leaf hm zs hk hr
   obtain⟨g',off',n',cap',e,hc,-⟩:=Odt.store (show Odt w (.rows m (fltC enc zs)) _ fp from h) hn hu1 undef
   simp only[Value.slice.injEq,Option.some.injEq,Addr.mk.injEq,and_true] at e
   obtain⟨⟨rfl,rfl⟩,rfl,rfl⟩:=e
   rw[←Nat.add_assoc] at hc
   exact⟨u1,hc⟩
 · unfold flt at h
   generalize fltC enc zs=ds at h
   cases h with
   | mk hl hu hf hnc hc hgg hcs ht hd=>exact ξz _ _ _ _ _ hgg
 · have:=Odt.storeRow rfl hn (enc z) w (fltC enc zs) (k*m) h (fun r hr=>flt_leaf hm zs hk (by rw[hm] at hr;exact hr))
   rw[setDs_flt hm hm0 zs z hk] at this
   exact this
end
abbrev mk (l:List UInt8):ByteArray:=⟨l.toArray⟩
theorem ba_ext {a b:ByteArray} (h:a.data.toList=b.data.toList):a=b:=by
 cases a;cases b;simp only[ByteArray.mk.injEq];exact Array.toList_inj.1 h
theorem data_append (a b:ByteArray):(a++b).data.toList=a.data.toList++b.data.toList:=by simp[ByteArray.data_append]
theorem mk_append (a b:List UInt8):mk a++mk b=mk (a++b):=ba_ext (by rw[data_append])
abbrev digs (n:Nat):List UInt8:=Go.Lib.decDigits n
theorem digs_small {n:Nat} (h:n<10):digs n=[UInt8.ofNat (48+n)]:=by unfold digs;rw[Go.Lib.decDigits,dif_pos h]
theorem digs_big {n:Nat} (h:¬n<10):digs n=digs (n/10)++[UInt8.ofNat (48+n%10)]:=by unfold digs;rw[Go.Lib.decDigits,dif_neg h]
end Go.Proofs.YtofcicomhnkocaaGreat
