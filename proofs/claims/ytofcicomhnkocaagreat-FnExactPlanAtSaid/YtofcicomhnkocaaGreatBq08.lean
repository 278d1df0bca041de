/- Joined: XCpyW XIntW XExa XIss XOfl XLpa XLpb XLpc. -/
import Derived.Test.YtofcicomhnkocaaGreatAls
import Derived.Test.YtofcicomhnkocaaGreatBq03
import Derived.Test.YtofcicomhnkocaaGreatBq07
import Derived.Deep.CutRange
import Derived.Test.YtofcicomhnkocaaGreatBq01
import Derived.Test.YtofcicomhnkocaaGreatBq02
import Derived.Deep.MidRow
import Derived.Deep.Slices
import Derived.Laws.IdiomStrings
import Derived.Lib.QuietBelow
import Derived.Lib.SmallJoins
import Derived.OwnWalk
import Derived.Test.YtofcicomhnkocaaGreatBq04
import Derived.Test.YtofcicomhnkocaaGreatBq05
import Derived.ArgAppend
import Derived.Deep.RegionLaw
import Derived.Test.YtofcicomhnkocaaGreatBq06
set_option linter.unusedVariables false
namespace Go.Proofs.YtofcicomhnkocaaGreat
set_option maxHeartbeats 6400000
open Go.RowKit Go.Sort
set_option maxRecDepth 100000
open Cpy
theorem src_flt {α:Type} {enc:α→List Value} {m:Nat} {w:World} {zs:List α} {a:Option Addr} {n c:Nat} (hm:∀z,(enc z).length=m) (_hm0:0<m) (h:Rdt w (flt m enc zs) (.slice a n c)) (hn:zs.length=n):
 (a=none→n=0∧c=0)∧(zs.flatMap enc).length=n*m∧ ∀w',Below w.heap.size w w'→ ∀ad,a=some ad→ ∀j u,(zs.flatMap enc)[j]?= some u→w'.cell? (ad.add j)=some u:=by
 have hlen:(zs.flatMap enc).length=n*m:=by
  have:=fltC_len hm zs
  unfold fltC at this
  rw[←hn,←this,←List.map_flatMap,List.length_map]
 have hds:fltC enc zs=(zs.flatMap enc).map Dt.leaf:=by unfold fltC;rw[List.map_flatMap]
 unfold flt at h
 rw[hds] at h
 generalize hys:(zs.flatMap enc).map Dt.leaf=ds at *
 cases h with
 | nil=>
   have:zs.flatMap enc=[]:=by simpa using hys
   rw[this] at hlen ⊢
   exact⟨fun _=>⟨rfl,rfl⟩,hlen,fun w' _ ad e=>by cases e⟩
 | mk hl hu hnc hc hb hcell hd=>
   refine⟨fun e=>(by cases e),hlen,fun w' hbw ad e j u hj=> ?_⟩
   cases e
   have hdj:ds[j]?= some (Dt.leaf u):=by rw[←hys,List.getElem?_map,hj];rfl
   have hjl:=(ξl hdj).1
   rename_i us
   have huj:us[j]?= some us[j]:=ξg (by omega)
   have:=(hd j _ _ hdj huj).leaf_inv
   have hc2:=hcell j _ huj
   rw[this] at hc2
   rw[addr_add]
   exact(hbw.cell (p:=⟨_,_,none⟩) hb).trans hc2
theorem odt_of_row {w:World} {base m n:Nat} {T:TypeId} {v:Value} {us:List Value} (h:w.ownsRow base T m v n us):∃fp,Odt w (.rows m (us.map Dt.leaf)) v fp∧fp.Nodup∧ ∀k∈fp,base≤k∧k<w.heap.size∧v.ownBlock=some k:=by
 have ho:=Ofr.of_row h
 obtain⟨fp,h1,h2,h3⟩:=ho
 refine⟨fp,h1,h2,fun k hk=>⟨h3 k hk,h1.lt k hk,?_⟩⟩
 generalize hys:us.map Dt.leaf=ds at *
 cases h1 with
 | nil=>cases hk
 | mk hl hu hf hn hc hg hcs ht hd=>
   rename_i us2 fs cur T2
   rcases List.mem_cons.1 hk with rfl | hk
   · rfl
   · obtain⟨f,hf1,hf2⟩:=List.mem_flatten.1 hk
     obtain⟨j,hj,e⟩:=List.getElem_of_mem hf1
     have hjd:j<ds.length:=by omega
     have hj2:ds[j]?= some ds[j]:=ξg hjd
     have hj3:us2[j]?= some us2[j]:=ξg (by omega)
     have:=hd j _ _ f hj2 hj3 (by rw[ξg hj,e])
     have hje:ds[j]?= (us.map Dt.leaf)[j]?:=by rw[hys]
     rw[List.getElem?_map,hj2] at hje
     obtain⟨u,-,hu2⟩:=Option.map_eq_some_iff.1 hje.symm
     rw[←hu2] at this
     rw[this.leaf_inv.2] at hf2
     cases hf2
theorem flt_of_row' {α:Type} {enc:α→List Value} {w:World} {base m n:Nat} {T:TypeId} {v:Value} {zs:List α} (h:w.ownsRow base T m v n ([]++zs.flatMap enc)):∃fp,Odt w (flt m enc zs) v fp∧fp.Nodup∧ ∀k∈fp,base≤k∧k<w.heap.size∧v.ownBlock=some k:=by
 have:=odt_of_row h
 rw[List.nil_append,List.map_flatMap] at this
 exact this
def CpyP (n:Net) (w:World) (e:Ending) (w':World):Prop:=∃v fp,e= .returned v∧NetO w' n v fp∧fp.Nodup∧(∀k∈fp,w.heap.size≤k∧k<w'.heap.size)∧Below w.heap.size w w'
theorem CpyP.of {w w2 w10:World} {n:Net} {v5 v10:Value} (hb0:Below w.heap.size w w2) (hz:w2.heap.size=w.heap.size+2) (hb:Below w2.heap.size w2 w10)
 (h1:∃fp,Odt w10 (flt 1 strE n.ns) v5 fp∧fp.Nodup∧ ∀k∈fp,w2.heap.size≤k∧k<w10.heap.size∧v5.ownBlock=some k) (h2:∃fp,Odt w10 (flt 4 fibE n.fs) v10 fp∧fp.Nodup∧ ∀k∈fp,w2.heap.size≤k∧k<w10.heap.size∧v10.ownBlock=some k) (ha:Apt v5 v10):
 CpyP n w (.returned (.agg #[v5,v10])) ((w10.setCell ⟨w.heap.size+1,0,none⟩ v5).setCell ⟨w.heap.size+1,1,none⟩ v10):=by
 obtain⟨f1,a1,a2,a3⟩:=h1
 obtain⟨f2,b1,b2,b3⟩:=h2
 have hk:∀g,w2.heap.size≤g→((w10.setCell ⟨w.heap.size+1,0,none⟩ v5).setCell ⟨w.heap.size+1,1,none⟩ v10).heap[g]?= w10.heap[g]?:=fun g hg=>by
  rw[heap_setCell_other _ _ _ _ (show g≠w.heap.size+1 by omega),heap_setCell_other _ _ _ _ (show g≠w.heap.size+1 by omega)]
 refine⟨_,f1++f2,rfl,⟨v5,v10,f1,f2,rfl,a1.kept fun k hk2=>hk k (a3 k hk2).1,b1.kept fun k hk2=>hk k (b3 k hk2).1,rfl⟩,List.nodup_append.2 ⟨a2,b2,fun x hx y hy e=> ?_⟩,fun k hk2=> ?_,((hb0.trans (hb.mono hb0.size)).setCell (p:=⟨w.heap.size+1,0,none⟩) (Nat.le_succ _) v5).setCell (p:=⟨w.heap.size+1,1,none⟩) (Nat.le_succ _) v10⟩
 · subst e
   exact ha x (a3 x hx).2.2 (b3 x hy).2.2
 · have hs:((w10.setCell ⟨w.heap.size+1,0,none⟩ v5).setCell ⟨w.heap.size+1,1,none⟩ v10).heap.size=w10.heap.size:=by simp
   rw[hs]
   rcases List.mem_append.1 hk2 with h | h
   · have:=a3 k h;omega
   · have:=b3 k h;omega
theorem copyNetwork_any (u1 u2:Value) (n:Net) (w:World) (h:NetR w (.agg #[u1,u2]) n) (h1:n.ns.length≤1048576) (h2:n.fs.length≤1048576):
 Calls Tryz.prog 162 #[.agg #[u1,u2]] w (CpyP n w):=by
 obtain⟨x1,x2,e,r1,r2,hsm⟩:=h
 simp only[Value.agg.injEq,Array.mk.injEq,List.cons.injEq,and_true] at e
 obtain⟨rfl,rfl⟩:=e
 obtain⟨a1,m1,c1,rfl,HN1,-,hm1,-⟩:=flt_opn (m:=1) (enc:=strE) (fun _=>rfl) (by omega) nilS r1
 obtain⟨a2,m2,c2,rfl,HN2,-,hm2,-⟩:=flt_opn (m:=4) (enc:=fibE) (fun _=>rfl) (by omega) nilB r2
 have HS1:=ξh (src_flt (enc:=strE) (m:=1) (fun _=>rfl) (by omega) r1 HN1.out)
 have HS2:=ξh (src_flt (enc:=fibE) (m:=4) (fun _=>rfl) (by omega) r2 HN2.out)
 have hl1:m1≤1048576:=by have:=HN1.out;omega
 have hl2:m2≤1048576:=by have:=HN2.out;omega
 have HD1:=ξh (show∀w' b v,w'.ownsRow b 9 1 v (0+m1) ([]++n.ns.flatMap strE)→ ∃fp,Odt w' (flt 1 strE n.ns) v fp∧fp.Nodup∧ ∀k∈fp,b≤k∧k<w'.heap.size∧v.ownBlock=some k from fun w' b v hh=>flt_of_row' hh)
 have HD2:=ξh (show∀w' b v,w'.ownsRow b 146 4 v (0+m2) ([]++n.fs.flatMap fibE)→ ∃fp,Odt w' (flt 4 fibE n.fs) v fp∧fp.Nodup∧ ∀k∈fp,b≤k∧k<w'.heap.size∧v.ownBlock=some k from fun w' b v hh=>flt_of_row' hh)
 have HE1:=ξh (show∀u∈n.ns.flatMap strE,u.oneCell'=true from fun u hu=>by
  obtain⟨s,-,hs⟩:=List.mem_flatMap.1 hu
  simp only[strE,List.mem_singleton] at hs
  subst hs;rfl)
 have HE2:=ξh (show∀u∈n.fs.flatMap fibE,u.oneCell'=true from fun u hu=>fbs_one u hu)
 obtain⟨NP,hNP⟩:∃NP,NP=CpyP n w:=⟨_,rfl⟩
 rw[←hNP]
 have HNP:=ξh hNP
 have b1:=(ξb w.heap.size w).alloc (ξr _) (.cells #[.slice a1 m1 c1,.slice a2 m2 c2] 35)
 have b2:=b1.alloc b1.size (.cells #[.slice none 0 0,.slice none 0 0] 35)
 have HB2:=ξh b2
 have HX1:=ξh (show((w.alloc (.cells #[.slice a1 m1 c1,.slice a2 m2 c2] 35)).alloc (.cells #[.slice none 0 0,.slice none 0 0] 35)).heap[w.heap.size]?= some (.cells #[.slice a1 m1 c1,.slice a2 m2 c2] 35 (0,0)) from(heap_alloc_old _ _ (by simp)).trans (ξn w _))
 have HX2:=ξh (show((w.alloc (.cells #[.slice a1 m1 c1,.slice a2 m2 c2] 35)).alloc (.cells #[.slice none 0 0,.slice none 0 0] 35)).heap[w.heap.size+1]?= some (.cells #[.slice none 0 0,.slice none 0 0] 35 (0,0)) from by have:=ξn (w.alloc (.cells #[.slice a1 m1 c1,.slice a2 m2 c2] 35)) (.cells #[.slice none 0 0,.slice none 0 0] 35);simpa using this)
 have HZ2:=ξh (show((w.alloc (.cells #[.slice a1 m1 c1,.slice a2 m2 c2] 35)).alloc (.cells #[.slice none 0 0,.slice none 0 0] 35)).heap.size=w.heap.size+2 by simp)
 generalize n.ns.flatMap strE=ys1 at *
 generalize n.fs.flatMap fibE=ys2 at *
 clear b1 b2 r1 r2 hsm h1 h2 hNP
 go_enter Tryz.func162,Tryz.ntmps162
 go_upto_region 1 with fail
 generalize ((w.alloc (.cells #[.slice a1 m1 c1,.slice a2 m2 c2] 35)).alloc (.cells #[.slice none 0 0,.slice none 0 0] 35))=w2 at *
 have hlt1:w.heap.size<w2.heap.size:=by have:=HZ2.out;omega
 have hlt2:w.heap.size+1<w2.heap.size:=by have:=HZ2.out;omega
 have HS:=ξh (fun(w':World) (hb:Below w2.heap.size w2 w')=>show w'.cell? ⟨w.heap.size,0,none⟩=some (.slice a1 m1 c1)∧w'.cell? ⟨w.heap.size,1,none⟩=some (.slice a2 m2 c2) from
  ⟨(hb.cell (p:=⟨w.heap.size,0,none⟩) hlt1).trans (blkc HX1.out rfl),(hb.cell (p:=⟨w.heap.size,1,none⟩) hlt1).trans (blkc HX1.out rfl)⟩)
 have HC1:=ξh (fun(w':World) (hb:Below w2.heap.size w2 w')=>HS1.out.2.2 w' (HB2.out.trans (hb.mono HB2.out.size)))
 have HC2:=ξh (fun(w':World) (hb:Below w2.heap.size w2 w')=>HS2.out.2.2 w' (HB2.out.trans (hb.mono HB2.out.size)))
 have HN1':=ξh HS1.out.1
 have HN2':=ξh HS2.out.1
 have HL1:=ξh HS1.out.2.1
 have HL2:=ξh HS2.out.2.1
 have HST:=ξh (fun(w':World) (hb:Below w2.heap.size w2 w') (a b:Value)=>show((w'.setCell ⟨w.heap.size+1,0,none⟩ a).setCell ⟨w.heap.size+1,1,none⟩ b).cell? ⟨w.heap.size,0,none⟩=some (.slice a1 m1 c1)∧((w'.setCell ⟨w.heap.size+1,0,none⟩ a).setCell ⟨w.heap.size+1,1,none⟩ b).cell? ⟨w.heap.size,1,none⟩=some (.slice a2 m2 c2) from by
  obtain⟨h1,h2⟩:=HS.out w' hb
  refine⟨?_,?_⟩
  · rw[World.cell?_setCell_other _ _ _ _ (by simp),World.cell?_setCell_other _ _ _ _ (by simp)];exact h1
  · rw[World.cell?_setCell_other _ _ _ _ (by simp),World.cell?_setCell_other _ _ _ _ (by simp)];exact h2)
 have hb0:=(ξb w2.heap.size w2).drew
 go_region_held3 (fun w'=>w'.cell? ⟨w.heap.size,0,none⟩=some (.slice a1 m1 c1)∧w'.cell? ⟨w.heap.size,1,none⟩=some (.slice a2 m2 c2))
  (first | exact HS.out _ hb0 | exact HS.out _ bel1 | exact HS.out _ bel2 | exact HS.out _ B10 | exact HS.out _ B5 | exact HS.out _ (B5.alloc B5.size _) | exact HST.out _ B10 _ _)
  (first
    | ((refine step_of_list rfl ?_);(with_reducible show wpList _ _ _ (⟨some 6,_,_,_,_,_⟩::_) _ _);(go_loud (refine wpList_catG rfl (.tmp 3) (.tmp 5) 22 9 rfl Tryz.underlying22 (.string ⟨#[]⟩) 1 16 Tryz.infoStrD rfl (by decide) w2.heap.size (.slice (some ⟨_,0,none⟩) 0 0) 0 [] (by rfl) (by first | exact row_made1 | exact row_made2 | exact row_made3) a1 m1 c1 ys1 (by rfl) HL1.out HN1'.out (HC1.out _ (by first | exact bel1 | exact bel2)) HE1.out (by unfold maxLen;omega) (by omega) (by first | exact bel1.size | exact bel2.size) ?_));(intro v5 w5 o5 g5 l5);(obtain⟨e5,f5,rfl⟩:=row_form0 o5);(have B5:Below w2.heap.size w2 w5:=Below.grown (by first | exact bel1 | exact bel2) g5 (by first | exact bel1.size | exact bel2.size) (fun q hq=>(by have hq2:=ξo hq;rw[←hq2];first | exact ξr _ | exact Nat.le_succ _)));(have NN5:=fun c h1 h2=>g5.block c h1 h2);(unfold wpList);(refine⟨rfl,?_⟩))
    | ((refine step_of_list rfl ?_);(with_reducible show wpList _ _ _ (⟨some 10,_,_,_,_,_⟩::_) _ _);(go_loud (refine wpList_catG rfl (.tmp 7) (.tmp 9) 33 146 rfl Tryz.underlying33 (.agg #[.int .i64 0,.int .i64 0,.int .i64 0,.int .i64 0]) 4 32 Tryz.infoFib rfl (by decide) w2.heap.size (.slice (some ⟨_,0,none⟩) 0 0) 0 [] (by rfl) (by first | exact World.ownsRow_made (base:=w2.heap.size) w5 #[] 0 B5.size (Nat.zero_le _) (by simp) | exact mk_kept3 g5 | exact mk_kept2 g5) a2 m2 c2 ys2 (by rfl) HL2.out HN2'.out (HC2.out _ (by first | exact B5 | exact B5.alloc B5.size _)) HE2.out (by unfold maxLen;omega) (by omega) (by first | exact B5.size | exact size_alloc B5.size) ?_));(intro v10 w10 o10 g10 l10);(obtain⟨e10,f10,rfl⟩:=row_form0 o10);(have B10:Below w2.heap.size w2 w10:=Below.grown (by first | exact B5 | exact B5.alloc B5.size _) g10 (by first | exact B5.size | exact size_alloc B5.size) (fun q hq=>(by have hq2:=ξo hq;rw[←hq2];first | exact ξr _ | exact Nat.le_succ _ | exact B5.size)));(have x10:=kept_o' HX2.out B10);(have z0:=blkc x10 (show _=some (Value.slice none 0 0) from rfl) (j:=0));(have z1:=blkc x10 (show _=some (Value.slice none 0 0) from rfl) (j:=1));(have f0:w10.frozen? ⟨w.heap.size+1,0,none⟩=false:=(by simp only[World.frozen?,x10];rfl));(have f1:w10.frozen? ⟨w.heap.size+1,1,none⟩=false:=(by simp only[World.frozen?,x10];rfl));(unfold wpList);(refine⟨rfl,?_⟩)))
 all_goals
  have H:=two_rows o5 (by first | exact ξb _ _ | exact(ξb _ _).alloc (ξr _) _) g10 l10 l5 (by first | exact .inr (ξr _) | (left;constructor <;> simp <;> omega) | (left;constructor <;> simp))
  have HH:=ξh (CpyP.of (n:=n) HB2.out HZ2.out B10 (HD1.out _ _ _ H.1) (HD2.out _ _ _ o10) H.2)
  clear H o5 o10 g5 g10 l5 l10 B5 B10 NN5
  go_wp2_with fail
  rw[HNP.out]
  exact bodyPost_ret (v:= .agg #[.slice e5 (0+m1) f5,.slice e10 (0+m2) f10]) (by simp[results,Tryz.results162,go_sem,z0,z1]) rfl (by simpa using HH.out)
theorem l2Own_any (u1 u2:Value) (n:Net) (w:World) (h:NetR w (.agg #[u1,u2]) n) (h1:n.ns.length≤1048576) (h2:n.fs.length≤1048576):
 Calls Tryz.prog 102 #[.agg #[u1,u2]] w (CpyP n w):=by
 obtain⟨x1,x2,e,r1,r2,hsm⟩:=h
 simp only[Value.agg.injEq,Array.mk.injEq,List.cons.injEq,and_true] at e
 obtain⟨rfl,rfl⟩:=e
 obtain⟨a1,m1,c1,rfl,HN1,-,hm1,-⟩:=flt_opn (m:=1) (enc:=strE) (fun _=>rfl) (by omega) nilS r1
 obtain⟨a2,m2,c2,rfl,HN2,-,hm2,-⟩:=flt_opn (m:=4) (enc:=fibE) (fun _=>rfl) (by omega) nilB r2
 have HS1:=ξh (src_flt (enc:=strE) (m:=1) (fun _=>rfl) (by omega) r1 HN1.out)
 have HS2:=ξh (src_flt (enc:=fibE) (m:=4) (fun _=>rfl) (by omega) r2 HN2.out)
 have hl1:m1≤1048576:=by have:=HN1.out;omega
 have hl2:m2≤1048576:=by have:=HN2.out;omega
 have HD1:=ξh (show∀w' b v,w'.ownsRow b 9 1 v (0+m1) ([]++n.ns.flatMap strE)→ ∃fp,Odt w' (flt 1 strE n.ns) v fp∧fp.Nodup∧ ∀k∈fp,b≤k∧k<w'.heap.size∧v.ownBlock=some k from fun w' b v hh=>flt_of_row' hh)
 have HD2:=ξh (show∀w' b v,w'.ownsRow b 146 4 v (0+m2) ([]++n.fs.flatMap fibE)→ ∃fp,Odt w' (flt 4 fibE n.fs) v fp∧fp.Nodup∧ ∀k∈fp,b≤k∧k<w'.heap.size∧v.ownBlock=some k from fun w' b v hh=>flt_of_row' hh)
 have HE1:=ξh (show∀u∈n.ns.flatMap strE,u.oneCell'=true from fun u hu=>by
  obtain⟨s,-,hs⟩:=List.mem_flatMap.1 hu
  simp only[strE,List.mem_singleton] at hs
  subst hs;rfl)
 have HE2:=ξh (show∀u∈n.fs.flatMap fibE,u.oneCell'=true from fun u hu=>fbs_one u hu)
 obtain⟨NP,hNP⟩:∃NP,NP=CpyP n w:=⟨_,rfl⟩
 rw[←hNP]
 have HNP:=ξh hNP
 have b1:=(ξb w.heap.size w).alloc (ξr _) (.cells #[.slice a1 m1 c1,.slice a2 m2 c2] 35)
 have b2:=b1.alloc b1.size (.cells #[.slice none 0 0,.slice none 0 0] 35)
 have HB2:=ξh b2
 have HX1:=ξh (show((w.alloc (.cells #[.slice a1 m1 c1,.slice a2 m2 c2] 35)).alloc (.cells #[.slice none 0 0,.slice none 0 0] 35)).heap[w.heap.size]?= some (.cells #[.slice a1 m1 c1,.slice a2 m2 c2] 35 (0,0)) from(heap_alloc_old _ _ (by simp)).trans (ξn w _))
 have HX2:=ξh (show((w.alloc (.cells #[.slice a1 m1 c1,.slice a2 m2 c2] 35)).alloc (.cells #[.slice none 0 0,.slice none 0 0] 35)).heap[w.heap.size+1]?= some (.cells #[.slice none 0 0,.slice none 0 0] 35 (0,0)) from by have:=ξn (w.alloc (.cells #[.slice a1 m1 c1,.slice a2 m2 c2] 35)) (.cells #[.slice none 0 0,.slice none 0 0] 35);simpa using this)
 have HZ2:=ξh (show((w.alloc (.cells #[.slice a1 m1 c1,.slice a2 m2 c2] 35)).alloc (.cells #[.slice none 0 0,.slice none 0 0] 35)).heap.size=w.heap.size+2 by simp)
 generalize n.ns.flatMap strE=ys1 at *
 generalize n.fs.flatMap fibE=ys2 at *
 clear b1 b2 r1 r2 hsm h1 h2 hNP
 go_enter Tryz.func102,Tryz.ntmps102
 go_upto_region 1 with fail
 generalize ((w.alloc (.cells #[.slice a1 m1 c1,.slice a2 m2 c2] 35)).alloc (.cells #[.slice none 0 0,.slice none 0 0] 35))=w2 at *
 have hlt1:w.heap.size<w2.heap.size:=by have:=HZ2.out;omega
 have hlt2:w.heap.size+1<w2.heap.size:=by have:=HZ2.out;omega
 have HS:=ξh (fun(w':World) (hb:Below w2.heap.size w2 w')=>show w'.cell? ⟨w.heap.size,0,none⟩=some (.slice a1 m1 c1)∧w'.cell? ⟨w.heap.size,1,none⟩=some (.slice a2 m2 c2) from
  ⟨(hb.cell (p:=⟨w.heap.size,0,none⟩) hlt1).trans (blkc HX1.out rfl),(hb.cell (p:=⟨w.heap.size,1,none⟩) hlt1).trans (blkc HX1.out rfl)⟩)
 have HC1:=ξh (fun(w':World) (hb:Below w2.heap.size w2 w')=>HS1.out.2.2 w' (HB2.out.trans (hb.mono HB2.out.size)))
 have HC2:=ξh (fun(w':World) (hb:Below w2.heap.size w2 w')=>HS2.out.2.2 w' (HB2.out.trans (hb.mono HB2.out.size)))
 have HN1':=ξh HS1.out.1
 have HN2':=ξh HS2.out.1
 have HL1:=ξh HS1.out.2.1
 have HL2:=ξh HS2.out.2.1
 have HST:=ξh (fun(w':World) (hb:Below w2.heap.size w2 w') (a b:Value)=>show((w'.setCell ⟨w.heap.size+1,0,none⟩ a).setCell ⟨w.heap.size+1,1,none⟩ b).cell? ⟨w.heap.size,0,none⟩=some (.slice a1 m1 c1)∧((w'.setCell ⟨w.heap.size+1,0,none⟩ a).setCell ⟨w.heap.size+1,1,none⟩ b).cell? ⟨w.heap.size,1,none⟩=some (.slice a2 m2 c2) from by
  obtain⟨h1,h2⟩:=HS.out w' hb
  refine⟨?_,?_⟩
  · rw[World.cell?_setCell_other _ _ _ _ (by simp),World.cell?_setCell_other _ _ _ _ (by simp)];exact h1
  · rw[World.cell?_setCell_other _ _ _ _ (by simp),World.cell?_setCell_other _ _ _ _ (by simp)];exact h2)
 have hb0:=(ξb w2.heap.size w2).drew
 go_region_held3 (fun w'=>w'.cell? ⟨w.heap.size,0,none⟩=some (.slice a1 m1 c1)∧w'.cell? ⟨w.heap.size,1,none⟩=some (.slice a2 m2 c2))
  (first | exact HS.out _ hb0 | exact HS.out _ bel1 | exact HS.out _ bel2 | exact HS.out _ B10 | exact HS.out _ B5 | exact HS.out _ (B5.alloc B5.size _) | exact HST.out _ B10 _ _)
  (first
    | ((refine step_of_list rfl ?_);(with_reducible show wpList _ _ _ (⟨some 6,_,_,_,_,_⟩::_) _ _);(go_loud (refine wpList_catG rfl (.tmp 3) (.tmp 5) 22 9 rfl Tryz.underlying22 (.string ⟨#[]⟩) 1 16 Tryz.infoStrD rfl (by decide) w2.heap.size (.slice (some ⟨_,0,none⟩) 0 0) 0 [] (by rfl) (by first | exact row_made1 | exact row_made2 | exact row_made3) a1 m1 c1 ys1 (by rfl) HL1.out HN1'.out (HC1.out _ (by first | exact bel1 | exact bel2)) HE1.out (by unfold maxLen;omega) (by omega) (by first | exact bel1.size | exact bel2.size) ?_));(intro v5 w5 o5 g5 l5);(obtain⟨e5,f5,rfl⟩:=row_form0 o5);(have B5:Below w2.heap.size w2 w5:=Below.grown (by first | exact bel1 | exact bel2) g5 (by first | exact bel1.size | exact bel2.size) (fun q hq=>(by have hq2:=ξo hq;rw[←hq2];first | exact ξr _ | exact Nat.le_succ _)));(have NN5:=fun c h1 h2=>g5.block c h1 h2);(unfold wpList);(refine⟨rfl,?_⟩))
    | ((refine step_of_list rfl ?_);(with_reducible show wpList _ _ _ (⟨some 10,_,_,_,_,_⟩::_) _ _);(go_loud (refine wpList_catG rfl (.tmp 7) (.tmp 9) 33 146 rfl Tryz.underlying33 (.agg #[.int .i64 0,.int .i64 0,.int .i64 0,.int .i64 0]) 4 32 Tryz.infoFib rfl (by decide) w2.heap.size (.slice (some ⟨_,0,none⟩) 0 0) 0 [] (by rfl) (by first | exact World.ownsRow_made (base:=w2.heap.size) w5 #[] 0 B5.size (Nat.zero_le _) (by simp) | exact mk_kept3 g5 | exact mk_kept2 g5) a2 m2 c2 ys2 (by rfl) HL2.out HN2'.out (HC2.out _ (by first | exact B5 | exact B5.alloc B5.size _)) HE2.out (by unfold maxLen;omega) (by omega) (by first | exact B5.size | exact size_alloc B5.size) ?_));(intro v10 w10 o10 g10 l10);(obtain⟨e10,f10,rfl⟩:=row_form0 o10);(have B10:Below w2.heap.size w2 w10:=Below.grown (by first | exact B5 | exact B5.alloc B5.size _) g10 (by first | exact B5.size | exact size_alloc B5.size) (fun q hq=>(by have hq2:=ξo hq;rw[←hq2];first | exact ξr _ | exact Nat.le_succ _ | exact B5.size)));(have x10:=kept_o' HX2.out B10);(have z0:=blkc x10 (show _=some (Value.slice none 0 0) from rfl) (j:=0));(have z1:=blkc x10 (show _=some (Value.slice none 0 0) from rfl) (j:=1));(have f0:w10.frozen? ⟨w.heap.size+1,0,none⟩=false:=(by simp only[World.frozen?,x10];rfl));(have f1:w10.frozen? ⟨w.heap.size+1,1,none⟩=false:=(by simp only[World.frozen?,x10];rfl));(unfold wpList);(refine⟨rfl,?_⟩)))
 all_goals
  have H:=two_rows o5 (by first | exact ξb _ _ | exact(ξb _ _).alloc (ξr _) _) g10 l10 l5 (by first | exact .inr (ξr _) | (left;constructor <;> simp <;> omega) | (left;constructor <;> simp))
  have HH:=ξh (CpyP.of (n:=n) HB2.out HZ2.out B10 (HD1.out _ _ _ H.1) (HD2.out _ _ _ o10) H.2)
  clear H o5 o10 g5 g10 l5 l10 B5 B10 NN5
  go_wp2_with fail
  rw[HNP.out]
  exact bodyPost_ret (v:= .agg #[.slice e5 (0+m1) f5,.slice e10 (0+m2) f10]) (by simp[results,Tryz.results102,go_sem,z0,z1]) rfl (by simpa using HH.out)
open Go.RowKit
theorem eqIntS_any (va vb:Value) (xs ys:List Int) (w:World) (ha:Rd w va xs) (hb:Rd w vb ys):
 Calls Tryz.prog 33 #[va,vb] w fun e w'=>e= .returned (.bool (eqL xs ys))∧Dr w w':=by
 obtain⟨a,capa,n,HX,rfl,_,hla,ha⟩:=ha.opn
 obtain⟨b,capb,m,HY,rfl,_,hlb,hb⟩:=hb.opn
 by_cases hn:n=m
 · subst hn
   have hne:((n:Int) != (n:Int))=false:=by simp
   have HR:=ξh (show xs=ys→eqL xs ys=true from eqL_of)
   have HN:=ξh (show xs≠ys→eqL xs ys=false from fun h=>by simp[eqL,h])
   generalize eqL xs ys=r at *
   go_enter Tryz.func33,Tryz.ntmps33
   go_wp2
   go_loopw [5] (fun i wr=>∃k:Nat,k≤n∧i= .int .i64 k∧Hid (xs.take k=ys.take k)∧Dr w wr) (fun i _=>n-(intOf i).toNat)
   case atStart=>exact⟨0,by omega,rfl,by simp[Hid],Dr.refl _⟩
   case round=>
    obtain⟨k,hk,rfl,HT,m,rfl⟩:=hrel
    by_cases hlt:k<n
    · obtain⟨b1,o1,rfl,hs1,hc1⟩:=ha (by omega)
      obtain⟨b2,o2,rfl,hs2,hc2⟩:=hb (by omega)
      have c1:=hc1 k hlt
      have c2:=hc2 k hlt
      clear hc1 hc2
      by_cases he:(xs[k]?.getD 0)=(ys[k]?.getD 0)
      · have hne2:((xs[k]?.getD 0) != (ys[k]?.getD 0))=false:=by simpa using he
        have HE:=ξh he
        clear he
        go_wp2
        go_quiet (fail)
        go_wp2
        go_roundw
        case rel=>exact⟨k+1,by omega,by go_num,take_eq_step (by rw[HX.out];exact hlt) (by rw[HY.out];exact hlt) HT.out HE.out,⟨_,rfl⟩⟩
        case measure=>simp[intOf];omega
      · have hne2:((xs[k]?.getD 0) != (ys[k]?.getD 0))=true:=by simpa using he
        have HE:=ξh he
        clear he
        go_wp2
        go_quiet (fail)
        go_wp2
        go_ret
        exact⟨by rw[HN.out (fun h=>HE.out (by rw[h]))];rfl,Dr.drewN ⟨_,rfl⟩ _⟩
    · obtain rfl:k=n:=by omega
      go_wp2
      go_ret
      have hh:=HT.out
      rw[←HX.out,List.take_length,HX.out,←HY.out,List.take_length] at hh
      exact⟨by rw[HR.out hh];rfl,⟨_,rfl⟩⟩
 · have hne:((n:Int) != (m:Int))=true:=by rw[bne_iff_ne];omega
   have he:eqL xs ys=false:=by simp only[eqL,decide_eq_false_iff_not];exact fun h=>hn (by rw[←HX.out,←HY.out,h])
   have HE:=ξh he
   clear he
   go_enter Tryz.func33,Tryz.ntmps33
   go_wp2
   go_ret
   exact⟨by rw[HE.out];rfl,Dr.refl _⟩
theorem mark_step (xs:List Int) (q:Int) (k:Nat) (hk:k<xs.length):(cnt q k++xs.drop k).set k (q+k)=cnt q (k+1)++xs.drop (k+1):=by
 have hl:(cnt q k).length=k:=cnt_len _ _
 rw[List.set_append_right _ _ (by omega),hl,Nat.sub_self]
 have:xs.drop k=xs[k]::xs.drop (k+1):=List.drop_eq_getElem_cons hk
 rw[this,List.set_cons_zero]
 simp[cnt,List.range_succ]
theorem markIntS_any (v:Value) (xs:List Int) (q:Int) (base:Nat) (w:World) (h:Own w base v xs) (hq:0≤q) (hq2:q+xs.length≤4611686018427387904):
 Calls Tryz.prog 37 #[v,.int .i64 q] w fun e w'=>e= .returned (.int .i64 (q+xs.length))∧Own w' base v (cnt q xs.length)∧w.grownBy w' v.ownBlock:=by
 obtain⟨a,cap,n,HX,hv,_,hla,ha⟩:=h.rd.opn
 have hx:xs.length=n:=HX.out
 rw[hx] at hq2
 rw[hx]
 have hown:Own w base v (cnt q 0++xs.drop 0):=by simpa[cnt] using h
 have hgr:w.grownBy w v.ownBlock:=World.grownBy.refl _ _
 subst hv
 clear hx h
 go_enter Tryz.func37,Tryz.ntmps37
 go_wp2
 go_loopw [1,5] (fun x i wr=>∃k:Nat,k≤n∧i= .int .i64 k∧x= .int .i64 (q+k)∧Own wr base (.slice a n cap) (cnt q k++xs.drop k)∧w.grownBy wr (Value.slice a n cap).ownBlock) (fun _ i _=>n-(intOf i).toNat)
 case atStart=>exact⟨0,by omega,rfl,by simp,hown,hgr⟩
 case round=>
  obtain⟨k,hk,rfl,rfl,hown,hgr⟩:=hrel
  by_cases hlt:k<n
  · obtain⟨b,off,rfl,_,hc⟩:=ha (by omega)
    have hlen:(cnt q k++xs.drop k).length=n:=by have:=HX.out;simp[cnt_len];omega
    have hcell:=(hown.cellAt rfl).2 k (by omega)
    have hfr:=hown.frozenAt rfl (off+k)
    have hst:=hown.stored rfl k (by omega) (q+k)
    rw[mark_step xs q k (by rw[HX.out];exact hlt)] at hst
    have HS:=ξh hst
    have HG:=ξh hgr
    clear hst hown hlen hgr
    go_wp2
    go_roundw
    case rel=>exact⟨k+1,by omega,by go_num,int_eq (by omega),HS.out.1,HG.out.trans' HS.out.2⟩
    case measure=>simp[intOf];omega
  · obtain rfl:k=n:=by omega
    go_wp2
    go_ret
    exact⟨rfl,by have e:=HX.out;rw[List.drop_of_length_le (by omega),List.append_nil] at hown;exact hown,hgr⟩
theorem heldIntS_yes (v:Value) (q:Int) (n:Nat) (w:World) (h:Rd w v (cnt q n)) (hq:0≤q) (hq2:q+n≤4611686018427387904):
 Calls Tryz.prog 38 #[v,.int .i64 q] w fun e w'=>e= .returned (.int .i64 (q+n))∧Dr w w':=by
 obtain⟨a,cap,n',HX,hv,_,hla,ha⟩:=h.opn
 have hx:n=n':=by rw[←HX.out,cnt_len]
 subst hx
 subst hv
 go_enter Tryz.func38,Tryz.ntmps38
 go_wp2
 go_loopw [1,5] (fun x i wr=>∃k:Nat,k≤n∧i= .int .i64 k∧x= .int .i64 (q+k)∧Dr w wr) (fun _ i _=>n-(intOf i).toNat)
 case atStart=>exact⟨0,by omega,rfl,by simp,Dr.refl _⟩
 case round=>
  obtain⟨k,hk,rfl,rfl,m,rfl⟩:=hrel
  by_cases hlt:k<n
  · obtain⟨b,off,rfl,_,hc⟩:=ha (by omega)
    have hcell:=hc k hlt
    have hcc:=cnt_getD q n k hlt
    rw[hcc] at hcell
    clear hc hcc
    have hne:((q+k:Int) != (q+k:Int))=false:=by simp
    go_wp2
    go_roundw
    case rel=>exact⟨k+1,by omega,by go_num,int_eq (by omega),⟨_,rfl⟩⟩
    case measure=>simp[intOf];omega
  · obtain rfl:k=n:=by omega
    go_wp2
    go_ret
    exact⟨rfl,⟨_,rfl⟩⟩
theorem Own.odt {w:World} {base:Nat} {v:Value} {xs:List Int} (h:Own w base v xs):Odt w (inD xs) v v.ownBlock.toList:=by
 obtain⟨fp,h1,h2,h3⟩:=h.tree
 have:fp=v.ownBlock.toList:=by
  unfold inD at h1
  generalize hD:(xs.map fun x=>Dt.leaf (.int .i64 x))=ds at h1
  cases h1 with
  | nil size=>rfl
  | @mk size n g off cap ds us fs cur T hl hu hf hn hc hg hcs ht hd=>
    have:fs.flatten=[]:=by
     rw[List.flatten_eq_nil_iff]
     intro f hf'
     obtain⟨j,hj,rfl⟩:=List.mem_iff_getElem.1 hf'
     have hjd:j<ds.length:=by omega
     have h1:=hd j ds[j] us[j] fs[j] (ξg hjd) (ξg (by omega)) (ξg hj)
     have hx:j<xs.length:=by rw[←hD] at hjd;simpa using hjd
     have e:ds[j]= .leaf (.int .i64 xs[j]):=by simp[←hD]
     rw[e] at h1
     exact h1.leaf_inv.2
    rw[this];rfl
 rw[←this];exact h1
theorem inD_fp {w:World} {v:Value} {xs:List Int} {f:List Nat} (h:Odt w (inD xs) v f):f=v.ownBlock.toList:=by
 unfold inD at h
 generalize hD:(xs.map fun x=>Dt.leaf (.int .i64 x))=ds at h
 cases h with
 | nil size=>rfl
 | @mk size n g off cap ds us fs cur T hl hu hf hn hc hg hcs ht hd=>
   have:fs.flatten=[]:=by
    rw[List.flatten_eq_nil_iff]
    intro f hf'
    obtain⟨j,hj,rfl⟩:=List.mem_iff_getElem.1 hf'
    have hjd:j<ds.length:=by omega
    have h1:=hd j ds[j] us[j] fs[j] (ξg hjd) (ξg (by omega)) (ξg hj)
    have hx:j<xs.length:=by rw[←hD] at hjd;simpa using hjd
    have e:ds[j]= .leaf (.int .i64 xs[j]):=by simp[←hD]
    rw[e] at h1
    exact h1.leaf_inv.2
   rw[this];rfl
theorem eqIntS_same (va vb:Value) (xs:List Int) (w:World) (ha:Rd w va xs) (hb:Rd w vb xs):
 Calls Tryz.prog 33 #[va,vb] w fun e w'=>e= .returned (.bool true)∧Below w.heap.size w w':=by
 refine(eqIntS_any va vb xs xs w ha hb).mono ?_
 rintro e w' ⟨rfl,n,rfl⟩
 rw[eqL_refl]
 exact⟨rfl,⟨rfl,rfl,rfl,ξr _,fun _ _=>rfl⟩⟩
theorem markIntS_odt (v:Value) (xs:List Int) (f:List Nat) (q:Int) (w:World) (h:Odt w (inD xs) v f) (hq:0≤q) (hq2:q+xs.length≤4611686018427387904):
 Calls Tryz.prog 37 #[v,.int .i64 q] w fun e w'=>e= .returned (.int .i64 (q+xs.length))∧Odt w' (inD (cnt q xs.length)) v f∧Wr w w' f:=by
 have ho:=(h.toOwn (base:=0) (fun _ _=>Nat.zero_le _)).1
 have hf:=inD_fp h
 refine(markIntS_any v xs q 0 w ho hq hq2).mono ?_
 rintro e w' ⟨rfl,o,g⟩
 have hd:=o.odt
 rw[←hf] at hd
 exact⟨rfl,hd,Wr.of_grown g (fun k hk=>by rw[hf,hk];simp)⟩
variable {α : Type}
theorem rws_set1 {en:α→List Dt} {m:Nat} (hm:∀z,(en z).length=m) (hm0:0<m) {zs:List α} {x y:α} {k r:Nat} {d:Dt} (hx:zs[k]?= some x) (hr:r<m) (hy:en y=(en x).set r d):
 (zs.flatMap en).set (k*m+r) d=(zs.set k y).flatMap en:=by
 have hk:k<zs.length:=(ξl hx).1
 have hl:=flat_length hm zs
 have hkm:k*m+r<zs.length*m:=by
  have h1:(k+1)*m≤zs.length*m:=Nat.mul_le_mul_right m hk
  rw[Nat.add_mul,Nat.one_mul] at h1
  omega
 apply List.ext_getElem?
 intro j
 obtain⟨i,s,hs,rfl⟩:∃i s,s<m∧j=i*m+s:=⟨j/m,j%m,Nat.mod_lt _ hm0,by rw[Nat.mul_comm];exact(Nat.div_add_mod j m).symm⟩
 rw[flat_at hm _ _ _ hs,List.getElem?_set]
 by_cases e:k=i
 · subst e
   rw[List.getElem?_set_self hk,Option.bind_some,hy,List.getElem?_set]
   by_cases e2:r=s
   · subst e2
     rw[if_pos rfl,if_pos (by omega),if_pos rfl,if_pos (by rw[hm];exact hr)]
   · rw[if_neg (by omega),if_neg e2,flat_at hm _ _ _ hs,hx];rfl
 · have hne:¬k*m+r=i*m+s:=fun h=>e (by
    have h1:(k*m+r)/m=(i*m+s)/m:=by rw[h]
    rw[Nat.add_comm (k*m),Nat.add_comm (i*m),Nat.add_mul_div_right _ _ hm0,Nat.add_mul_div_right _ _ hm0,Nat.div_eq_of_lt hr,Nat.div_eq_of_lt hs] at h1
    omega)
   rw[if_neg hne,List.getElem?_set_ne e,flat_at hm _ _ _ hs]
theorem rws_cellD {en:α→List Dt} {m:Nat} (hm:∀z,(en z).length=m) {zs:List α} {x:α} {k r:Nat} {d:Dt} (hx:zs[k]?= some x) (hr:r<m) (h0:(en x)[r]?= some d):(zs.flatMap en)[k*m+r]?= some d:=by
 rw[flat_at hm _ _ _ hr,hx];exact h0
theorem Odt.rwsLeaf {en:α→List Dt} {m:Nat} (hm:∀z,(en z).length=m) (hm0:0<m) {w:World} {zs:List α} {a:Option Addr} {n cap:Nat} {fp:List Nat} (h:Odt w (rws m en zs) (.slice a n cap) fp) (hn:fp.Nodup)
 {k:Nat} (r:Nat) (x y:α) (u0 u1:Value) (hx:zs[k]?= some x) (hr:r<m) (h0:(en x)[r]?= some (.leaf u0)) (hy:en y=(en x).set r (.leaf u1)):
 ∃g off,a=some ⟨g,off,none⟩∧w.cell? ⟨g,off+k*m+r,none⟩=some u0∧w.frozen? ⟨g,off+k*m+r,none⟩=false∧
  Odt (w.setCell ⟨g,off+k*m+r,none⟩ u1) (rws m en (zs.set k y)) (.slice a n cap) fp∧Wr w (w.setCell ⟨g,off+k*m+r,none⟩ u1) fp:=by
 obtain⟨g,off,n',cap',e,h1,h2,-,h4,h5⟩:=h.store hn (rws_cellD hm hx hr h0) u1
 simp only[Value.slice.injEq] at e
 obtain⟨rfl,rfl,rfl⟩:=e
 rw[rws_set1 hm hm0 hx hr hy] at h4
 have e:off+(k*m+r)=off+k*m+r:=(Nat.add_assoc _ _ _).symm
 rw[e] at h1 h2 h4 h5
 exact⟨g,off,rfl,h1,h2,h4,h5⟩
theorem Odt.rwsDeep {en:α→List Dt} {m:Nat} (hm:∀z,(en z).length=m) (hm0:0<m) {w:World} {zs:List α} {a:Option Addr} {n cap:Nat} {fp:List Nat} (h:Odt w (rws m en zs) (.slice a n cap) fp) (hn:fp.Nodup)
 {k:Nat} (r:Nat) (x:α) (d:Dt) (hx:zs[k]?= some x) (hr:r<m) (h0:(en x)[r]?= some d):
 ∃g off u f,a=some ⟨g,off,none⟩∧w.cell? ⟨g,off+k*m+r,none⟩=some u∧Odt w d u f∧(∀k∈f,k∈fp)∧f.Nodup∧
  ∀(w':World) (d':Dt) (y:α),Odt w' d' u f→Wr w w' f→en y=(en x).set r d'→Odt w' (rws m en (zs.set k y)) (.slice a n cap) fp:=by
 obtain⟨g,off,n',cap',u,f,e,h1,h2,h3,h4,-,h6⟩:=Odt.deep (show Odt w (.rows m (zs.flatMap en)) _ fp from h) hn (rws_cellD hm hx hr h0)
 simp only[Value.slice.injEq] at e
 obtain⟨rfl,rfl,rfl⟩:=e
 refine⟨g,off,u,f,rfl,by rw[Nat.add_assoc];exact h1,h2,h3,h4,fun w' d' y k1 k2 k3=> ?_⟩
 have:=h6 w' d' k1 k2
 rw[rws_set1 hm hm0 hx hr k3] at this
 exact this
theorem set_get {zs:List α} {k:Nat} {y:α} (h:k<zs.length):(zs.set k y)[k]?= some y:=List.getElem?_set_self h
structure Blk where
 f:Int
 c:Int
def blkV (z:Blk):Value:= .agg #[.int .i64 z.f,.int .i64 z.c]
theorem eqBlock_same (z:Blk) (w:World):
 Calls Tryz.prog 185 #[blkV z,blkV z] w fun e w'=>e= .returned (.bool true)∧Below w.heap.size w w':=by
 have n0:(z.f != z.f)=false:=by simp
 have n1:(z.c != z.c)=false:=by simp
 have HB:=ξh (((ξb w.heap.size w).alloc (ξr _) (.cells #[.int .i64 z.f,.int .i64 z.c] 84)).alloc (by simp) (.cells #[.int .i64 z.f,.int .i64 z.c] 84))
 unfold blkV
 go_enter Tryz.func185,Tryz.ntmps185
 go_wp2
 go_ret
 exact⟨rfl,HB.out⟩
theorem eqRoute_same (u v:Value) (r:Rou) (w:World) (h1:Rd w u r.fb) (h2:Rd w v r.fb):
 Calls Tryz.prog 184 #[.agg #[.int .i64 r.st,u],.agg #[.int .i64 r.st,v]] w fun e w'=>e= .returned (.bool true)∧Below w.heap.size w w':=by
 obtain⟨a1,c1,n1,-,rfl,-⟩:=h1.opn
 obtain⟨a2,c2,n2,-,rfl,-⟩:=h2.opn
 have k1:=(ξb w.heap.size w).alloc (ξr _) (.cells #[.int .i64 r.st,.slice a1 n1 c1] 82)
 have k2:=k1.alloc k1.size (.cells #[.int .i64 r.st,.slice a2 n2 c2] 82)
 have HE:=ξh (eqIntS_same _ _ r.fb _ (h1.belowAll k2) (h2.belowAll k2))
 have HB:=ξh k2
 have hne:(r.st != r.st)=false:=by simp
 clear k1 k2 h1 h2
 go_enter Tryz.func184,Tryz.ntmps184
 go_wp2_with fail
 refine HE.out.mono ?_
 rintro e w2 ⟨rfl,b2⟩
 have HB2:=ξh (HB.out.trans (b2.mono HB.out.size))
 clear b2
 go_wp2
 go_ret
 exact⟨rfl,HB2.out⟩
theorem eqLight_same (u v:Value) (x:Lgt) (w:World) (h1:Rd w u x.fb) (h2:Rd w v x.fb):
 Calls Tryz.prog 146 #[.agg #[.int .i64 x.id,.int .i64 x.st,u,.int .i64 x.fi,.int .i64 x.ct],.agg #[.int .i64 x.id,.int .i64 x.st,v,.int .i64 x.fi,.int .i64 x.ct]] w fun e w'=>e= .returned (.bool true)∧Below w.heap.size w w':=by
 obtain⟨a1,c1,n1,-,rfl,-⟩:=h1.opn
 obtain⟨a2,c2,n2,-,rfl,-⟩:=h2.opn
 have k1:=(ξb w.heap.size w).alloc (ξr _) (.cells #[.int .i64 x.id,.int .i64 x.st,.slice a1 n1 c1,.int .i64 x.fi,.int .i64 x.ct] 86)
 have k2:=k1.alloc k1.size (.cells #[.int .i64 x.id,.int .i64 x.st,.slice a2 n2 c2,.int .i64 x.fi,.int .i64 x.ct] 86)
 have HE:=ξh (eqRoute_same _ _ ⟨x.st,x.fb⟩ _ (h1.belowAll k2) (h2.belowAll k2))
 have HEB:=ξh (fun w=>eqBlock_same ⟨x.fi,x.ct⟩ w)
 unfold blkV at HEB
 have HB:=ξh k2
 have hne:(x.id != x.id)=false:=by simp
 clear k1 k2 h1 h2
 go_enter Tryz.func146,Tryz.ntmps146
 go_wp2_with fail
 refine HE.out.mono ?_
 rintro e w2 ⟨rfl,b2⟩
 obtain⟨hc,hf⟩:=bcell b2
 have HB2:=ξh (HB.out.trans (b2.mono HB.out.size))
 clear b2
 go_wp2_with fail
 refine(HEB.out _).mono ?_
 rintro e w3 ⟨rfl,b3⟩
 have HB3:=ξh (HB2.out.trans (b3.mono HB2.out.size))
 clear b3 hc hf
 go_wp2
 go_ret
 exact⟨rfl,HB3.out⟩
def totL (zs:List Lgt):Nat:=(zs.map fun x=>x.fb.length).sum
theorem totL_step {zs:List Lgt} {k:Nat} (h:k<zs.length):totL (zs.take (k+1))=totL (zs.take k)+(zs[k]?.getD nilL).fb.length:=by
 rw[totL,totL,List.take_add_one,List.map_append,List.sum_append,ξg h];simp
theorem totL_le (zs:List Lgt) (k:Nat):totL (zs.take k)≤totL zs:=by
 rw[totL,totL]
 conv=>rhs;rw[←List.take_append_drop k zs,List.map_append,List.sum_append]
 omega
theorem eqLightS_same (va vb:Value) (zs:List Lgt) (w:World) (ha:Rdt w (rws 5 lgtD zs) va) (hb:Rdt w (rws 5 lgtD zs) vb):
 Calls Tryz.prog 97 #[va,vb] w fun e w'=>e= .returned (.bool true)∧Below w.heap.size w w':=by
 obtain⟨a,n,ca,rfl,HN,_,hn,HA⟩:=lgt_opn ha
 obtain⟨b,m,cb,rfl,HM,_,_,HBB⟩:=lgt_opn hb
 obtain rfl:n=m:=HN.out.symm.trans HM.out
 have HA:=ξh HA
 have HBB:=ξh HBB
 clear HM ha hb
 have hne:((n:Int) != (n:Int))=false:=by simp
 go_enter Tryz.func97,Tryz.ntmps97
 go_wp2
 go_loopw [5] (fun i wr=>∃k:Nat,k≤n∧i= .int .i64 k∧Hid (Below w.heap.size w wr)) (fun i _=>n-(intOf i).toNat)
 case atStart=>exact⟨0,by omega,rfl,ξb _ _⟩
 case round=>
  obtain⟨k,hk,rfl,HB⟩:=hrel
  by_cases hlt:k<n
  · obtain⟨g1,o1,rfl,hg1,hc1⟩:=HA.out (by omega)
    obtain⟨g2,o2,rfl,hg2,hc2⟩:=HBB.out (by omega)
    have hltI:(k:Int)<(n:Int):=by omega
    obtain⟨u1,p0,p1,p2,p3,p4,hu1⟩:=hc1 k hlt
    obtain⟨u2,t0,t1,t2,t3,t4,hu2⟩:=hc2 k hlt
    have j0:=rg ((HB.out.cell (p:=⟨g1,o1+k*5,none⟩) hg1).trans p0)
    have j1:=rg ((HB.out.cell (p:=⟨g1,o1+k*5+1,none⟩) hg1).trans p1)
    have j2:=rg ((HB.out.cell (p:=⟨g1,o1+k*5+2,none⟩) hg1).trans p2)
    have j3:=rg ((HB.out.cell (p:=⟨g1,o1+k*5+3,none⟩) hg1).trans p3)
    have j4:=rg ((HB.out.cell (p:=⟨g1,o1+k*5+4,none⟩) hg1).trans p4)
    have i0:=rg ((HB.out.cell (p:=⟨g2,o2+k*5,none⟩) hg2).trans t0)
    have i1:=rg ((HB.out.cell (p:=⟨g2,o2+k*5+1,none⟩) hg2).trans t1)
    have i2:=rg ((HB.out.cell (p:=⟨g2,o2+k*5+2,none⟩) hg2).trans t2)
    have i3:=rg ((HB.out.cell (p:=⟨g2,o2+k*5+3,none⟩) hg2).trans t3)
    have i4:=rg ((HB.out.cell (p:=⟨g2,o2+k*5+4,none⟩) hg2).trans t4)
    have HE:=ξh (fun w' (hb:Below wr.heap.size wr w')=>eqLight_same u1 u2 (zs[k]?.getD nilL) w' ((hu1.belowAll HB.out).belowAll hb) ((hu2.belowAll HB.out).belowAll hb))
    obtain⟨a5,c5,n5,-,rfl,-⟩:=hu1.opn
    obtain⟨a6,c6,n6,-,rfl,-⟩:=hu2.opn
    clear hc1 hc2 p0 p1 p2 p3 p4 t0 t1 t2 t3 t4 hu1 hu2
    generalize zs[k]?.getD nilL=x at *
    go_wp2
    refine wp_region_quiet_below (by kernel_rfl) (by kernel_rfl) ?_
    repeat (go_big_quiet_step (first | (go_at_call 146;exact Calls.regrown_of (HE.out _ (below_regrown _ _ _)))))
    refine wpQuiet_nil ?_
    rintro _ ⟨⟨dq,osq⟩,rfl⟩
    have HBQ:=ξh (HB.out.trans ((below_regrown wr dq osq).mono HB.out.size))
    go_wp2
    go_roundw
    case rel=>exact⟨k+1,by omega,by go_num,HBQ.out⟩
    case measure=>simp[intOf];omega
  · obtain rfl:k=n:=by omega
    go_wp2
    go_ret
    exact⟨rfl,HB.out⟩
def mkQ (zs:List Lgt) (k:Nat):Nat:=4*k+totL (zs.take k)
def mkLgt (A:Int) (x:Lgt):Lgt:=⟨A,A+1,cnt (A+1+1) x.fb.length,A+1+1+x.fb.length,A+1+1+x.fb.length+1⟩
def mkLf (zs:List Lgt) (q:Nat) (i:Nat):Lgt:=mkLgt (((q+mkQ zs i:Nat):Int)) (zs[i]?.getD nilL)
def mkLs (zs:List Lgt) (q:Nat):List Lgt:=(List.range zs.length).map (mkLf zs q)
theorem mkQ_step {zs:List Lgt} {k:Nat} (h:k<zs.length):mkQ zs (k+1)=mkQ zs k+4+(zs[k]?.getD nilL).fb.length:=by
 unfold mkQ;rw[totL_step h];omega
theorem mkQ_le {zs:List Lgt} {k:Nat} (h:k≤zs.length):mkQ zs k≤4*zs.length+totL zs:=by
 unfold mkQ;have:=totL_le zs k;omega
theorem mkQ_all (zs:List Lgt):mkQ zs zs.length=4*zs.length+totL zs:=by unfold mkQ;rw[List.take_length]
theorem markLgt_1 {wr:World} {D:List Lgt} {x:Lgt} {fp:List Nat} {a:Option Addr} {n cap k:Nat} (h:Odt wr (rws 5 lgtD D) (.slice a n cap) fp) (hn:fp.Nodup) (hx:D[k]?= some x) (A B:Int):
 ∃g off u f,a=some ⟨g,off,none⟩∧wr.cell? ⟨g,off+k*5,none⟩=some (.int .i64 x.id)∧wr.frozen? ⟨g,off+k*5,none⟩=false∧
  (wr.setCell ⟨g,off+k*5,none⟩ (.int .i64 A)).cell? ⟨g,off+k*5+1,none⟩=some (.int .i64 x.st)∧(wr.setCell ⟨g,off+k*5,none⟩ (.int .i64 A)).frozen? ⟨g,off+k*5+1,none⟩=false∧
  ((wr.setCell ⟨g,off+k*5,none⟩ (.int .i64 A)).setCell ⟨g,off+k*5+1,none⟩ (.int .i64 B)).cell? ⟨g,off+k*5+2,none⟩=some u∧
  Odt ((wr.setCell ⟨g,off+k*5,none⟩ (.int .i64 A)).setCell ⟨g,off+k*5+1,none⟩ (.int .i64 B)) (inD x.fb) u f∧(∀j∈f,j∈fp)∧
  Wr wr ((wr.setCell ⟨g,off+k*5,none⟩ (.int .i64 A)).setCell ⟨g,off+k*5+1,none⟩ (.int .i64 B)) fp∧
  ∀(w':World) (l':List Int),Odt w' (inD l') u f→Wr ((wr.setCell ⟨g,off+k*5,none⟩ (.int .i64 A)).setCell ⟨g,off+k*5+1,none⟩ (.int .i64 B)) w' f→Odt w' (rws 5 lgtD (D.set k ⟨A,B,l',x.fi,x.ct⟩)) (.slice a n cap) fp:=by
 have hm:∀z,(lgtD z).length=5:=fun _=>rfl
 have hk:k<D.length:=(ξl hx).1
 obtain⟨g,off,rfl,c0,f0,o1,w1⟩:=h.rwsLeaf hm (by omega) hn 0 x ⟨A,x.st,x.fb,x.fi,x.ct⟩ (.int .i64 x.id) (.int .i64 A) hx (by omega) rfl rfl
 obtain⟨g2,off2,ev,c1,f1,o2,w2⟩:=o1.rwsLeaf hm (by omega) hn 1 ⟨A,x.st,x.fb,x.fi,x.ct⟩ ⟨A,B,x.fb,x.fi,x.ct⟩ (.int .i64 x.st) (.int .i64 B) (set_get hk) (by omega) rfl rfl
 simp only[Option.some.injEq,Addr.mk.injEq,and_true] at ev
 obtain⟨rfl,rfl⟩:=ev
 rw[List.set_set] at o2
 obtain⟨g2,off2,u,f,ev,c2,o3,hsub,hfn,hcl⟩:=o2.rwsDeep hm (by omega) hn 2 ⟨A,B,x.fb,x.fi,x.ct⟩ (inD x.fb) (set_get hk) (by omega) rfl
 simp only[Option.some.injEq,Addr.mk.injEq,and_true] at ev
 obtain⟨rfl,rfl⟩:=ev
 refine⟨g,off,u,f,rfl,c0,f0,c1,f1,c2,o3,hsub,w1.trans w2,fun w' l' q1 q2=> ?_⟩
 have:=hcl w' (inD l') ⟨A,B,l',x.fi,x.ct⟩ q1 q2 rfl
 rw[List.set_set] at this
 exact this
theorem markLgt_2 {wr:World} {D:List Lgt} {x:Lgt} {fp:List Nat} {g off n cap k:Nat} (h:Odt wr (rws 5 lgtD D) (.slice (some ⟨g,off,none⟩) n cap) fp) (hn:fp.Nodup) (hx:D[k]?= some x) (A B:Int):
 wr.cell? ⟨g,off+k*5+3,none⟩=some (.int .i64 x.fi)∧wr.frozen? ⟨g,off+k*5+3,none⟩=false∧
  (wr.setCell ⟨g,off+k*5+3,none⟩ (.int .i64 A)).cell? ⟨g,off+k*5+4,none⟩=some (.int .i64 x.ct)∧(wr.setCell ⟨g,off+k*5+3,none⟩ (.int .i64 A)).frozen? ⟨g,off+k*5+4,none⟩=false∧
  Wr wr ((wr.setCell ⟨g,off+k*5+3,none⟩ (.int .i64 A)).setCell ⟨g,off+k*5+4,none⟩ (.int .i64 B)) fp∧
  Odt ((wr.setCell ⟨g,off+k*5+3,none⟩ (.int .i64 A)).setCell ⟨g,off+k*5+4,none⟩ (.int .i64 B)) (rws 5 lgtD (D.set k ⟨x.id,x.st,x.fb,A,B⟩)) (.slice (some ⟨g,off,none⟩) n cap) fp:=by
 have hm:∀z,(lgtD z).length=5:=fun _=>rfl
 have hk:k<D.length:=(ξl hx).1
 obtain⟨g1,off1,ev,c0,f0,o1,w1⟩:=h.rwsLeaf hm (by omega) hn 3 x ⟨x.id,x.st,x.fb,A,x.ct⟩ (.int .i64 x.fi) (.int .i64 A) hx (by omega) rfl rfl
 simp only[Option.some.injEq,Addr.mk.injEq,and_true] at ev
 obtain⟨rfl,rfl⟩:=ev
 obtain⟨g2,off2,ev,c1,f1,o2,w2⟩:=o1.rwsLeaf hm (by omega) hn 4 ⟨x.id,x.st,x.fb,A,x.ct⟩ ⟨x.id,x.st,x.fb,A,B⟩ (.int .i64 x.ct) (.int .i64 B) (set_get hk) (by omega) rfl rfl
 simp only[Option.some.injEq,Addr.mk.injEq,and_true] at ev
 obtain⟨rfl,rfl⟩:=ev
 rw[List.set_set] at o2
 exact⟨c0,f0,c1,f1,w1.trans w2,o2⟩
theorem markLightS_any (v:Value) (zs:List Lgt) (fp:List Nat) (q:Nat) (w:World) (h:Odt w (rws 5 lgtD zs) v fp) (hn:fp.Nodup) (hb:4*zs.length+totL zs≤67108864) (hq:0<q) (hq2:q≤1099511627776):
 Calls Tryz.prog 98 #[v,.int .i64 (q:Int)] w fun e w'=>e= .returned (.int .i64 ((q+(4*zs.length+totL zs):Nat):Int))∧Odt w' (rws 5 lgtD (mkLs zs q)) v fp∧Wr w w' fp:=by
 obtain⟨a,n,cap,rfl,HN,_,hnl,-⟩:=lgt_opn h.rd
 have HT:=ξh (fun k (h:k<zs.length)=>@mkQ_step zs k h)
 have HTL:=ξh (fun k (h:k≤zs.length)=>ξs (@mkQ_le zs k h) hb)
 have HST:=ξh (fun k (h:k<zs.length)=>mkG_step (mkLf zs q) zs k h)
 have HAT:=ξh (mkG_at (mkLf zs q) zs)
 have HZ:=ξh (mkG_zero (mkLf zs q) zs)
 have HALL:=ξh (show mkG (mkLf zs q) zs n=mkLs zs q by rw[mkG_all _ _ n HN.out];unfold mkLs;rw[HN.out])
 have HQ:=ξh (show q+mkQ zs n=q+(4*zs.length+totL zs) by rw[←HN.out,mkQ_all])
 have HF:=ξh (show∀i,mkLf zs q i=mkLgt (((q+mkQ zs i:Nat):Int)) (zs[i]?.getD nilL) from fun _=>rfl)
 have HH:=ξh h
 generalize q+(4*zs.length+totL zs)=R at *
 generalize mkLs zs q=L at *
 generalize mkLf zs q=F at *
 clear hb h
 go_enter Tryz.func98,Tryz.ntmps98
 go_wp2
 go_loopw [1,5] (fun x i wr=>∃k:Nat,k≤n∧i= .int .i64 k∧x= .int .i64 ((q+mkQ zs k:Nat):Int)∧Hid (Odt wr (rws 5 lgtD (mkG F zs k)) (.slice a n cap) fp)∧Hid (Wr w wr fp)) (fun _ i _=>n-(intOf i).toNat)
 case atStart=>exact⟨0,by omega,rfl,by simp[mkQ,totL],by rw[HZ.out];exact HH.out,Wr.refl _ _⟩
 case round=>
  obtain⟨k,hk,rfl,rfl,HO,HW⟩:=hrel
  have hT0:=HTL.out k (by rw[HN.out];exact hk)
  by_cases hlt:k<n
  · have hltI:(k:Int)<(n:Int):=by omega
    have hkx:k<zs.length:=by rw[HN.out];exact hlt
    have hqs:=HT.out k hkx
    have hT1:=HTL.out (k+1) (by rw[HN.out];omega)
    have hdk:(mkG F zs k)[k]?= some (zs[k]?.getD nilL):=by rw[HAT.out k,ξg hkx];rfl
    have HMK:=ξh (HST.out k hkx)
    have HFK:=ξh (HF.out k)
    obtain⟨A,hA⟩:∃A:Int,((q+mkQ zs k:Nat):Int)=A:=⟨_,rfl⟩
    rw[hA] at HFK ⊢
    generalize zs[k]?.getD nilL=x at *
    have hA0:0≤A∧A≤1099511627776+67108864:=by omega
    have hA1:((q+mkQ zs (k+1):Nat):Int)=A+1+1+x.fb.length+1+1:=by omega
    have hxl:(x.fb.length:Int)≤67108864:=by omega
    obtain⟨g,off,u,fu,rfl,c0,f0,c1,f1,c2,o3,hsub,hw,hcl⟩:=markLgt_1 HO.out hn hdk A (A+1)
    have HMI:=ξh (markIntS_odt u x.fb fu (A+1+1) _ o3 (by omega) (by omega))
    have HCL:=ξh hcl
    have HSUB:=ξh hsub
    have HW2:=ξh (HW.out.trans hw)
    have HKD:=ξh (show k<(mkG F zs k).length from(ξl hdk).1)
    have HA1:=ξh hA1
    clear o3 hcl hsub hw hdk HO HW hqs hT1 hT0 hA hA1
    generalize mkG F zs k=D at *
    go_wp2_with fail
    refine HMI.out.mono ?_
    rintro e w3 ⟨rfl,o4,w4⟩
    have o5:=HCL.out w3 _ o4 w4
    obtain⟨c3,f3,c4,f4,hw5,o6⟩:=markLgt_2 o5 hn (set_get HKD.out) (A+1+1+x.fb.length) (A+1+1+x.fb.length+1)
    rw[List.set_set] at o6
    have HO6:=ξh o6
    have HW6:=ξh ((HW2.out.trans (w4.mono HSUB.out)).trans hw5)
    have hxl2:(0:Int)≤(x.fb.length:Int):=by omega
    clear o4 w4 o5 o6 hw5 c0 f0 c1 f1 c2 HCL HMI
    go_wp2
    go_roundw
    case rel=>exact⟨k+1,by omega,by go_num,int_eq (by rw[HA1.out]),by have:=HO6.out;rw[←HMK.out,HFK.out];exact this,HW6.out⟩
    case measure=>simp[intOf];omega
  · obtain rfl:k=n:=by omega
    go_wp2
    go_ret
    exact⟨by rw[HQ.out];rfl,by rw[←HALL.out];exact HO.out,HW.out⟩
/-! ### Plans -/
def PlnO (w:World) (p:Pln) (v:Value) (fp:List Nat):Prop:=∃u1 u2 u3 f1 f2 f3,v= .agg #[u1,u2,u3]∧Odt w (flt 1 strE p.n.ns) u1 f1∧Odt w (flt 4 fibE p.n.fs) u2 f2∧Odt w (rws 5 lgtD p.ls) u3 f3∧fp=(f1++f2)++f3
theorem PlnO.rd {w:World} {p:Pln} {v:Value} {fp:List Nat} (h:PlnO w p v fp) (hs:NetSm p.n):PlnR w v p:=by
 obtain⟨u1,u2,u3,f1,f2,f3,e,h1,h2,h3,_⟩:=h;exact⟨u1,u2,u3,e,h1.rd,h2.rd,h3.rd,hs⟩
theorem PlnO.behind {w w':World} {p:Pln} {v:Value} {fp:List Nat} (h:PlnO w p v fp) (hb:Below w.heap.size w w'):PlnO w' p v fp:=by
 obtain⟨u1,u2,u3,f1,f2,f3,e,h1,h2,h3,e2⟩:=h;exact⟨u1,u2,u3,f1,f2,f3,e,h1.behind hb,h2.behind hb,h3.behind hb,e2⟩
theorem PlnO.apart {w w':World} {p:Pln} {v:Value} {fp fq:List Nat} (h:PlnO w p v fp) (hw:Wr w w' fq) (hd:∀k∈fp,k ∉ fq):PlnO w' p v fp:=by
 obtain⟨u1,u2,u3,f1,f2,f3,e,h1,h2,h3,rfl⟩:=h
 exact⟨u1,u2,u3,f1,f2,f3,e,h1.apart hw (fun k hk=>hd k (by simp[hk])),h2.apart hw (fun k hk=>hd k (by simp[hk])),h3.apart hw (fun k hk=>hd k (by simp[hk])),rfl⟩
theorem PlnO.form {w:World} {p:Pln} {v:Value} {fp:List Nat} (h:PlnO w p v fp):∃a1 n1 c1 a2 n2 c2 a3 n3 c3,v= .agg #[.slice a1 n1 c1,.slice a2 n2 c2,.slice a3 n3 c3]:=by
 obtain⟨u1,u2,u3,f1,f2,f3,rfl,h1,h2,h3,_⟩:=h
 obtain⟨a1,n1,c1,rfl⟩:=Rdt.slice (show Rdt w (.rows _ _) u1 from h1.rd)
 obtain⟨a2,n2,c2,rfl⟩:=Rdt.slice (show Rdt w (.rows _ _) u2 from h2.rd)
 obtain⟨a3,n3,c3,rfl⟩:=Rdt.slice (show Rdt w (.rows _ _) u3 from h3.rd)
 exact⟨_,_,_,_,_,_,_,_,_,rfl⟩
theorem eqPlan_same (va vb:Value) (p:Pln) (w:World) (ha:PlnR w va p) (hb:PlnR w vb p):
 Calls Tryz.prog 53 #[va,vb] w fun e w'=>e= .returned (.bool true)∧Below w.heap.size w w':=by
 obtain⟨u1,u2,u3,rfl,r1,r2,r3,hs⟩:=ha
 obtain⟨v1,v2,v3,rfl,s1,s2,s3,hs2⟩:=hb
 obtain⟨a1,n1,c1,rfl⟩:=Rdt.slice (show Rdt w (.rows _ _) u1 from r1)
 obtain⟨a2,n2,c2,rfl⟩:=Rdt.slice (show Rdt w (.rows _ _) u2 from r2)
 obtain⟨a3,n3,c3,rfl⟩:=Rdt.slice (show Rdt w (.rows _ _) u3 from r3)
 obtain⟨a4,n4,c4,rfl⟩:=Rdt.slice (show Rdt w (.rows _ _) v1 from s1)
 obtain⟨a5,n5,c5,rfl⟩:=Rdt.slice (show Rdt w (.rows _ _) v2 from s2)
 obtain⟨a6,n6,c6,rfl⟩:=Rdt.slice (show Rdt w (.rows _ _) v3 from s3)
 have h1:=(ξb w.heap.size w).alloc (ξr _) (.cells #[.slice a1 n1 c1,.slice a2 n2 c2,.slice a3 n3 c3] 75)
 have h2:=h1.alloc h1.size (.cells #[.slice a4 n4 c4,.slice a5 n5 c5,.slice a6 n6 c6] 75)
 have HE1:=ξh (eqNetwork_same (.agg #[.slice a1 n1 c1,.slice a2 n2 c2]) (.agg #[.slice a4 n4 c4,.slice a5 n5 c5]) p.n _ ⟨_,_,rfl,r1.behind h2,r2.behind h2,hs⟩ ⟨_,_,rfl,s1.behind h2,s2.behind h2,hs2⟩)
 have HE2:=ξh (fun w' (hb:Below w.heap.size w w')=>eqLightS_same _ _ p.ls w' (r3.behind hb) (s3.behind hb))
 have HB:=ξh h2
 clear h1 h2 r1 r2 r3 s1 s2 s3
 go_enter Tryz.func53,Tryz.ntmps53
 go_wp2_with fail
 refine HE1.out.mono ?_
 rintro e w2 ⟨rfl,b2⟩
 obtain⟨hc,hf⟩:=bcell b2
 have HB2:=ξh (HB.out.trans (b2.mono HB.out.size))
 clear b2
 go_wp2_with fail
 refine(HE2.out _ HB2.out).mono ?_
 rintro e w3 ⟨rfl,b3⟩
 have HB3:=ξh (HB2.out.trans (b3.mono HB2.out.size))
 clear b3 hc hf
 go_wp2
 go_ret
 exact⟨rfl,HB3.out⟩
def mkP (p:Pln):Nat:=mkN p.n+(4*p.ls.length+totL p.ls)
def mkPln (p:Pln) (q:Nat):Pln:=⟨mkNet p.n q,mkLs p.ls (q+mkN p.n)⟩
theorem markPlan_any (v:Value) (p:Pln) (fp:List Nat) (q:Nat) (w:World) (h:PlnO w p v fp) (hn:fp.Nodup) (h1:p.n.ns.length≤1048576) (h2:p.n.fs.length≤1048576) (h3:4*p.ls.length+totL p.ls≤67108864) (hq:0<q) (hq2:q≤549755813888):
 Calls Tryz.prog 54 #[v,.int .i64 (q:Int)] w fun e w'=>e= .returned (.int .i64 ((q+mkP p:Nat):Int))∧PlnO w' (mkPln p q) v fp∧Wr w w' fp:=by
 obtain⟨u1,u2,u3,f1,f2,f3,rfl,r1,r2,r3,rfl⟩:=h
 obtain⟨hn1,hn2,hn3⟩:=List.nodup_append.1 hn
 obtain⟨a1,n1,c1,rfl⟩:=Rdt.slice (show Rdt w (.rows _ _) u1 from r1.rd)
 obtain⟨a2,n2,c2,rfl⟩:=Rdt.slice (show Rdt w (.rows _ _) u2 from r2.rd)
 obtain⟨a3,n3,c3,rfl⟩:=Rdt.slice (show Rdt w (.rows _ _) u3 from r3.rd)
 obtain⟨bx,bc,blt,-⟩:=box_facts w #[.slice a1 n1 c1,.slice a2 n2 c2,.slice a3 n3 c3] 75
 have q2:=bc 2 (.slice a3 n3 c3) rfl
 have hlt1:∀k∈f1++f2,k<w.heap.size:=fun k hk=>by
  rcases List.mem_append.1 hk with h | h
  · exact r1.lt k h
  · exact r2.lt k h
 have hmn:mkN p.n=p.n.ns.length+4*p.n.fs.length:=rfl
 have HM1:=ξh (markNetwork_any (.agg #[.slice a1 n1 c1,.slice a2 n2 c2]) p.n (f1++f2) q _ ⟨_,_,_,_,rfl,r1.behind bx,r2.behind bx,rfl⟩ hn1 h1 h2 hq (by omega))
 have R3:=ξh (r3.behind bx)
 have HBX:=ξh bx
 have HL:=ξh hlt1
 have HD:=ξh hn3
 have HM2:=ξh (fun w' (ho:Odt w' (rws 5 lgtD p.ls) (.slice a3 n3 c3) f3)=>markLightS_any (.slice a3 n3 c3) p.ls f3 (q+mkN p.n) w' ho hn2 h3 (by omega) (by omega))
 have HE:=ξh (show q+mkP p=q+mkN p.n+(4*p.ls.length+totL p.ls) by unfold mkP;omega)
 have HMK:=ξh (show mkPln p q=⟨mkNet p.n q,mkLs p.ls (q+mkN p.n)⟩ from rfl)
 generalize q+mkP p=R at *
 generalize mkPln p q=P' at *
 generalize q+mkN p.n=Q at *
 clear bx bc r1 r2 r3 hlt1 hn hn3 hmn
 go_enter Tryz.func54,Tryz.ntmps54
 go_wp2_with fail
 generalize w.alloc (.cells #[.slice a1 n1 c1,.slice a2 n2 c2,.slice a3 n3 c3] 75)=w1 at *
 refine HM1.out.mono ?_
 rintro e w2 ⟨rfl,o1,wr1⟩
 have e1:w2.cell? ⟨w.heap.size,2,none⟩=some (.slice a3 n3 c3):=by
  unfold World.cell? at q2 ⊢
  rw[wr1.block _ blt (fun hk=>Nat.lt_irrefl _ (HL.out _ hk))]
  exact q2
 have O3:=ξh (R3.out.apart wr1 (fun k hk hk2=>HD.out k hk2 k hk rfl))
 have HM3:=ξh (HM2.out w2 O3.out)
 have O1:=ξh o1
 have W1:=ξh wr1
 clear o1 wr1 q2 HM1
 go_wp2_with fail
 refine HM3.out.mono ?_
 rintro e w3 ⟨rfl,o2,wr2⟩
 have O1:=ξh (O1.out.apart wr2 (fun k hk hk2=>HD.out k hk k hk2 rfl))
 have HW:=ξh (((Wr.of_below HBX.out:Wr w w1 ((f1++f2)++f3)).trans (W1.out.mono (fun k hk=>List.mem_append_left _ hk))).trans (wr2.mono (fun k hk=>List.mem_append_right _ hk)))
 have O2:=ξh o2
 clear o2 wr2
 obtain⟨x1,x2,g1,g2,ex,p1,p2,eg⟩:=O1.out
 simp only[Value.agg.injEq,Array.mk.injEq,List.cons.injEq,and_true] at ex
 obtain⟨rfl,rfl⟩:=ex
 have P1:=ξh p1
 have P2:=ξh p2
 have EG:=ξh eg
 clear p1 p2 eg O1
 go_wp2
 go_ret
 exact⟨by rw[HE.out];rfl,by rw[HMK.out,EG.out];exact⟨_,_,_,g1,g2,f3,rfl,P1.out,P2.out,O2.out,rfl⟩,HW.out⟩
end Go.Proofs.YtofcicomhnkocaaGreat
