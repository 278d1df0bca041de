import Derived.Test.YtofcicomhnkocaaGreatBx07
set_option linter.unusedVariables false
namespace Go.Proofs.YtofcicomhnkocaaGreat
set_option maxHeartbeats 6400000
open Go.RowKit Go.Sort
set_option maxRecDepth 100000
open Cpy
theorem src_flt {α:Type} {enc:α→List Value} {m:Nat} {w:World} {zs:List α} {a:Option Addr} {n c:Nat} (hm:∀z,(enc z).length=m) (_hm0:0<m) (h:Rdt w (flt m enc zs) (.slice a n c)) (hn:zs.length=n):
 (a=none→n=0∧c=0)∧(zs.flatMap enc).length=n*m∧ ∀w',Below w.heap.size w w'→ ∀ad,a=some ad→ ∀j u,(zs.flatMap enc)[j]?= some u→w'.cell? (ad.add j)=some u:=by
 have hlen:(zs.flatMap enc).length=n*m:=by
  have:=ξab hm zs
  unfold fltC at this
  rw[←hn,←this,←List.map_flatMap,List.length_map]
 have hds:fltC enc zs=(zs.flatMap enc).map Dt.leaf:=by unfold fltC;rw[List.map_flatMap]
 unfold flt at h
 rw[hds] at h
 generalize hys:(zs.flatMap enc).map Dt.leaf=ds at *
 cases h with
 | nil=>
   have:zs.flatMap enc=[]:=by simpa using hys
   rw[this] at hlen ⊢
   exact⟨fun _=>⟨rfl,rfl⟩,hlen,fun w' _ ad e=>by cases e⟩
 | mk hl hu hnc hc hb hcell hd=>
   refine⟨fun e=>(by cases e),hlen,fun w' hbw ad e j u hj=> ?_⟩
   cases e
   have hdj:ds[j]?= some (Dt.leaf u):=by rw[←hys,List.getElem?_map,hj];rfl
   have hjl:=(ξl hdj).1
   rename_i us
   have huj:us[j]?= some us[j]:=ξg (by omega)
   have:=(hd j _ _ hdj huj).leaf_inv
   have hc2:=hcell j _ huj
   rw[this] at hc2
   rw[addr_add]
   exact(hbw.cell (p:=⟨_,_,none⟩) hb).trans hc2
theorem odt_of_row {w:World} {base m n:Nat} {T:TypeId} {v:Value} {us:List Value} (h:w.ownsRow base T m v n us):∃fp,Odt w (.rows m (us.map Dt.leaf)) v fp∧fp.Nodup∧ ∀k∈fp,base≤k∧k<w.heap.size∧v.ownBlock=some k:=by
 have ho:=Ofr.of_row h
 obtain⟨fp,h1,h2,h3⟩:=ho
 refine⟨fp,h1,h2,fun k hk=>⟨h3 k hk,h1.lt k hk,?_⟩⟩
 generalize hys:us.map Dt.leaf=ds at *
 cases h1 with
 | nil=>cases hk
 | mk hl hu hf hn hc hg hcs ht hd=>
   rename_i us2 fs cur T2
   rcases List.mem_cons.1 hk with rfl | hk
   · rfl
   · obtain⟨f,hf1,hf2⟩:=List.mem_flatten.1 hk
     obtain⟨j,hj,e⟩:=List.getElem_of_mem hf1
     have hjd:j<ds.length:=by omega
     have hj2:ds[j]?= some ds[j]:=ξg hjd
     have hj3:us2[j]?= some us2[j]:=ξg (by omega)
     have:=hd j _ _ f hj2 hj3 (by rw[ξg hj,e])
     have hje:ds[j]?= (us.map Dt.leaf)[j]?:=by rw[hys]
     rw[List.getElem?_map,hj2] at hje
     obtain⟨u,-,hu2⟩:=Option.map_eq_some_iff.1 hje.symm
     rw[←hu2] at this
     rw[this.leaf_inv.2] at hf2
     cases hf2
theorem ξaO {α:Type} {enc:α→List Value} {w:World} {base m n:Nat} {T:TypeId} {v:Value} {zs:List α} (h:w.ownsRow base T m v n ([]++zs.flatMap enc)):∃fp,Odt w (flt m enc zs) v fp∧fp.Nodup∧ ∀k∈fp,base≤k∧k<w.heap.size∧v.ownBlock=some k:=by
 have:=odt_of_row h
 rw[List.nil_append,List.map_flatMap] at this
 exact this
def CpyP (n:Net) (w:World) (e:Ending) (w':World):Prop:=∃v fp,e= .returned v∧NetO w' n v fp∧fp.Nodup∧(∀k∈fp,w.heap.size≤k∧k<w'.heap.size)∧Below w.heap.size w w'
theorem CpyP.of {w w2 w10:World} {n:Net} {v5 v10:Value} (hb0:Below w.heap.size w w2) (hz:w2.heap.size=w.heap.size+2) (hb:Below w2.heap.size w2 w10)
 (h1:∃fp,Odt w10 (flt 1 strE n.ns) v5 fp∧fp.Nodup∧ ∀k∈fp,w2.heap.size≤k∧k<w10.heap.size∧v5.ownBlock=some k) (h2:∃fp,Odt w10 (flt 4 fibE n.fs) v10 fp∧fp.Nodup∧ ∀k∈fp,w2.heap.size≤k∧k<w10.heap.size∧v10.ownBlock=some k) (ha:Apt v5 v10):
 CpyP n w (.returned (.agg #[v5,v10])) ((w10.setCell ⟨w.heap.size+1,0,none⟩ v5).setCell ⟨w.heap.size+1,1,none⟩ v10):=by
 obtain⟨f1,a1,a2,a3⟩:=h1
 obtain⟨f2,b1,b2,b3⟩:=h2
 have hk:∀g,w2.heap.size≤g→((w10.setCell ⟨w.heap.size+1,0,none⟩ v5).setCell ⟨w.heap.size+1,1,none⟩ v10).heap[g]?= w10.heap[g]?:=fun g hg=>by
  rw[ξm _ _ _ _ (show g≠w.heap.size+1 by omega),ξm _ _ _ _ (show g≠w.heap.size+1 by omega)]
 refine⟨_,f1++f2,rfl,⟨v5,v10,f1,f2,rfl,a1.kept fun k hk2=>hk k (a3 k hk2).1,b1.kept fun k hk2=>hk k (b3 k hk2).1,rfl⟩,List.nodup_append.2 ⟨a2,b2,fun x hx y hy e=> ?_⟩,fun k hk2=> ?_,((hb0.trans (hb.mono hb0.size)).setCell (p:=⟨w.heap.size+1,0,none⟩) (Nat.le_succ _) v5).setCell (p:=⟨w.heap.size+1,1,none⟩) (Nat.le_succ _) v10⟩
 · subst e
   exact ha x (a3 x hx).2.2 (b3 x hy).2.2
 · have hs:((w10.setCell ⟨w.heap.size+1,0,none⟩ v5).setCell ⟨w.heap.size+1,1,none⟩ v10).heap.size=w10.heap.size:=by simp
   rw[hs]
   rcases List.mem_append.1 hk2 with h | h
   · have:=a3 k h;omega
   · have:=b3 k h;omega
theorem ξcG (u1 u2:Value) (n:Net) (w:World) (h:NetR w (.agg #[u1,u2]) n) (h1:n.ns.length≤1048576) (h2:n.fs.length≤1048576):
 Calls Tryz.prog 162 #[.agg #[u1,u2]] w (CpyP n w):=by
 obtain⟨x1,x2,e,r1,r2,hsm⟩:=h
 simp only[Value.agg.injEq,Array.mk.injEq,List.cons.injEq,and_true] at e
 obtain⟨rfl,rfl⟩:=e
 obtain⟨a1,m1,c1,rfl,HN1,-,hm1,-⟩:=ξC (m:=1) (enc:=strE) (fun _=>rfl) (by omega) nilS r1
 obtain⟨a2,m2,c2,rfl,HN2,-,hm2,-⟩:=ξC (m:=4) (enc:=fibE) (fun _=>rfl) (by omega) nilB r2
 have HS1:=ξh (src_flt (enc:=strE) (m:=1) (fun _=>rfl) (by omega) r1 HN1.out)
 have HS2:=ξh (src_flt (enc:=fibE) (m:=4) (fun _=>rfl) (by omega) r2 HN2.out)
 have hl1:m1≤1048576:=by have:=HN1.out;omega
 have hl2:m2≤1048576:=by have:=HN2.out;omega
 have HD1:=ξh (show∀w' b v,w'.ownsRow b 9 1 v (0+m1) ([]++n.ns.flatMap strE)→ ∃fp,Odt w' (flt 1 strE n.ns) v fp∧fp.Nodup∧ ∀k∈fp,b≤k∧k<w'.heap.size∧v.ownBlock=some k from fun w' b v hh=>ξaO hh)
 have HD2:=ξh (show∀w' b v,w'.ownsRow b 146 4 v (0+m2) ([]++n.fs.flatMap fibE)→ ∃fp,Odt w' (flt 4 fibE n.fs) v fp∧fp.Nodup∧ ∀k∈fp,b≤k∧k<w'.heap.size∧v.ownBlock=some k from fun w' b v hh=>ξaO hh)
 have HE1:=ξh (show∀u∈n.ns.flatMap strE,u.oneCell'=true from fun u hu=>by
  obtain⟨s,-,hs⟩:=List.mem_flatMap.1 hu
  simp only[strE,List.mem_singleton] at hs
  subst hs;rfl)
 have HE2:=ξh (show∀u∈n.fs.flatMap fibE,u.oneCell'=true from fun u hu=>fbs_one u hu)
 obtain⟨NP,hNP⟩:∃NP,NP=CpyP n w:=⟨_,rfl⟩
 rw[←hNP]
 have HNP:=ξh hNP
 have b1:=(ξb w.heap.size w).alloc (ξr _) (.cells #[.slice a1 m1 c1,.slice a2 m2 c2] 35)
 have b2:=b1.alloc b1.size (.cells #[.slice none 0 0,.slice none 0 0] 35)
 have HB2:=ξh b2
 have HX1:=ξh (show((w.alloc (.cells #[.slice a1 m1 c1,.slice a2 m2 c2] 35)).alloc (.cells #[.slice none 0 0,.slice none 0 0] 35)).heap[w.heap.size]?= some (.cells #[.slice a1 m1 c1,.slice a2 m2 c2] 35 (0,0)) from(heap_alloc_old _ _ (by simp)).trans (ξn w _))
 have HX2:=ξh (show((w.alloc (.cells #[.slice a1 m1 c1,.slice a2 m2 c2] 35)).alloc (.cells #[.slice none 0 0,.slice none 0 0] 35)).heap[w.heap.size+1]?= some (.cells #[.slice none 0 0,.slice none 0 0] 35 (0,0)) from by have:=ξn (w.alloc (.cells #[.slice a1 m1 c1,.slice a2 m2 c2] 35)) (.cells #[.slice none 0 0,.slice none 0 0] 35);simpa using this)
 have HZ2:=ξh (show((w.alloc (.cells #[.slice a1 m1 c1,.slice a2 m2 c2] 35)).alloc (.cells #[.slice none 0 0,.slice none 0 0] 35)).heap.size=w.heap.size+2 by simp)
 generalize n.ns.flatMap strE=ys1 at *
 generalize n.fs.flatMap fibE=ys2 at *
 clear b1 b2 r1 r2 hsm h1 h2 hNP
 go_enter Tryz.func162,Tryz.ntmps162
 go_upto_region 1 with fail
 generalize ((w.alloc (.cells #[.slice a1 m1 c1,.slice a2 m2 c2] 35)).alloc (.cells #[.slice none 0 0,.slice none 0 0] 35))=w2 at *
 have hlt1:w.heap.size<w2.heap.size:=by have:=HZ2.out;omega
 have hlt2:w.heap.size+1<w2.heap.size:=by have:=HZ2.out;omega
 have HS:=ξh (fun(w':World) (hb:Below w2.heap.size w2 w')=>show w'.cell? ⟨w.heap.size,0,none⟩=some (.slice a1 m1 c1)∧w'.cell? ⟨w.heap.size,1,none⟩=some (.slice a2 m2 c2) from
  ⟨(hb.cell (p:=⟨w.heap.size,0,none⟩) hlt1).trans (blkc HX1.out rfl),(hb.cell (p:=⟨w.heap.size,1,none⟩) hlt1).trans (blkc HX1.out rfl)⟩)
 have HC1:=ξh (fun(w':World) (hb:Below w2.heap.size w2 w')=>HS1.2.2 w' (HB2.trans (hb.mono HB2.size)))
 have HC2:=ξh (fun(w':World) (hb:Below w2.heap.size w2 w')=>HS2.2.2 w' (HB2.trans (hb.mono HB2.size)))
 have HN1':=ξh HS1.1
 have HN2':=ξh HS2.1
 have HL1:=ξh HS1.2.1
 have HL2:=ξh HS2.2.1
 have HST:=ξh (fun(w':World) (hb:Below w2.heap.size w2 w') (a b:Value)=>show((w'.setCell ⟨w.heap.size+1,0,none⟩ a).setCell ⟨w.heap.size+1,1,none⟩ b).cell? ⟨w.heap.size,0,none⟩=some (.slice a1 m1 c1)∧((w'.setCell ⟨w.heap.size+1,0,none⟩ a).setCell ⟨w.heap.size+1,1,none⟩ b).cell? ⟨w.heap.size,1,none⟩=some (.slice a2 m2 c2) from by
  obtain⟨h1,h2⟩:=HS.out w' hb
  refine⟨?_,?_⟩
  · rw[World.cell?_setCell_other _ _ _ _ (by simp),World.cell?_setCell_other _ _ _ _ (by simp)];exact h1
  · rw[World.cell?_setCell_other _ _ _ _ (by simp),World.cell?_setCell_other _ _ _ _ (by simp)];exact h2)
 have hb0:=(ξb w2.heap.size w2).drew
 go_region_held3 (fun w'=>w'.cell? ⟨w.heap.size,0,none⟩=some (.slice a1 m1 c1)∧w'.cell? ⟨w.heap.size,1,none⟩=some (.slice a2 m2 c2))
  (first | exact HS.out _ hb0 | exact HS.out _ bel1 | exact HS.out _ bel2 | exact HS.out _ B10 | exact HS.out _ B5 | exact HS.out _ (B5.alloc B5.size _) | exact HST.out _ B10 _ _)
  (first
    | ((refine step_of_list rfl ?_);(with_reducible show wpList _ _ _ (⟨some 6,_,_,_,_,_⟩::_) _ _);(go_loud (refine wpList_catG rfl (.tmp 3) (.tmp 5) 22 9 rfl Tryz.underlying22 (.string ⟨#[]⟩) 1 16 Tryz.infoStrD rfl (by decide) w2.heap.size (.slice (some ⟨_,0,none⟩) 0 0) 0 [] (by rfl) (by first | exact row_made1 | exact row_made2 | exact row_made3) a1 m1 c1 ys1 (by rfl) HL1.out HN1'.out (HC1.out _ (by first | exact bel1 | exact bel2)) HE1.out (by unfold maxLen;omega) (by omega) (by first | exact bel1.size | exact bel2.size) ?_));(intro v5 w5 o5 g5 l5);(obtain⟨e5,f5,rfl⟩:=row_form0 o5);(have B5:Below w2.heap.size w2 w5:=Below.grown (by first | exact bel1 | exact bel2) g5 (by first | exact bel1.size | exact bel2.size) (fun q hq=>(by have hq2:=ξo hq;rw[←hq2];first | exact ξr _ | exact Nat.le_succ _)));(have NN5:=fun c h1 h2=>g5.block c h1 h2);(unfold wpList);(refine⟨rfl,?_⟩))
    | ((refine step_of_list rfl ?_);(with_reducible show wpList _ _ _ (⟨some 10,_,_,_,_,_⟩::_) _ _);(go_loud (refine wpList_catG rfl (.tmp 7) (.tmp 9) 33 146 rfl Tryz.underlying33 (.agg #[.int .i64 0,.int .i64 0,.int .i64 0,.int .i64 0]) 4 32 Tryz.infoFib rfl (by decide) w2.heap.size (.slice (some ⟨_,0,none⟩) 0 0) 0 [] (by rfl) (by first | exact World.ownsRow_made (base:=w2.heap.size) w5 #[] 0 B5.size (ξu _) (by simp) | exact mk_kept3 g5 | exact mk_kept2 g5) a2 m2 c2 ys2 (by rfl) HL2.out HN2'.out (HC2.out _ (by first | exact B5 | exact B5.alloc B5.size _)) HE2.out (by unfold maxLen;omega) (by omega) (by first | exact B5.size | exact size_alloc B5.size) ?_));(intro v10 w10 o10 g10 l10);(obtain⟨e10,f10,rfl⟩:=row_form0 o10);(have B10:Below w2.heap.size w2 w10:=Below.grown (by first | exact B5 | exact B5.alloc B5.size _) g10 (by first | exact B5.size | exact size_alloc B5.size) (fun q hq=>(by have hq2:=ξo hq;rw[←hq2];first | exact ξr _ | exact Nat.le_succ _ | exact B5.size)));(have x10:=ξA HX2.out B10);(have z0:=blkc x10 (show _=some (Value.slice none 0 0) from rfl) (j:=0));(have z1:=blkc x10 (show _=some (Value.slice none 0 0) from rfl) (j:=1));(have f0:w10.frozen? ⟨w.heap.size+1,0,none⟩=false:=(by simp only[World.frozen?,x10];rfl));(have f1:w10.frozen? ⟨w.heap.size+1,1,none⟩=false:=(by simp only[World.frozen?,x10];rfl));(unfold wpList);(refine⟨rfl,?_⟩)))
 all_goals
  have H:=two_rows o5 (by first | exact ξb _ _ | exact(ξb _ _).alloc (ξr _) _) g10 l10 l5 (by first | exact .inr (ξr _) | (left;constructor <;> simp <;> omega) | (left;constructor <;> simp))
  have HH:=ξh (CpyP.of (n:=n) HB2.out HZ2.out B10 (HD1.out _ _ _ H.1) (HD2.out _ _ _ o10) H.2)
  clear H o5 o10 g5 g10 l5 l10 B5 B10 NN5
  go_wp2_with fail
  rw[HNP.out]
  exact bodyPost_ret (v:= .agg #[.slice e5 (0+m1) f5,.slice e10 (0+m2) f10]) (by simp[results,Tryz.results162,go_sem,z0,z1]) rfl (by simpa using HH.out)
theorem l2Own_any (u1 u2:Value) (n:Net) (w:World) (h:NetR w (.agg #[u1,u2]) n) (h1:n.ns.length≤1048576) (h2:n.fs.length≤1048576):
 Calls Tryz.prog 102 #[.agg #[u1,u2]] w (CpyP n w):=by
 obtain⟨x1,x2,e,r1,r2,hsm⟩:=h
 simp only[Value.agg.injEq,Array.mk.injEq,List.cons.injEq,and_true] at e
 obtain⟨rfl,rfl⟩:=e
 obtain⟨a1,m1,c1,rfl,HN1,-,hm1,-⟩:=ξC (m:=1) (enc:=strE) (fun _=>rfl) (by omega) nilS r1
 obtain⟨a2,m2,c2,rfl,HN2,-,hm2,-⟩:=ξC (m:=4) (enc:=fibE) (fun _=>rfl) (by omega) nilB r2
 have HS1:=ξh (src_flt (enc:=strE) (m:=1) (fun _=>rfl) (by omega) r1 HN1.out)
 have HS2:=ξh (src_flt (enc:=fibE) (m:=4) (fun _=>rfl) (by omega) r2 HN2.out)
 have hl1:m1≤1048576:=by have:=HN1.out;omega
 have hl2:m2≤1048576:=by have:=HN2.out;omega
 have HD1:=ξh (show∀w' b v,w'.ownsRow b 9 1 v (0+m1) ([]++n.ns.flatMap strE)→ ∃fp,Odt w' (flt 1 strE n.ns) v fp∧fp.Nodup∧ ∀k∈fp,b≤k∧k<w'.heap.size∧v.ownBlock=some k from fun w' b v hh=>ξaO hh)
 have HD2:=ξh (show∀w' b v,w'.ownsRow b 146 4 v (0+m2) ([]++n.fs.flatMap fibE)→ ∃fp,Odt w' (flt 4 fibE n.fs) v fp∧fp.Nodup∧ ∀k∈fp,b≤k∧k<w'.heap.size∧v.ownBlock=some k from fun w' b v hh=>ξaO hh)
 have HE1:=ξh (show∀u∈n.ns.flatMap strE,u.oneCell'=true from fun u hu=>by
  obtain⟨s,-,hs⟩:=List.mem_flatMap.1 hu
  simp only[strE,List.mem_singleton] at hs
  subst hs;rfl)
 have HE2:=ξh (show∀u∈n.fs.flatMap fibE,u.oneCell'=true from fun u hu=>fbs_one u hu)
 obtain⟨NP,hNP⟩:∃NP,NP=CpyP n w:=⟨_,rfl⟩
 rw[←hNP]
 have HNP:=ξh hNP
 have b1:=(ξb w.heap.size w).alloc (ξr _) (.cells #[.slice a1 m1 c1,.slice a2 m2 c2] 35)
 have b2:=b1.alloc b1.size (.cells #[.slice none 0 0,.slice none 0 0] 35)
 have HB2:=ξh b2
 have HX1:=ξh (show((w.alloc (.cells #[.slice a1 m1 c1,.slice a2 m2 c2] 35)).alloc (.cells #[.slice none 0 0,.slice none 0 0] 35)).heap[w.heap.size]?= some (.cells #[.slice a1 m1 c1,.slice a2 m2 c2] 35 (0,0)) from(heap_alloc_old _ _ (by simp)).trans (ξn w _))
 have HX2:=ξh (show((w.alloc (.cells #[.slice a1 m1 c1,.slice a2 m2 c2] 35)).alloc (.cells #[.slice none 0 0,.slice none 0 0] 35)).heap[w.heap.size+1]?= some (.cells #[.slice none 0 0,.slice none 0 0] 35 (0,0)) from by have:=ξn (w.alloc (.cells #[.slice a1 m1 c1,.slice a2 m2 c2] 35)) (.cells #[.slice none 0 0,.slice none 0 0] 35);simpa using this)
 have HZ2:=ξh (show((w.alloc (.cells #[.slice a1 m1 c1,.slice a2 m2 c2] 35)).alloc (.cells #[.slice none 0 0,.slice none 0 0] 35)).heap.size=w.heap.size+2 by simp)
 generalize n.ns.flatMap strE=ys1 at *
 generalize n.fs.flatMap fibE=ys2 at *
 clear b1 b2 r1 r2 hsm h1 h2 hNP
 go_enter Tryz.func102,Tryz.ntmps102
 go_upto_region 1 with fail
 generalize ((w.alloc (.cells #[.slice a1 m1 c1,.slice a2 m2 c2] 35)).alloc (.cells #[.slice none 0 0,.slice none 0 0] 35))=w2 at *
 have hlt1:w.heap.size<w2.heap.size:=by have:=HZ2.out;omega
 have hlt2:w.heap.size+1<w2.heap.size:=by have:=HZ2.out;omega
 have HS:=ξh (fun(w':World) (hb:Below w2.heap.size w2 w')=>show w'.cell? ⟨w.heap.size,0,none⟩=some (.slice a1 m1 c1)∧w'.cell? ⟨w.heap.size,1,none⟩=some (.slice a2 m2 c2) from
  ⟨(hb.cell (p:=⟨w.heap.size,0,none⟩) hlt1).trans (blkc HX1.out rfl),(hb.cell (p:=⟨w.heap.size,1,none⟩) hlt1).trans (blkc HX1.out rfl)⟩)
 have HC1:=ξh (fun(w':World) (hb:Below w2.heap.size w2 w')=>HS1.2.2 w' (HB2.trans (hb.mono HB2.size)))
 have HC2:=ξh (fun(w':World) (hb:Below w2.heap.size w2 w')=>HS2.2.2 w' (HB2.trans (hb.mono HB2.size)))
 have HN1':=ξh HS1.1
 have HN2':=ξh HS2.1
 have HL1:=ξh HS1.2.1
 have HL2:=ξh HS2.2.1
 have HST:=ξh (fun(w':World) (hb:Below w2.heap.size w2 w') (a b:Value)=>show((w'.setCell ⟨w.heap.size+1,0,none⟩ a).setCell ⟨w.heap.size+1,1,none⟩ b).cell? ⟨w.heap.size,0,none⟩=some (.slice a1 m1 c1)∧((w'.setCell ⟨w.heap.size+1,0,none⟩ a).setCell ⟨w.heap.size+1,1,none⟩ b).cell? ⟨w.heap.size,1,none⟩=some (.slice a2 m2 c2) from by
  obtain⟨h1,h2⟩:=HS.out w' hb
  refine⟨?_,?_⟩
  · rw[World.cell?_setCell_other _ _ _ _ (by simp),World.cell?_setCell_other _ _ _ _ (by simp)];exact h1
  · rw[World.cell?_setCell_other _ _ _ _ (by simp),World.cell?_setCell_other _ _ _ _ (by simp)];exact h2)
 have hb0:=(ξb w2.heap.size w2).drew
 go_region_held3 (fun w'=>w'.cell? ⟨w.heap.size,0,none⟩=some (.slice a1 m1 c1)∧w'.cell? ⟨w.heap.size,1,none⟩=some (.slice a2 m2 c2))
  (first | exact HS.out _ hb0 | exact HS.out _ bel1 | exact HS.out _ bel2 | exact HS.out _ B10 | exact HS.out _ B5 | exact HS.out _ (B5.alloc B5.size _) | exact HST.out _ B10 _ _)
  (first
    | ((refine step_of_list rfl ?_);(with_reducible show wpList _ _ _ (⟨some 6,_,_,_,_,_⟩::_) _ _);(go_loud (refine wpList_catG rfl (.tmp 3) (.tmp 5) 22 9 rfl Tryz.underlying22 (.string ⟨#[]⟩) 1 16 Tryz.infoStrD rfl (by decide) w2.heap.size (.slice (some ⟨_,0,none⟩) 0 0) 0 [] (by rfl) (by first | exact row_made1 | exact row_made2 | exact row_made3) a1 m1 c1 ys1 (by rfl) HL1.out HN1'.out (HC1.out _ (by first | exact bel1 | exact bel2)) HE1.out (by unfold maxLen;omega) (by omega) (by first | exact bel1.size | exact bel2.size) ?_));(intro v5 w5 o5 g5 l5);(obtain⟨e5,f5,rfl⟩:=row_form0 o5);(have B5:Below w2.heap.size w2 w5:=Below.grown (by first | exact bel1 | exact bel2) g5 (by first | exact bel1.size | exact bel2.size) (fun q hq=>(by have hq2:=ξo hq;rw[←hq2];first | exact ξr _ | exact Nat.le_succ _)));(have NN5:=fun c h1 h2=>g5.block c h1 h2);(unfold wpList);(refine⟨rfl,?_⟩))
    | ((refine step_of_list rfl ?_);(with_reducible show wpList _ _ _ (⟨some 10,_,_,_,_,_⟩::_) _ _);(go_loud (refine wpList_catG rfl (.tmp 7) (.tmp 9) 33 146 rfl Tryz.underlying33 (.agg #[.int .i64 0,.int .i64 0,.int .i64 0,.int .i64 0]) 4 32 Tryz.infoFib rfl (by decide) w2.heap.size (.slice (some ⟨_,0,none⟩) 0 0) 0 [] (by rfl) (by first | exact World.ownsRow_made (base:=w2.heap.size) w5 #[] 0 B5.size (ξu _) (by simp) | exact mk_kept3 g5 | exact mk_kept2 g5) a2 m2 c2 ys2 (by rfl) HL2.out HN2'.out (HC2.out _ (by first | exact B5 | exact B5.alloc B5.size _)) HE2.out (by unfold maxLen;omega) (by omega) (by first | exact B5.size | exact size_alloc B5.size) ?_));(intro v10 w10 o10 g10 l10);(obtain⟨e10,f10,rfl⟩:=row_form0 o10);(have B10:Below w2.heap.size w2 w10:=Below.grown (by first | exact B5 | exact B5.alloc B5.size _) g10 (by first | exact B5.size | exact size_alloc B5.size) (fun q hq=>(by have hq2:=ξo hq;rw[←hq2];first | exact ξr _ | exact Nat.le_succ _ | exact B5.size)));(have x10:=ξA HX2.out B10);(have z0:=blkc x10 (show _=some (Value.slice none 0 0) from rfl) (j:=0));(have z1:=blkc x10 (show _=some (Value.slice none 0 0) from rfl) (j:=1));(have f0:w10.frozen? ⟨w.heap.size+1,0,none⟩=false:=(by simp only[World.frozen?,x10];rfl));(have f1:w10.frozen? ⟨w.heap.size+1,1,none⟩=false:=(by simp only[World.frozen?,x10];rfl));(unfold wpList);(refine⟨rfl,?_⟩)))
 all_goals
  have H:=two_rows o5 (by first | exact ξb _ _ | exact(ξb _ _).alloc (ξr _) _) g10 l10 l5 (by first | exact .inr (ξr _) | (left;constructor <;> simp <;> omega) | (left;constructor <;> simp))
  have HH:=ξh (CpyP.of (n:=n) HB2.out HZ2.out B10 (HD1.out _ _ _ H.1) (HD2.out _ _ _ o10) H.2)
  clear H o5 o10 g5 g10 l5 l10 B5 B10 NN5
  go_wp2_with fail
  rw[HNP.out]
  exact bodyPost_ret (v:= .agg #[.slice e5 (0+m1) f5,.slice e10 (0+m2) f10]) (by simp[results,Tryz.results102,go_sem,z0,z1]) rfl (by simpa using HH.out)
/-! ### Plans -/
def PlnO (w:World) (p:Pln) (v:Value) (fp:List Nat):Prop:=∃u1 u2 u3 f1 f2 f3,v= .agg #[u1,u2,u3]∧Odt w (flt 1 strE p.n.ns) u1 f1∧Odt w (flt 4 fibE p.n.fs) u2 f2∧Odt w (rws 5 lgtD p.ls) u3 f3∧fp=(f1++f2)++f3
theorem PlnO.rd {w:World} {p:Pln} {v:Value} {fp:List Nat} (h:PlnO w p v fp) (hs:NetSm p.n):PlnR w v p:=by
 obtain⟨u1,u2,u3,f1,f2,f3,e,h1,h2,h3,_⟩:=h;exact⟨u1,u2,u3,e,h1.rd,h2.rd,h3.rd,hs⟩
theorem PlnO.behind {w w':World} {p:Pln} {v:Value} {fp:List Nat} (h:PlnO w p v fp) (hb:Below w.heap.size w w'):PlnO w' p v fp:=by
 obtain⟨u1,u2,u3,f1,f2,f3,e,h1,h2,h3,e2⟩:=h;exact⟨u1,u2,u3,f1,f2,f3,e,h1.behind hb,h2.behind hb,h3.behind hb,e2⟩
open Go.RowKit
section
variable {P : Program} {ops : Array Oper} {Q : Exit → Act → World → Prop} {md : Region.Mode} {S : World → Prop} {U : List Nat}
def lft (U:List Nat) (listed:Array Bool):Bool:=U.any fun k=>!listed.getD k true
def waits (md:Region.Mode) (ops:Array Oper) (U:List Nat) (listed:Array Bool) (i:Nat):Bool:=U.any fun m=>!listed.getD m true&&m != i&&((ops[m]?).map (·.after.any fun e=>Region.binds md e&&e.on==i)).getD false
theorem lft_of {listed:Array Bool} {m:Nat} (hm:m∈U) (hl:listed.getD m true=false):lft U listed=true:=by
 unfold lft
 exact List.any_eq_true.2 ⟨m,hm,by rw[hl];rfl⟩
theorem waits_iff {listed:Array Bool} {i:Nat} :waits md ops U listed i=true↔ ∃m om,m∈U∧ops[m]?= some om∧m≠i∧listed.getD m true=false∧ ∃e∈om.after,Region.binds md e=true∧e.on=i:=by
 unfold waits
 rw[List.any_eq_true]
 constructor
 · rintro⟨m,h1,h2⟩
   simp only[Bool.and_eq_true,Bool.not_eq_true',bne_iff_ne,ne_eq] at h2
   obtain⟨⟨h3,h4⟩,h5⟩:=h2
   cases ho:ops[m]? with
   | none=>rw[ho] at h5;cases h5
   | some om=>
     rw[ho] at h5
     obtain⟨e,he,hb⟩:=Array.any_eq_true'.1 (show om.after.any (fun e=>Region.binds md e&&e.on==i)=true from h5)
     simp only[Bool.and_eq_true,beq_iff_eq] at hb
     exact⟨m,om,h1,ho,h4,h3,e,he,hb.1,hb.2⟩
 · rintro⟨m,om,h1,ho,h4,h3,e,he,hb1,hb2⟩
   refine⟨m,h1,?_⟩
   simp only[Bool.and_eq_true,Bool.not_eq_true',bne_iff_ne,ne_eq]
   refine⟨⟨h3,h4⟩,?_⟩
   rw[ho]
   show om.after.any (fun e=>Region.binds md e&&e.on==i)=true
   exact Array.any_eq_true'.2 ⟨e,he,by simp[hb1,hb2]⟩
def ξao (P:Program) (md:Region.Mode) (ops:Array Oper) (U:List Nat) (Q:Exit→Act→World→Prop) (S:World→Prop):Nat→Array Bool→Act→World→Prop
 | 0,listed,a,w=>Region.ready md ops listed=[]∧Q .normal a w
 | fuel+1,listed,a,w=>
   (Region.ready md ops listed=[]→Q .normal a w)∧
   ∀i∈Region.ready md ops listed,wpOp P ops Q i (fun a' w'=>(lft U (listed.setIfInBounds i true)=true→S w')∧ξao P md ops U Q S fuel (listed.setIfInBounds i true) a' w') a w
theorem wpAny_of_L:∀(fuel:Nat) (listed:Array Bool) (a:Act) (w:World),ξao P md ops U Q S fuel listed a w→wpAny P md ops Q fuel listed a w
 | 0,_,_,_,h=>h
 | fuel+1,_,_,_,h=>⟨h.1,fun i hi=>wpOp_mono (fun a' w' h'=>wpAny_of_L fuel _ a' w' h'.2) (h.2 i hi)⟩
theorem wpAnyL_first {i:Nat} {oi:Oper} {v:Value} (hi:ops[i]?= some oi) (hsel:∀(j:Nat) (o:Oper) cs b,ops[j]?= some o→o.op≠ .select cs b)
 (hQ:∀c a w,Q (.panic c) (a.put oi.dst v) w→Q (.panic c) a w):
 ∀(fuel:Nat) (listed:Array Bool) (a:Act) (w:World),
  (∀j oj,ops[j]?= some oj→j≠i→listed.getD j true=false→(∀e∈oj.after,Region.binds md e=true→e.on≠i)→oi.apart ops oj=true)→
  i∈Region.ready md ops listed→waits md ops U listed i=true→YieldsIf P ops S oi v a→S w→
  ξao P md ops U Q S fuel (listed.setIfInBounds i true) (a.put oi.dst v) w→ξao P md ops U Q S (fuel+1) listed a w:=by
 intro fuel
 induction fuel with
 | zero=>
   intro listed a w _ hr _ hy hS H
   refine⟨fun h=>(by rw[h] at hr;cases hr),fun j hj=> ?_⟩
   by_cases hji:j=i
   · subst hji;exact hy.wpOp hi hS ⟨fun _=>hS,H⟩
   · have:=ready_mono hj hji
     rw[H.1] at this
     cases this
 | succ fuel ih=>
   intro listed a w hfree hr hwt hy hS H
   refine⟨fun h=>(by rw[h] at hr;cases hr),fun j hj=> ?_⟩
   by_cases hji:j=i
   · subst hji;exact hy.wpOp hi hS ⟨fun _=>hS,H⟩
   · have h1:=H.2 j (ready_mono hj hji)
     obtain⟨hjun,oj,hoj,hall⟩:=mem_ready.1 hj
     have hnot:∀e∈oj.after,Region.binds md e=true→e.on≠i:=fun e he hb heq=>by
      have h1:=hall e he hb
      have h0:=(mem_ready.1 hr).1
      rw[heq] at h1
      rcases Nat.lt_or_ge i listed.size with h' | h'
      · simp[h'] at h0 h1;rw[h0] at h1;cases h1
      · simp[Array.getElem?_eq_none h'] at h1
     have h2:=wpOp_putIf hoj (hfree j oj hoj hji hjun hnot) (fun cs b=>hsel i oi cs b hi) (fun cs b=>hsel j oj cs b hoj) hQ hy h1
     have hfree':∀k ok,ops[k]?= some ok→k≠i→(listed.setIfInBounds j true).getD k true=false→
      (∀e∈ok.after,Region.binds md e=true→e.on≠i)→oi.apart ops ok=true:=fun k ok hk hki hun hno=>by
      refine hfree k ok hk hki ?_ hno
      by_cases hjk:j=k
      · subst hjk;exact hjun
      · rw[getD_set_ne true hjk] at hun;exact hun
     obtain⟨m,om,hmU,hom,hmi,hml,e,he,hb1,hb2⟩:=waits_iff.1 hwt
     have hmj:j≠m:=fun h=>by
      subst h
      rw[hoj] at hom
      cases hom
      exact hnot e he hb1 hb2
     have hml2:(listed.setIfInBounds j true).getD m true=false:=by rw[getD_set_ne true hmj];exact hml
     have hwt2:waits md ops U (listed.setIfInBounds j true) i=true:=waits_iff.2 ⟨m,om,hmU,hom,hmi,hml2,e,he,hb1,hb2⟩
     have hl2:lft U ((listed.setIfInBounds i true).setIfInBounds j true)=true:=
      lft_of hmU (by rw[getD_set_ne true hmj,getD_set_ne true (Ne.symm hmi)];exact hml)
     refine wpOp_mono (fun a' w' h3=>⟨fun _=>h3.2.1 hl2,ih (listed.setIfInBounds j true) a' w' hfree' (ready_mono hr (Ne.symm hji)) hwt2 h3.1 (h3.2.1 hl2) ?_⟩) h2
     rw[Array.setIfInBounds_comm _ _ hji]
     exact h3.2.2
theorem ξbc {i:Nat} {o:Oper} {tl:List Oper} (h:ops.toList.drop i=o::tl):ops[i]?= some o:=by
 have:(ops.toList.drop i)[0]?= some o:=by rw[h];rfl
 rw[List.getElem?_drop,Nat.add_zero] at this
 simpa using this
theorem hlTake (i:Nat) {oi:Oper} {v:Value} {fuel:Nat} {listed:Array Bool} {a:Act} {w:World} {tl:List Oper} (hi:ops.toList.drop i=oi::tl)
 (hs:Region.noSelect ops=true) (hf:Region.free md ops listed i=true) (hr:(Region.ready md ops listed).contains i=true) (hwt:waits md ops U listed i=true)
 (hQ:∀c a w,Q (.panic c) (a.put oi.dst v) w→Q (.panic c) a w) (hw:Region.wanted oi (yielded ops a.tmps)=true) (hy:∀w,S w→(execOp a.eval oi).run P w= .ok (.value v) w) (hS:S w)
 (h:ξao P md ops U Q S fuel (listed.setIfInBounds i true) (a.put oi.dst v) w):ξao P md ops U Q S (fuel+1) listed a w:=
 wpAnyL_first (ξbc hi) (Region.noSelect_spec hs) hQ fuel listed a w (Region.free_spec (ξbc hi) hf) (by simpa using hr) hwt (.inl ⟨hw,hy⟩) hS h
def AllReadyL (P:Program) (md:Region.Mode) (ops:Array Oper) (U:List Nat) (Q:Exit→Act→World→Prop) (S:World→Prop) (fuel:Nat) (listed:Array Bool) (a:Act) (w:World) (rs:List Nat):Prop:=
 ∀i∈rs,wpOp P ops Q i (fun a' w'=>(lft U (listed.setIfInBounds i true)=true→S w')∧ξao P md ops U Q S fuel (listed.setIfInBounds i true) a' w') a w
theorem AllReadyL.nil {fuel:Nat} {listed:Array Bool} {a:Act} {w:World} :AllReadyL P md ops U Q S fuel listed a w []:=fun _ h=>by cases h
theorem AllReadyL.cons {fuel:Nat} {listed:Array Bool} {a:Act} {w:World} {i:Nat} {o:Oper} {rs:List Nat} {tl:List Oper} (ho:ops.toList.drop i=o::tl)
 (h:∀K':Act→World→Prop,Shut (∀a w,S w→(S w→ξao P md ops U Q S fuel (listed.setIfInBounds i true) a w)→K' a w)→if Region.wanted o (yielded ops a.tmps)=true then Oper.wp P o a w K' Q else K' (a.put o.dst undef) w)
 (hs:AllReadyL P md ops U Q S fuel listed a w rs):AllReadyL P md ops U Q S fuel listed a w (i::rs):=fun j hj=>by
 rcases List.mem_cons.1 hj with rfl | hj
 · exact wpOp_step (ξbc ho) (fun K' hK=>h K' (fun a w hS hW=>hK a w ⟨fun _=>hS,hW hS⟩))
 · exact hs j hj
theorem ξB {rs:List Nat} {fuel:Nat} {listed:Array Bool} {a:Act} {w:World} (hr:Region.ready md ops listed=rs) (hne:rs≠[])
 (h:AllReadyL P md ops U Q S fuel listed a w rs):ξao P md ops U Q S (fuel+1) listed a w:=
 ⟨fun h0=>absurd (hr▸h0) hne,hr▸h⟩
theorem ξG (i:Nat) {fuel:Nat} {listed:Array Bool} {a:Act} {w:World} {o:Oper} {tl:List Oper} (ho:ops.toList.drop i=o::tl) (hr:Region.ready md ops listed=[i]) (hl:lft U (listed.setIfInBounds i true)=false)
 (h:∀K':Act→World→Prop,Shut (∀a w,ξao P md ops U Q S fuel (listed.setIfInBounds i true) a w→K' a w)→if Region.wanted o (yielded ops a.tmps)=true then Oper.wp P o a w K' Q else K' (a.put o.dst undef) w):ξao P md ops U Q S (fuel+1) listed a w:=
 ξB hr (by simp) fun j hj=>by
  obtain rfl:j=i:=by simpa using hj
  exact wpOp_step (ξbc ho) (fun K' hK=>h K' (fun a w hW=>hK a w ⟨fun h=>(by rw[hl] at h;cases h),hW⟩))
theorem ξS {listed:Array Bool} {a:Act} {w:World} (hr:Region.ready md ops listed=[]) (h:Q .normal a w):∀fuel,ξao P md ops U Q S fuel listed a w
 | 0=>⟨hr,h⟩
 | _+1=>⟨fun _=>h,by rw[hr];simp⟩
theorem ξH (U:List Nat) {id:Nat} {a:Act} {w:World} (hm:P.follows .mixedOrders=true) (hS:S w.drew)
 (h:S w.drew→ξao P .any ops U Q S ops.size (Array.replicate ops.size false) a w.drew):(Code.region id ops true).wp P Q a w:=
 wp_region_any hm (wpAny_of_L _ _ _ _ (h hS))
end
section
variable {P : Program} {ops : Array Oper} {Q : Exit → Act → World → Prop} {md : Region.Mode} {S : World → Prop} {U : List Nat}
theorem hlE (i:Nat) {oi:Oper} {fuel:Nat} {listed:Array Bool} {a:Act} {w:World} {tl:List Oper} (hi:ops.toList.drop i=oi::tl) (hS:S w)
 (h:∃v,(∀w,S w→(execOp a.eval oi).run P w= .ok (.value v) w)∧ξao P md ops U Q S fuel (listed.setIfInBounds i true) (a.put oi.dst v) w)
 (hw:Region.wanted oi (yielded ops a.tmps)=true:=by rfl) (hs:Region.noSelect ops=true:=by kernel_rfl) (hf:Region.free md ops listed i=true:=by kernel_rfl) (hr:(Region.ready md ops listed).contains i=true:=by kernel_rfl) (hwt:waits md ops U listed i=true:=by kernel_rfl)
 (hQ:∀v c a w,Q (.panic c) (a.put oi.dst v) w→Q (.panic c) a w:=by exact fun _ _ _ _ h=>h):ξao P md ops U Q S (fuel+1) listed a w:=by
 obtain⟨v,hy,h⟩:=h
 exact hlTake i hi hs hf hr hwt (hQ v) hw hy hS h
theorem hlF (i:Nat) {oi:Oper} {fuel:Nat} {listed:Array Bool} {a:Act} {w:World} {tl:List Oper} {v:Value} (hi:ops.toList.drop i=oi::tl) (hS:S w)
 (h:ξao P md ops U Q S fuel (listed.setIfInBounds i true) (a.put oi.dst v) w)
 (hy:∀w,S w→(execOp a.eval oi).run P w= .ok (.value v) w:=by intro w hSw;(try dsimp only at hSw);go_simp;try with_reducible rfl)
 (hw:Region.wanted oi (yielded ops a.tmps)=true:=by rfl) (hs:Region.noSelect ops=true:=by kernel_rfl) (hf:Region.free md ops listed i=true:=by kernel_rfl) (hr:(Region.ready md ops listed).contains i=true:=by kernel_rfl) (hwt:waits md ops U listed i=true:=by kernel_rfl)
 (hQ:∀v c a w,Q (.panic c) (a.put oi.dst v) w→Q (.panic c) a w:=by exact fun _ _ _ _ h=>h):ξao P md ops U Q S (fuel+1) listed a w:=
 hlTake i hi hs hf hr hwt (hQ v) hw hy hS h
theorem hlA {α:Type} (l:List α) (i:Nat) (a:α):l.toArray.setIfInBounds i a=(l.set i a).toArray:=List.setIfInBounds_toArray ..
theorem hlB {α:Type} {x:α} {xs:List α} {a:α} :(x::xs).set 0 a=a::xs:=List.set_cons_zero
theorem hlC {α:Type} {x:α} {xs:List α} {n:Nat} {a:α} :(x::xs).set (n+1) a=x::xs.set n a:=List.set_cons_succ
end
theorem ξca (v:Value) (st:Int) (fb:List Int) (w:World) (h:Rd w v fb) (hl:fb.length≤1000000):
 Calls Tryz.prog 160 #[.agg #[.int .i64 st,v]] w fun e w'=>∃v',e= .returned (.agg #[.int .i64 st,v'])∧Own w' w.heap.size v' fb∧Below w.heap.size w w':=by
 obtain⟨NP,hNP⟩:∃NP:Ending→World→Prop,NP=fun e w'=>∃v',e= .returned (.agg #[.int .i64 st,v'])∧Own w' w.heap.size v' fb∧Below w.heap.size w w':=⟨_,rfl⟩
 rw[←hNP]
 obtain⟨a,cap,hv,hcap,hnone,-⟩:=ξaI h
 have hlx:(ints fb).length=fb.length:=by simp[ints]
 have HO:=ξh (show∀u∈ints fb,u.oneCell'=true from fun u hu=>by obtain⟨z,-,rfl⟩:=List.mem_map.1 hu;rfl)
 subst hv
 have HC:=ξh (fun(w':World) (hb:Below w.heap.size w w')=>(h.belowAll hb).cellsOf)
 obtain⟨m,hm⟩:∃m,m=fb.length:=⟨_,rfl⟩
 rw[←hm] at hlx hcap hnone hl ⊢
 have HM:=ξh hm
 have HL:=ξh hlx
 have HN:=ξh hnone
 generalize hys:ints fb=ys at *
 have HY:=ξh hys
 clear h hlx hm hnone hys
 have b1:=(ξb w.heap.size w).alloc (ξr _) (.cells #[.int .i64 st,.slice a m cap] 82)
 have b2:=b1.alloc b1.size (.cells #[.int .i64 0,.slice none 0 0] 82)
 have k0:=ξn w (.cells #[.int .i64 st,.slice a m cap] 82)
 have k0':=(heap_alloc_old _ (.cells #[.int .i64 0,.slice none 0 0] 82) (ξa k0).1).trans k0
 have k1:=ξn (w.alloc (.cells #[.int .i64 st,.slice a m cap] 82)) (.cells #[.int .i64 0,.slice none 0 0] 82)
 rw[show(w.alloc (.cells #[.int .i64 st,.slice a m cap] 82)).heap.size=w.heap.size+1 by simp] at k1
 have HB2:=ξh b2
 have K0:=ξh k0'
 have K1:=ξh k1
 have HNP:=ξh hNP
 have HZ:=ξh (show((w.alloc (.cells #[.int .i64 st,.slice a m cap] 82)).alloc (.cells #[.int .i64 0,.slice none 0 0] 82)).heap.size=w.heap.size+1+1 by simp)
 clear b1 b2 k0 k0' k1 hNP
 go_enter Tryz.func160,Tryz.ntmps160
 go_upto_region 1 with fail
 generalize (w.alloc (.cells #[.int .i64 st,.slice a m cap] 82)).alloc (.cells #[.int .i64 0,.slice none 0 0] 82)=w2 at *
 have HSS:=ξh (fun(w':World) (hb:Below w2.heap.size w2 w')=>show w'.cell? ⟨w.heap.size,0,none⟩=some (.int .i64 st)∧w'.cell? ⟨w.heap.size,1,none⟩=some (.slice a m cap) from
  have h0:=ξA K0.out hb
  ⟨blkc h0 rfl,blkc h0 rfl⟩)
 refine ξH [0,1,2,3,4,5,6] (S:=fun w'=>w'.cell? ⟨w.heap.size,0,none⟩=some (.int .i64 st)∧w'.cell? ⟨w.heap.size,1,none⟩=some (.slice a m cap)) (by kernel_rfl) (HSS.out _ (ξb _ _).drew) (fun hH=> ?_)
 refine hlF 0 rfl hH ?_
 try simp only[Act.put,hlA,hlB,hlC]
 refine hlF 1 rfl hH ?_
 try simp only[Act.put,hlA,hlB,hlC]
 refine hlF 3 rfl hH ?_
 try simp only[Act.put,hlA,hlB,hlC]
 refine hlF 4 rfl hH ?_
 try simp only[Act.put,hlA,hlB,hlC]
 refine ξB (rs:=[2]) (by kernel_rfl) (by simp) ?_
 refine AllReadyL.cons rfl (fun KK hKK=> ?_) AllReadyL.nil
 go_simp
 have B5:=bel1 (w:=w2) (X:= .cells #[] 3)
 refine hKK.out _ _ (HSS.out _ B5) (fun hH=> ?_)
 clear hKK KK
 try simp only[Act.put,hlA,hlB,hlC]
 refine ξB (rs:=[5]) (by kernel_rfl) (by simp) ?_
 refine AllReadyL.cons rfl (fun KK hKK=> ?_) AllReadyL.nil
 refine step_of_list rfl ?_
 refine wpList_catG rfl (.tmp 5) (.tmp 7) 58 3 rfl Tryz.underlying58 (.int .i64 0) 1 8 Tryz.infoInt rfl (by decide) w2.heap.size (.slice (some ⟨w2.heap.size,0,none⟩) 0 0) 0 [] (by rfl) row_made1 a m cap ys (by rfl) (by rw[HL.out,Nat.mul_one]) (fun e=>by have:=HN.out e;omega) (HC.out _ (HB2.trans (B5.mono HB2.size))) HO.out (by unfold maxLen;omega) (by omega) B5.size ?_
 intro v8 w8 o8 g8 l8
 have B8:Below w2.heap.size w2 w8:=Below.grown B5 g8 B5.size (fun q hq=>by have hq2:w2.heap.size=q:=ξo hq;omega)
 unfold wpList
 refine⟨rfl,?_⟩
 refine hKK.out _ _ (HSS.out _ B8) (fun hH=> ?_)
 clear hKK KK
 try simp only[Act.put,hlA,hlB,hlC]
 obtain⟨a8,c8,rfl⟩:=rowf o8
 have x8:=ξA K1.out B8
 have f0:w8.frozen? ⟨w.heap.size+1,0,none⟩=false:=ξz _ _ _ _ _ x8
 have f1:w8.frozen? ⟨w.heap.size+1,1,none⟩=false:=ξz _ _ _ _ _ x8
 have y0:=blkc x8 (j:=0) rfl
 have y1:=blkc x8 (j:=1) rfl
 refine ξG 6 rfl (by kernel_rfl) (by kernel_rfl) (fun KK hKK=> ?_)
 go_simp
 refine hKK.out _ _ ?_
 clear hKK KK
 try simp only[Act.put,hlA,hlB,hlC]
 refine ξG 7 rfl (by kernel_rfl) (by kernel_rfl) (fun KK hKK=> ?_)
 go_simp
 refine hKK.out _ _ ?_
 clear hKK KK
 try simp only[Act.put,hlA,hlB,hlC]
 refine ξS (by kernel_rfl) ?_ _
 rotate_left 1
 have hz2:=HZ.out
 have q1:=ξe w8 (w.heap.size+1) 0 _ 82 (.int .i64 st) x8
 have q2:=ξe _ (w.heap.size+1) 1 _ 82 (.slice a8 m c8) q1
 have hown:=ξa4 (show w8.ownsRow w2.heap.size 3 1 (.slice a8 m c8) fb.length (ints fb) from by rw[HY.out,←HM.out];rw[Nat.zero_add] at o8;exact o8)
 have hset:∀k,k≠w.heap.size+1→((w8.setCell ⟨w.heap.size+1,0,none⟩ (.int .i64 st)).setCell ⟨w.heap.size+1,1,none⟩ (.slice a8 m c8)).heap[k]?= w8.heap[k]?:=fun k hk=>by
  rw[ξm _ ⟨w.heap.size+1,1,none⟩ k _ hk,ξm _ ⟨w.heap.size+1,0,none⟩ k _ hk]
 have HOW:=ξh (show Own ((w8.setCell ⟨w.heap.size+1,0,none⟩ (.int .i64 st)).setCell ⟨w.heap.size+1,1,none⟩ (.slice a8 m c8)) w.heap.size (.slice a8 m c8) fb from by
  have h1:=hown.mono (show w.heap.size≤w2.heap.size by omega)
  rcases h1 with h1 | ⟨g,off,cap,cur,h1,h2,⟨T,h3⟩,h4⟩
  · exact .inl h1
  · have hgl:=hown.lt g (by rw[h1];rfl)
    exact .inr ⟨g,off,cap,cur,h1,h2,⟨T,by rw[hset g (by omega)];exact h3⟩,h4⟩)
 have HBO:=ξh (show Below w.heap.size w ((w8.setCell ⟨w.heap.size+1,0,none⟩ (.int .i64 st)).setCell ⟨w.heap.size+1,1,none⟩ (.slice a8 m c8)) from by
  have hb:=HB2.trans (B8.mono HB2.size)
  exact⟨hb.os,hb.tape,hb.output,by simpa using hb.size,fun k hk=>by rw[hset k (by omega)];exact hb.block k hk⟩)
 generalize (w8.setCell ⟨w.heap.size+1,0,none⟩ (.int .i64 st)).setCell ⟨w.heap.size+1,1,none⟩ (.slice a8 m c8)=w9 at *
 have z0:=blkc q2 (j:=0) (u:= .int .i64 st) (by simp)
 have z1:=blkc q2 (j:=1) (u:= .slice a8 m c8) (by simp)
 clear hz2 q1 q2 hown hset o8 g8 l8 x8 f0 f1 y0 y1 B8 B5
 go_wp2_with fail
 rw[HNP.out]
 exact bodyPost_ret (v:= .agg #[.int .i64 st,.slice a8 m c8]) (by simp[results,Tryz.results160,go_sem,z0,z1]) rfl ⟨_,rfl,HOW.out,HBO.out⟩
end Go.Proofs.YtofcicomhnkocaaGreat
