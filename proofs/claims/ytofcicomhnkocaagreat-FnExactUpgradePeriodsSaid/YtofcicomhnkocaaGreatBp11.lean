/- Joined: XCpyP XCpyW XLpc XHle XCpl. -/
import Derived.Test.YtofcicomhnkocaaGreatBp07
import Derived.Test.YtofcicomhnkocaaGreatBp10
import Derived.Test.YtofcicomhnkocaaGreatBp06
import Derived.Test.YtofcicomhnkocaaGreatBp03
import Derived.Test.YtofcicomhnkocaaGreatBp02
import Derived.Deep.RegionLaw
import Derived.Deep.RegionHeld3
import Derived.ArgAppend
import Derived.Laws.AppendOwnNone
import Derived.StillTailTactics
import Derived.Lib.QuietBelow
import Derived.Test.YtofcicomhnkocaaGreatBp04
import Derived.Deep.CutRange
import Derived.Test.YtofcicomhnkocaaGreatBp08
import Derived.Test.YtofcicomhnkocaaGreatBp09
set_option linter.unusedVariables false
namespace Go.Proofs.YtofcicomhnkocaaGreat
set_option maxHeartbeats 6400000
open Go.RowKit Go.Sort
set_option maxRecDepth 100000
namespace Cpy
theorem upon_mono {P:Program} {o:Oper} {a:Act} {K K':Act→World→Prop} {Q Q':Exit→Act→World→Prop} (hK:∀a w,K a w→K' a w) (hQ:∀e a w,e≠ .normal→Q e a w→Q' e a w) {r} (h:o.upon P a K Q r):o.upon P a K' Q' r:=by
 unfold Oper.upon at h ⊢
 split at h
 all_goals first
  | exact hK _ _ h
  | exact hQ _ _ _ (by simp) h
  | exact h
  | (refine Calls.mono h ?_
     rintro e w' hh
     cases e
     · exact hK _ _ hh
     · exact hQ _ _ _ (by simp) hh
     · obtain⟨a2,w2,q⟩:=hh;exact⟨a2,w2,hQ _ _ _ (by simp) q⟩)
  | (refine Rows.mono h ?_
     intro v w' hh
     exact hK _ _ hh)
theorem step_of_list {P:Program} {ops:Array Oper} {o:Oper} {a:Act} {w:World} {K:Act→World→Prop} {Q:Exit→Act→World→Prop} {E:Prop} (hg:o.guard=none)
 (h:wpList P ops (fun e a' w'=>e= .normal∧K a' w') [o] a w):if Region.wanted o (yielded ops a.tmps)=true then Oper.wp P o a w K Q else E:=by
 have hw:Region.wanted o (yielded ops a.tmps)=true:=by simp[Region.wanted,hg]
 rw[if_pos hw]
 unfold wpList at h
 rw[if_pos hw] at h
 rcases h with h | ⟨-,a2,w2,h,-⟩
 · unfold Oper.wp at h ⊢
   refine upon_mono (fun a w hh=> ?_) (fun e a w hne hh=> ?_) h
   · unfold wpList at hh;exact hh.2
   · exact absurd hh.1 hne
 · cases h
section
variable {w : World} {X Y : Obj} {T : TypeId}
end
def fbs (fs:List Fib):List Value:=fs.flatMap fibE
theorem fbs_one {fs:List Fib} :∀u∈fbs fs,u.oneCell'=true:=fun u hu=>by
 unfold fbs at hu
 obtain⟨f,-,h⟩:=List.mem_flatMap.1 hu
 simp[fibE] at h
 rcases h with rfl | rfl | rfl | rfl <;> rfl
theorem wpList_catG {P:Program} {ops:Array Oper} {rest:List Oper} {o:Oper} {a:Act} {Q:Exit→Act→World→Prop} {w:World} (hgd:o.guard=none) (s x:Operand) (T e:TypeId)
 (ho:o.op= .call {callee:= .builtin .append,args:=#[s,x],argTypes:=#[T,T]}) (ht:P.underlying T=some (.slice e)) (z:Value) (size bytes:Nat)
 (hinfo:(P.info? e).map (fun i=>(i.zero,i.size,i.bytes))=some (some z,size,bytes)) (hzs:z.cells.size=size) (hsz:0<size)
 (base:Nat) (v:Value) (n:Nat) (xs:List Value) (hs:a.eval s=v) (hown:w.ownsRow base e size v n xs)
 (ao:Option Addr) (m c:Nat) (ys:List Value) (hx:a.eval x= .slice ao m c) (hm:ys.length=m*size) (hy:ao=none→m=0∧c=0) (hc:∀ad,ao=some ad→ ∀j u,ys[j]?= some u→w.cell? (ad.add j)=some u) (h1:∀u∈ys,u.oneCell'=true) (hn:n+m≤maxLen) (hby:(n+m)*bytes≤140737488355328) (hbase:base≤w.heap.size)
 (h:∀v' w',w'.ownsRow base e size v' (n+m) (xs++ys)→w.grownBy w' v.ownBlock→(v'.ownBlock=v.ownBlock∨v'.ownBlock=some w.heap.size)→wpList P ops Q rest (a.put o.dst v') w'):
 wpList P ops Q (o::rest) a w:=by
 obtain⟨i0,hi,hz0,hz1,hz2⟩:=info_parts hinfo
 rcases ao with _ | ad
 · obtain⟨rfl,rfl⟩:=hy rfl
   have:ys=[]:=List.eq_nil_of_length_eq_zero (by simpa using hm)
   subst this
   refine wpList_append_own_none hgd s x T ho base e i0 size ht hi v n xs hs hown hx ?_
   exact h v w (by simpa using hown) ⟨rfl,rfl,rfl,Nat.le_refl _,fun _ _ _=>rfl⟩ (.inl rfl)
 · refine wpList_append_own_at _ hgd s x T ho base e i0 z size bytes ht hi hz0 hz1 hz2 hzs hsz v n xs hs hown ad m c ys hx hm (hc ad rfl) h1 hn hby hbase ?_
   intro v' w' g1 g2 _ g4
   exact h v' w' g1 g2 g4
section
variable {w : World} {X Y : Obj} {T : TypeId} {m : Nat}
theorem row_made3:((w.drew.alloc X).alloc (.cells #[] T)).ownsRow w.heap.size T m (.slice (some ⟨w.heap.size+1,0,none⟩) 0 0) 0 []:=by
 have:=World.ownsRow_made (base:=w.heap.size) (e:=T) (size:=m) (w.drew.alloc X) #[] 0 (by simp) (Nat.zero_le _) (by simp)
 simpa using this
end
theorem row_kept0 {w w':World} {base:Nat} {e:TypeId} {size:Nat} {v:Value} {n:Nat} {xs:List Value} (h:w.ownsRow base e size v n xs) (hk:∀g,v.ownBlock=some g→w'.heap[g]?= w.heap[g]?):w'.ownsRow base e size v n xs:=by
 refine⟨h.1,?_⟩
 rcases h.2 with q | ⟨g,cap,cur,rfl,q1,q2,q3⟩
 · exact .inl q
 · exact .inr ⟨g,cap,cur,rfl,q1,by rw[hk g rfl];exact q2,q3⟩
theorem row_form0 {w:World} {base n:Nat} {T:TypeId} {v:Value} {us:List Value} {m:Nat} (h:w.ownsRow base T m v n us):∃a c,v= .slice a n c:=by
 rcases h.2 with ⟨h,h2⟩ | ⟨g,cap,cur,h,_⟩
 · exact⟨none,0,by rw[h,h2]⟩
 · exact⟨_,_,h⟩
def Apt (u v:Value):Prop:=∀q,u.ownBlock=some q→v.ownBlock≠some q
section
variable {W w5 : World} {X : Obj} {T : TypeId} {m : Nat}
theorem mk_kept3 (g:((W.drew.alloc X).alloc (.cells #[] T)).grownBy w5 (some W.heap.size)):w5.ownsRow W.heap.size T m (.slice (some ⟨W.heap.size+1,0,none⟩) 0 0) 0 []:=
 row_kept0 row_made3 fun q hq=>g.block q (World.ownsRow.lt (row_made3 (X:=X) (T:=T) (m:=m)) q hq).2 fun e=>by
  have h1:W.heap.size+1=q:=Option.some.inj hq
  have h2:=Option.some.inj e
  omega
theorem mk_kept2 (g:((W.drew.alloc (.cells #[] T)).alloc X).grownBy w5 (some (W.heap.size+1))):w5.ownsRow W.heap.size T m (.slice (some ⟨W.heap.size,0,none⟩) 0 0) 0 []:=
 row_kept0 row_made2 fun q hq=>g.block q (World.ownsRow.lt (row_made2 (X:=X) (T:=T) (m:=m)) q hq).2 fun e=>by
  have h1:W.heap.size=q:=Option.some.inj hq
  have h2:=Option.some.inj e
  omega
end
theorem two_rows {w5 wA w10:World} {base s3 b3 b7 m1 n1:Nat} {T1:TypeId} {us1:List Value} {v5 v10:Value} (o5:w5.ownsRow base T1 m1 v5 n1 us1) (hA:Below w5.heap.size w5 wA) (g10:wA.grownBy w10 (some b7)) (l10:v10.ownBlock=some b7∨v10.ownBlock=some wA.heap.size) (l5:v5.ownBlock=some b3∨v5.ownBlock=some s3) (hd:(b3≠b7∧s3≠b7)∨w5.heap.size≤b7):w10.ownsRow base T1 m1 v5 n1 us1∧Apt v5 v10:=by
 have hlt:=fun q hq=>(World.ownsRow.lt o5 q hq).2
 have hne:∀q,v5.ownBlock=some q→q≠b7:=fun q hq=>by
  have h1:=hlt q hq
  rcases hd with ⟨h2,h3⟩ | h2
  · rcases l5 with l | l
    · rw[l] at hq;have:=Option.some.inj hq;omega
    · rw[l] at hq;have:=Option.some.inj hq;omega
  · omega
 refine⟨row_kept0 o5 fun q hq=>(g10.block q (Nat.lt_of_lt_of_le (hlt q hq) hA.size) fun e=>hne q hq (Option.some.inj e)).trans (hA.block q (hlt q hq)),fun q hq e=> ?_⟩
 rcases l10 with l | l
 · rw[l] at e;exact hne q hq (Option.some.inj e).symm
 · rw[l] at e
   have h1:=Option.some.inj e
   have h2:=hlt q hq
   have h3:=hA.size
   omega
end Cpy
open Cpy
theorem src_flt {α:Type} {enc:α→List Value} {m:Nat} {w:World} {zs:List α} {a:Option Addr} {n c:Nat} (hm:∀z,(enc z).length=m) (_hm0:0<m) (h:Rdt w (flt m enc zs) (.slice a n c)) (hn:zs.length=n):
 (a=none→n=0∧c=0)∧(zs.flatMap enc).length=n*m∧ ∀w',Below w.heap.size w w'→ ∀ad,a=some ad→ ∀j u,(zs.flatMap enc)[j]?= some u→w'.cell? (ad.add j)=some u:=by
 have hlen:(zs.flatMap enc).length=n*m:=by
  have:=fltC_len hm zs
  unfold fltC at this
  rw[←hn,←this,←List.map_flatMap,List.length_map]
 have hds:fltC enc zs=(zs.flatMap enc).map Dt.leaf:=by unfold fltC;rw[List.map_flatMap]
 unfold flt at h
 rw[hds] at h
 generalize hys:(zs.flatMap enc).map Dt.leaf=ds at *
 cases h with
 | nil=>
   have:zs.flatMap enc=[]:=by simpa using hys
   rw[this] at hlen ⊢
   exact⟨fun _=>⟨rfl,rfl⟩,hlen,fun w' _ ad e=>by cases e⟩
 | mk hl hu hnc hc hb hcell hd=>
   refine⟨fun e=>(by cases e),hlen,fun w' hbw ad e j u hj=> ?_⟩
   cases e
   have hdj:ds[j]?= some (Dt.leaf u):=by rw[←hys,List.getElem?_map,hj];rfl
   have hjl:=(List.getElem?_eq_some_iff.1 hdj).1
   rename_i us
   have huj:us[j]?= some us[j]:=List.getElem?_eq_getElem (by omega)
   have:=(hd j _ _ hdj huj).leaf_inv
   have hc2:=hcell j _ huj
   rw[this] at hc2
   rw[addr_add]
   exact(hbw.cell (p:=⟨_,_,none⟩) hb).trans hc2
theorem odt_of_row {w:World} {base m n:Nat} {T:TypeId} {v:Value} {us:List Value} (h:w.ownsRow base T m v n us):∃fp,Odt w (.rows m (us.map Dt.leaf)) v fp∧fp.Nodup∧ ∀k∈fp,base≤k∧k<w.heap.size∧v.ownBlock=some k:=by
 have ho:=Ofr.of_row h
 obtain⟨fp,h1,h2,h3⟩:=ho
 refine⟨fp,h1,h2,fun k hk=>⟨h3 k hk,h1.lt k hk,?_⟩⟩
 generalize hys:us.map Dt.leaf=ds at *
 cases h1 with
 | nil=>cases hk
 | mk hl hu hf hn hc hg hcs ht hd=>
   rename_i us2 fs cur T2
   rcases List.mem_cons.1 hk with rfl | hk
   · rfl
   · obtain⟨f,hf1,hf2⟩:=List.mem_flatten.1 hk
     obtain⟨j,hj,e⟩:=List.getElem_of_mem hf1
     have hjd:j<ds.length:=by omega
     have hj2:ds[j]?= some ds[j]:=List.getElem?_eq_getElem hjd
     have hj3:us2[j]?= some us2[j]:=List.getElem?_eq_getElem (by omega)
     have:=hd j _ _ f hj2 hj3 (by rw[List.getElem?_eq_getElem hj,e])
     have hje:ds[j]?= (us.map Dt.leaf)[j]?:=by rw[hys]
     rw[List.getElem?_map,hj2] at hje
     obtain⟨u,-,hu2⟩:=Option.map_eq_some_iff.1 hje.symm
     rw[←hu2] at this
     rw[this.leaf_inv.2] at hf2
     cases hf2
theorem flt_of_row' {α:Type} {enc:α→List Value} {w:World} {base m n:Nat} {T:TypeId} {v:Value} {zs:List α} (h:w.ownsRow base T m v n ([]++zs.flatMap enc)):∃fp,Odt w (flt m enc zs) v fp∧fp.Nodup∧ ∀k∈fp,base≤k∧k<w.heap.size∧v.ownBlock=some k:=by
 have:=odt_of_row h
 rw[List.nil_append,List.map_flatMap] at this
 exact this
def CpyP (n:Net) (w:World) (e:Ending) (w':World):Prop:=∃v fp,e= .returned v∧NetO w' n v fp∧fp.Nodup∧(∀k∈fp,w.heap.size≤k∧k<w'.heap.size)∧Below w.heap.size w w'
theorem CpyP.of {w w2 w10:World} {n:Net} {v5 v10:Value} (hb0:Below w.heap.size w w2) (hz:w2.heap.size=w.heap.size+2) (hb:Below w2.heap.size w2 w10)
 (h1:∃fp,Odt w10 (flt 1 strE n.ns) v5 fp∧fp.Nodup∧ ∀k∈fp,w2.heap.size≤k∧k<w10.heap.size∧v5.ownBlock=some k) (h2:∃fp,Odt w10 (flt 4 fibE n.fs) v10 fp∧fp.Nodup∧ ∀k∈fp,w2.heap.size≤k∧k<w10.heap.size∧v10.ownBlock=some k) (ha:Apt v5 v10):
 CpyP n w (.returned (.agg #[v5,v10])) ((w10.setCell ⟨w.heap.size+1,0,none⟩ v5).setCell ⟨w.heap.size+1,1,none⟩ v10):=by
 obtain⟨f1,a1,a2,a3⟩:=h1
 obtain⟨f2,b1,b2,b3⟩:=h2
 have hk:∀g,w2.heap.size≤g→((w10.setCell ⟨w.heap.size+1,0,none⟩ v5).setCell ⟨w.heap.size+1,1,none⟩ v10).heap[g]?= w10.heap[g]?:=fun g hg=>by
  rw[heap_setCell_other _ _ _ _ (show g≠w.heap.size+1 by omega),heap_setCell_other _ _ _ _ (show g≠w.heap.size+1 by omega)]
 refine⟨_,f1++f2,rfl,⟨v5,v10,f1,f2,rfl,a1.kept fun k hk2=>hk k (a3 k hk2).1,b1.kept fun k hk2=>hk k (b3 k hk2).1,rfl⟩,List.nodup_append.2 ⟨a2,b2,fun x hx y hy e=> ?_⟩,fun k hk2=> ?_,((hb0.trans (hb.mono hb0.size)).setCell (p:=⟨w.heap.size+1,0,none⟩) (Nat.le_succ _) v5).setCell (p:=⟨w.heap.size+1,1,none⟩) (Nat.le_succ _) v10⟩
 · subst e
   exact ha x (a3 x hx).2.2 (b3 x hy).2.2
 · have hs:((w10.setCell ⟨w.heap.size+1,0,none⟩ v5).setCell ⟨w.heap.size+1,1,none⟩ v10).heap.size=w10.heap.size:=by simp
   rw[hs]
   rcases List.mem_append.1 hk2 with h | h
   · have:=a3 k h;omega
   · have:=b3 k h;omega
theorem copyNetwork_any (u1 u2:Value) (n:Net) (w:World) (h:NetR w (.agg #[u1,u2]) n) (h1:n.ns.length≤1048576) (h2:n.fs.length≤1048576):
 Calls Tryz.prog 162 #[.agg #[u1,u2]] w (CpyP n w):=by
 obtain⟨x1,x2,e,r1,r2,hsm⟩:=h
 simp only[Value.agg.injEq,Array.mk.injEq,List.cons.injEq,and_true] at e
 obtain⟨rfl,rfl⟩:=e
 obtain⟨a1,m1,c1,rfl,HN1,-,hm1,-⟩:=flt_opn (m:=1) (enc:=strE) (fun _=>rfl) (by omega) nilS r1
 obtain⟨a2,m2,c2,rfl,HN2,-,hm2,-⟩:=flt_opn (m:=4) (enc:=fibE) (fun _=>rfl) (by omega) nilB r2
 have HS1:=Lib.hid (src_flt (enc:=strE) (m:=1) (fun _=>rfl) (by omega) r1 HN1.out)
 have HS2:=Lib.hid (src_flt (enc:=fibE) (m:=4) (fun _=>rfl) (by omega) r2 HN2.out)
 have hl1:m1≤1048576:=by have:=HN1.out;omega
 have hl2:m2≤1048576:=by have:=HN2.out;omega
 have HD1:=Lib.hid (show∀w' b v,w'.ownsRow b 9 1 v (0+m1) ([]++n.ns.flatMap strE)→ ∃fp,Odt w' (flt 1 strE n.ns) v fp∧fp.Nodup∧ ∀k∈fp,b≤k∧k<w'.heap.size∧v.ownBlock=some k from fun w' b v hh=>flt_of_row' hh)
 have HD2:=Lib.hid (show∀w' b v,w'.ownsRow b 146 4 v (0+m2) ([]++n.fs.flatMap fibE)→ ∃fp,Odt w' (flt 4 fibE n.fs) v fp∧fp.Nodup∧ ∀k∈fp,b≤k∧k<w'.heap.size∧v.ownBlock=some k from fun w' b v hh=>flt_of_row' hh)
 have HE1:=Lib.hid (show∀u∈n.ns.flatMap strE,u.oneCell'=true from fun u hu=>by
  obtain⟨s,-,hs⟩:=List.mem_flatMap.1 hu
  simp only[strE,List.mem_singleton] at hs
  subst hs;rfl)
 have HE2:=Lib.hid (show∀u∈n.fs.flatMap fibE,u.oneCell'=true from fun u hu=>fbs_one u hu)
 obtain⟨NP,hNP⟩:∃NP,NP=CpyP n w:=⟨_,rfl⟩
 rw[←hNP]
 have HNP:=Lib.hid hNP
 have b1:=(Below.refl w.heap.size w).alloc (Nat.le_refl _) (.cells #[.slice a1 m1 c1,.slice a2 m2 c2] 35)
 have b2:=b1.alloc b1.size (.cells #[.slice none 0 0,.slice none 0 0] 35)
 have HB2:=Lib.hid b2
 have HX1:=Lib.hid (show((w.alloc (.cells #[.slice a1 m1 c1,.slice a2 m2 c2] 35)).alloc (.cells #[.slice none 0 0,.slice none 0 0] 35)).heap[w.heap.size]?= some (.cells #[.slice a1 m1 c1,.slice a2 m2 c2] 35 (0,0)) from(heap_alloc_old _ _ (by simp)).trans (heap_alloc_new w _))
 have HX2:=Lib.hid (show((w.alloc (.cells #[.slice a1 m1 c1,.slice a2 m2 c2] 35)).alloc (.cells #[.slice none 0 0,.slice none 0 0] 35)).heap[w.heap.size+1]?= some (.cells #[.slice none 0 0,.slice none 0 0] 35 (0,0)) from by have:=heap_alloc_new (w.alloc (.cells #[.slice a1 m1 c1,.slice a2 m2 c2] 35)) (.cells #[.slice none 0 0,.slice none 0 0] 35);simpa using this)
 have HZ2:=Lib.hid (show((w.alloc (.cells #[.slice a1 m1 c1,.slice a2 m2 c2] 35)).alloc (.cells #[.slice none 0 0,.slice none 0 0] 35)).heap.size=w.heap.size+2 by simp)
 generalize n.ns.flatMap strE=ys1 at *
 generalize n.fs.flatMap fibE=ys2 at *
 clear b1 b2 r1 r2 hsm h1 h2 hNP
 go_enter Tryz.func162,Tryz.ntmps162
 go_upto_region 1 with fail
 generalize ((w.alloc (.cells #[.slice a1 m1 c1,.slice a2 m2 c2] 35)).alloc (.cells #[.slice none 0 0,.slice none 0 0] 35))=w2 at *
 have hlt1:w.heap.size<w2.heap.size:=by have:=HZ2.out;omega
 have hlt2:w.heap.size+1<w2.heap.size:=by have:=HZ2.out;omega
 have HS:=Lib.hid (fun(w':World) (hb:Below w2.heap.size w2 w')=>show w'.cell? ⟨w.heap.size,0,none⟩=some (.slice a1 m1 c1)∧w'.cell? ⟨w.heap.size,1,none⟩=some (.slice a2 m2 c2) from
  ⟨(hb.cell (p:=⟨w.heap.size,0,none⟩) hlt1).trans (blkc HX1.out rfl),(hb.cell (p:=⟨w.heap.size,1,none⟩) hlt1).trans (blkc HX1.out rfl)⟩)
 have HC1:=Lib.hid (fun(w':World) (hb:Below w2.heap.size w2 w')=>HS1.out.2.2 w' (HB2.out.trans (hb.mono HB2.out.size)))
 have HC2:=Lib.hid (fun(w':World) (hb:Below w2.heap.size w2 w')=>HS2.out.2.2 w' (HB2.out.trans (hb.mono HB2.out.size)))
 have HN1':=Lib.hid HS1.out.1
 have HN2':=Lib.hid HS2.out.1
 have HL1:=Lib.hid HS1.out.2.1
 have HL2:=Lib.hid HS2.out.2.1
 have HST:=Lib.hid (fun(w':World) (hb:Below w2.heap.size w2 w') (a b:Value)=>show((w'.setCell ⟨w.heap.size+1,0,none⟩ a).setCell ⟨w.heap.size+1,1,none⟩ b).cell? ⟨w.heap.size,0,none⟩=some (.slice a1 m1 c1)∧((w'.setCell ⟨w.heap.size+1,0,none⟩ a).setCell ⟨w.heap.size+1,1,none⟩ b).cell? ⟨w.heap.size,1,none⟩=some (.slice a2 m2 c2) from by
  obtain⟨h1,h2⟩:=HS.out w' hb
  refine⟨?_,?_⟩
  · rw[World.cell?_setCell_other _ _ _ _ (by simp),World.cell?_setCell_other _ _ _ _ (by simp)];exact h1
  · rw[World.cell?_setCell_other _ _ _ _ (by simp),World.cell?_setCell_other _ _ _ _ (by simp)];exact h2)
 have hb0:=(Below.refl w2.heap.size w2).drew
 go_region_held3 (fun w'=>w'.cell? ⟨w.heap.size,0,none⟩=some (.slice a1 m1 c1)∧w'.cell? ⟨w.heap.size,1,none⟩=some (.slice a2 m2 c2))
  (first | exact HS.out _ hb0 | exact HS.out _ bel1 | exact HS.out _ bel2 | exact HS.out _ B10 | exact HS.out _ B5 | exact HS.out _ (B5.alloc B5.size _) | exact HST.out _ B10 _ _)
  (first
    | ((refine step_of_list rfl ?_);(with_reducible show wpList _ _ _ (⟨some 6,_,_,_,_,_⟩::_) _ _);(go_loud (refine wpList_catG rfl (.tmp 3) (.tmp 5) 22 9 rfl Tryz.underlying22 (.string ⟨#[]⟩) 1 16 Tryz.infoStrD rfl (by decide) w2.heap.size (.slice (some ⟨_,0,none⟩) 0 0) 0 [] (by rfl) (by first | exact row_made1 | exact row_made2 | exact row_made3) a1 m1 c1 ys1 (by rfl) HL1.out HN1'.out (HC1.out _ (by first | exact bel1 | exact bel2)) HE1.out (by unfold maxLen;omega) (by omega) (by first | exact bel1.size | exact bel2.size) ?_));(intro v5 w5 o5 g5 l5);(obtain⟨e5,f5,rfl⟩:=row_form0 o5);(have B5:Below w2.heap.size w2 w5:=Below.grown (by first | exact bel1 | exact bel2) g5 (by first | exact bel1.size | exact bel2.size) (fun q hq=>(by have hq2:=Option.some.inj hq;rw[←hq2];first | exact Nat.le_refl _ | exact Nat.le_succ _)));(have NN5:=fun c h1 h2=>g5.block c h1 h2);(unfold wpList);(refine⟨rfl,?_⟩))
    | ((refine step_of_list rfl ?_);(with_reducible show wpList _ _ _ (⟨some 10,_,_,_,_,_⟩::_) _ _);(go_loud (refine wpList_catG rfl (.tmp 7) (.tmp 9) 33 146 rfl Tryz.underlying33 (.agg #[.int .i64 0,.int .i64 0,.int .i64 0,.int .i64 0]) 4 32 Tryz.infoFib rfl (by decide) w2.heap.size (.slice (some ⟨_,0,none⟩) 0 0) 0 [] (by rfl) (by first | exact World.ownsRow_made (base:=w2.heap.size) w5 #[] 0 B5.size (Nat.zero_le _) (by simp) | exact mk_kept3 g5 | exact mk_kept2 g5) a2 m2 c2 ys2 (by rfl) HL2.out HN2'.out (HC2.out _ (by first | exact B5 | exact B5.alloc B5.size _)) HE2.out (by unfold maxLen;omega) (by omega) (by first | exact B5.size | exact size_alloc B5.size) ?_));(intro v10 w10 o10 g10 l10);(obtain⟨e10,f10,rfl⟩:=row_form0 o10);(have B10:Below w2.heap.size w2 w10:=Below.grown (by first | exact B5 | exact B5.alloc B5.size _) g10 (by first | exact B5.size | exact size_alloc B5.size) (fun q hq=>(by have hq2:=Option.some.inj hq;rw[←hq2];first | exact Nat.le_refl _ | exact Nat.le_succ _ | exact B5.size)));(have x10:=kept_o' HX2.out B10);(have z0:=blkc x10 (show _=some (Value.slice none 0 0) from rfl) (j:=0));(have z1:=blkc x10 (show _=some (Value.slice none 0 0) from rfl) (j:=1));(have f0:w10.frozen? ⟨w.heap.size+1,0,none⟩=false:=(by simp only[World.frozen?,x10];rfl));(have f1:w10.frozen? ⟨w.heap.size+1,1,none⟩=false:=(by simp only[World.frozen?,x10];rfl));(unfold wpList);(refine⟨rfl,?_⟩)))
 all_goals
  have H:=two_rows o5 (by first | exact Below.refl _ _ | exact(Below.refl _ _).alloc (Nat.le_refl _) _) g10 l10 l5 (by first | exact .inr (Nat.le_refl _) | (left;constructor <;> simp <;> omega) | (left;constructor <;> simp))
  have HH:=Lib.hid (CpyP.of (n:=n) HB2.out HZ2.out B10 (HD1.out _ _ _ H.1) (HD2.out _ _ _ o10) H.2)
  clear H o5 o10 g5 g10 l5 l10 B5 B10 NN5
  go_wp2_with fail
  rw[HNP.out]
  exact bodyPost_ret (v:= .agg #[.slice e5 (0+m1) f5,.slice e10 (0+m2) f10]) (by simp[results,Tryz.results162,go_sem,z0,z1]) rfl (by simpa using HH.out)
theorem l2Own_any (u1 u2:Value) (n:Net) (w:World) (h:NetR w (.agg #[u1,u2]) n) (h1:n.ns.length≤1048576) (h2:n.fs.length≤1048576):
 Calls Tryz.prog 102 #[.agg #[u1,u2]] w (CpyP n w):=by
 obtain⟨x1,x2,e,r1,r2,hsm⟩:=h
 simp only[Value.agg.injEq,Array.mk.injEq,List.cons.injEq,and_true] at e
 obtain⟨rfl,rfl⟩:=e
 obtain⟨a1,m1,c1,rfl,HN1,-,hm1,-⟩:=flt_opn (m:=1) (enc:=strE) (fun _=>rfl) (by omega) nilS r1
 obtain⟨a2,m2,c2,rfl,HN2,-,hm2,-⟩:=flt_opn (m:=4) (enc:=fibE) (fun _=>rfl) (by omega) nilB r2
 have HS1:=Lib.hid (src_flt (enc:=strE) (m:=1) (fun _=>rfl) (by omega) r1 HN1.out)
 have HS2:=Lib.hid (src_flt (enc:=fibE) (m:=4) (fun _=>rfl) (by omega) r2 HN2.out)
 have hl1:m1≤1048576:=by have:=HN1.out;omega
 have hl2:m2≤1048576:=by have:=HN2.out;omega
 have HD1:=Lib.hid (show∀w' b v,w'.ownsRow b 9 1 v (0+m1) ([]++n.ns.flatMap strE)→ ∃fp,Odt w' (flt 1 strE n.ns) v fp∧fp.Nodup∧ ∀k∈fp,b≤k∧k<w'.heap.size∧v.ownBlock=some k from fun w' b v hh=>flt_of_row' hh)
 have HD2:=Lib.hid (show∀w' b v,w'.ownsRow b 146 4 v (0+m2) ([]++n.fs.flatMap fibE)→ ∃fp,Odt w' (flt 4 fibE n.fs) v fp∧fp.Nodup∧ ∀k∈fp,b≤k∧k<w'.heap.size∧v.ownBlock=some k from fun w' b v hh=>flt_of_row' hh)
 have HE1:=Lib.hid (show∀u∈n.ns.flatMap strE,u.oneCell'=true from fun u hu=>by
  obtain⟨s,-,hs⟩:=List.mem_flatMap.1 hu
  simp only[strE,List.mem_singleton] at hs
  subst hs;rfl)
 have HE2:=Lib.hid (show∀u∈n.fs.flatMap fibE,u.oneCell'=true from fun u hu=>fbs_one u hu)
 obtain⟨NP,hNP⟩:∃NP,NP=CpyP n w:=⟨_,rfl⟩
 rw[←hNP]
 have HNP:=Lib.hid hNP
 have b1:=(Below.refl w.heap.size w).alloc (Nat.le_refl _) (.cells #[.slice a1 m1 c1,.slice a2 m2 c2] 35)
 have b2:=b1.alloc b1.size (.cells #[.slice none 0 0,.slice none 0 0] 35)
 have HB2:=Lib.hid b2
 have HX1:=Lib.hid (show((w.alloc (.cells #[.slice a1 m1 c1,.slice a2 m2 c2] 35)).alloc (.cells #[.slice none 0 0,.slice none 0 0] 35)).heap[w.heap.size]?= some (.cells #[.slice a1 m1 c1,.slice a2 m2 c2] 35 (0,0)) from(heap_alloc_old _ _ (by simp)).trans (heap_alloc_new w _))
 have HX2:=Lib.hid (show((w.alloc (.cells #[.slice a1 m1 c1,.slice a2 m2 c2] 35)).alloc (.cells #[.slice none 0 0,.slice none 0 0] 35)).heap[w.heap.size+1]?= some (.cells #[.slice none 0 0,.slice none 0 0] 35 (0,0)) from by have:=heap_alloc_new (w.alloc (.cells #[.slice a1 m1 c1,.slice a2 m2 c2] 35)) (.cells #[.slice none 0 0,.slice none 0 0] 35);simpa using this)
 have HZ2:=Lib.hid (show((w.alloc (.cells #[.slice a1 m1 c1,.slice a2 m2 c2] 35)).alloc (.cells #[.slice none 0 0,.slice none 0 0] 35)).heap.size=w.heap.size+2 by simp)
 generalize n.ns.flatMap strE=ys1 at *
 generalize n.fs.flatMap fibE=ys2 at *
 clear b1 b2 r1 r2 hsm h1 h2 hNP
 go_enter Tryz.func102,Tryz.ntmps102
 go_upto_region 1 with fail
 generalize ((w.alloc (.cells #[.slice a1 m1 c1,.slice a2 m2 c2] 35)).alloc (.cells #[.slice none 0 0,.slice none 0 0] 35))=w2 at *
 have hlt1:w.heap.size<w2.heap.size:=by have:=HZ2.out;omega
 have hlt2:w.heap.size+1<w2.heap.size:=by have:=HZ2.out;omega
 have HS:=Lib.hid (fun(w':World) (hb:Below w2.heap.size w2 w')=>show w'.cell? ⟨w.heap.size,0,none⟩=some (.slice a1 m1 c1)∧w'.cell? ⟨w.heap.size,1,none⟩=some (.slice a2 m2 c2) from
  ⟨(hb.cell (p:=⟨w.heap.size,0,none⟩) hlt1).trans (blkc HX1.out rfl),(hb.cell (p:=⟨w.heap.size,1,none⟩) hlt1).trans (blkc HX1.out rfl)⟩)
 have HC1:=Lib.hid (fun(w':World) (hb:Below w2.heap.size w2 w')=>HS1.out.2.2 w' (HB2.out.trans (hb.mono HB2.out.size)))
 have HC2:=Lib.hid (fun(w':World) (hb:Below w2.heap.size w2 w')=>HS2.out.2.2 w' (HB2.out.trans (hb.mono HB2.out.size)))
 have HN1':=Lib.hid HS1.out.1
 have HN2':=Lib.hid HS2.out.1
 have HL1:=Lib.hid HS1.out.2.1
 have HL2:=Lib.hid HS2.out.2.1
 have HST:=Lib.hid (fun(w':World) (hb:Below w2.heap.size w2 w') (a b:Value)=>show((w'.setCell ⟨w.heap.size+1,0,none⟩ a).setCell ⟨w.heap.size+1,1,none⟩ b).cell? ⟨w.heap.size,0,none⟩=some (.slice a1 m1 c1)∧((w'.setCell ⟨w.heap.size+1,0,none⟩ a).setCell ⟨w.heap.size+1,1,none⟩ b).cell? ⟨w.heap.size,1,none⟩=some (.slice a2 m2 c2) from by
  obtain⟨h1,h2⟩:=HS.out w' hb
  refine⟨?_,?_⟩
  · rw[World.cell?_setCell_other _ _ _ _ (by simp),World.cell?_setCell_other _ _ _ _ (by simp)];exact h1
  · rw[World.cell?_setCell_other _ _ _ _ (by simp),World.cell?_setCell_other _ _ _ _ (by simp)];exact h2)
 have hb0:=(Below.refl w2.heap.size w2).drew
 go_region_held3 (fun w'=>w'.cell? ⟨w.heap.size,0,none⟩=some (.slice a1 m1 c1)∧w'.cell? ⟨w.heap.size,1,none⟩=some (.slice a2 m2 c2))
  (first | exact HS.out _ hb0 | exact HS.out _ bel1 | exact HS.out _ bel2 | exact HS.out _ B10 | exact HS.out _ B5 | exact HS.out _ (B5.alloc B5.size _) | exact HST.out _ B10 _ _)
  (first
    | ((refine step_of_list rfl ?_);(with_reducible show wpList _ _ _ (⟨some 6,_,_,_,_,_⟩::_) _ _);(go_loud (refine wpList_catG rfl (.tmp 3) (.tmp 5) 22 9 rfl Tryz.underlying22 (.string ⟨#[]⟩) 1 16 Tryz.infoStrD rfl (by decide) w2.heap.size (.slice (some ⟨_,0,none⟩) 0 0) 0 [] (by rfl) (by first | exact row_made1 | exact row_made2 | exact row_made3) a1 m1 c1 ys1 (by rfl) HL1.out HN1'.out (HC1.out _ (by first | exact bel1 | exact bel2)) HE1.out (by unfold maxLen;omega) (by omega) (by first | exact bel1.size | exact bel2.size) ?_));(intro v5 w5 o5 g5 l5);(obtain⟨e5,f5,rfl⟩:=row_form0 o5);(have B5:Below w2.heap.size w2 w5:=Below.grown (by first | exact bel1 | exact bel2) g5 (by first | exact bel1.size | exact bel2.size) (fun q hq=>(by have hq2:=Option.some.inj hq;rw[←hq2];first | exact Nat.le_refl _ | exact Nat.le_succ _)));(have NN5:=fun c h1 h2=>g5.block c h1 h2);(unfold wpList);(refine⟨rfl,?_⟩))
    | ((refine step_of_list rfl ?_);(with_reducible show wpList _ _ _ (⟨some 10,_,_,_,_,_⟩::_) _ _);(go_loud (refine wpList_catG rfl (.tmp 7) (.tmp 9) 33 146 rfl Tryz.underlying33 (.agg #[.int .i64 0,.int .i64 0,.int .i64 0,.int .i64 0]) 4 32 Tryz.infoFib rfl (by decide) w2.heap.size (.slice (some ⟨_,0,none⟩) 0 0) 0 [] (by rfl) (by first | exact World.ownsRow_made (base:=w2.heap.size) w5 #[] 0 B5.size (Nat.zero_le _) (by simp) | exact mk_kept3 g5 | exact mk_kept2 g5) a2 m2 c2 ys2 (by rfl) HL2.out HN2'.out (HC2.out _ (by first | exact B5 | exact B5.alloc B5.size _)) HE2.out (by unfold maxLen;omega) (by omega) (by first | exact B5.size | exact size_alloc B5.size) ?_));(intro v10 w10 o10 g10 l10);(obtain⟨e10,f10,rfl⟩:=row_form0 o10);(have B10:Below w2.heap.size w2 w10:=Below.grown (by first | exact B5 | exact B5.alloc B5.size _) g10 (by first | exact B5.size | exact size_alloc B5.size) (fun q hq=>(by have hq2:=Option.some.inj hq;rw[←hq2];first | exact Nat.le_refl _ | exact Nat.le_succ _ | exact B5.size)));(have x10:=kept_o' HX2.out B10);(have z0:=blkc x10 (show _=some (Value.slice none 0 0) from rfl) (j:=0));(have z1:=blkc x10 (show _=some (Value.slice none 0 0) from rfl) (j:=1));(have f0:w10.frozen? ⟨w.heap.size+1,0,none⟩=false:=(by simp only[World.frozen?,x10];rfl));(have f1:w10.frozen? ⟨w.heap.size+1,1,none⟩=false:=(by simp only[World.frozen?,x10];rfl));(unfold wpList);(refine⟨rfl,?_⟩)))
 all_goals
  have H:=two_rows o5 (by first | exact Below.refl _ _ | exact(Below.refl _ _).alloc (Nat.le_refl _) _) g10 l10 l5 (by first | exact .inr (Nat.le_refl _) | (left;constructor <;> simp <;> omega) | (left;constructor <;> simp))
  have HH:=Lib.hid (CpyP.of (n:=n) HB2.out HZ2.out B10 (HD1.out _ _ _ H.1) (HD2.out _ _ _ o10) H.2)
  clear H o5 o10 g5 g10 l5 l10 B5 B10 NN5
  go_wp2_with fail
  rw[HNP.out]
  exact bodyPost_ret (v:= .agg #[.slice e5 (0+m1) f5,.slice e10 (0+m2) f10]) (by simp[results,Tryz.results102,go_sem,z0,z1]) rfl (by simpa using HH.out)
/-! ### Plans -/
def PlnO (w:World) (p:Pln) (v:Value) (fp:List Nat):Prop:=∃u1 u2 u3 f1 f2 f3,v= .agg #[u1,u2,u3]∧Odt w (flt 1 strE p.n.ns) u1 f1∧Odt w (flt 4 fibE p.n.fs) u2 f2∧Odt w (rws 5 lgtD p.ls) u3 f3∧fp=(f1++f2)++f3
theorem PlnO.rd {w:World} {p:Pln} {v:Value} {fp:List Nat} (h:PlnO w p v fp) (hs:NetSm p.n):PlnR w v p:=by
 obtain⟨u1,u2,u3,f1,f2,f3,e,h1,h2,h3,_⟩:=h;exact⟨u1,u2,u3,e,h1.rd,h2.rd,h3.rd,hs⟩
theorem PlnO.behind {w w':World} {p:Pln} {v:Value} {fp:List Nat} (h:PlnO w p v fp) (hb:Below w.heap.size w w'):PlnO w' p v fp:=by
 obtain⟨u1,u2,u3,f1,f2,f3,e,h1,h2,h3,e2⟩:=h;exact⟨u1,u2,u3,f1,f2,f3,e,h1.behind hb,h2.behind hb,h3.behind hb,e2⟩
open Go.RowKit
section
variable {P : Program} {ops : Array Oper} {Q : Exit → Act → World → Prop} {md : Region.Mode} {S : World → Prop} {U : List Nat}
theorem hlE (i:Nat) {oi:Oper} {fuel:Nat} {listed:Array Bool} {a:Act} {w:World} {tl:List Oper} (hi:ops.toList.drop i=oi::tl) (hS:S w)
 (h:∃v,(∀w,S w→(execOp a.eval oi).run P w= .ok (.value v) w)∧wpAnyL P md ops U Q S fuel (listed.setIfInBounds i true) (a.put oi.dst v) w)
 (hw:Region.wanted oi (yielded ops a.tmps)=true:=by rfl) (hs:Region.noSelect ops=true:=by kernel_rfl) (hf:Region.free md ops listed i=true:=by kernel_rfl) (hr:(Region.ready md ops listed).contains i=true:=by kernel_rfl) (hwt:waits md ops U listed i=true:=by kernel_rfl)
 (hQ:∀v c a w,Q (.panic c) (a.put oi.dst v) w→Q (.panic c) a w:=by exact fun _ _ _ _ h=>h):wpAnyL P md ops U Q S (fuel+1) listed a w:=by
 obtain⟨v,hy,h⟩:=h
 exact hlTake i hi hs hf hr hwt (hQ v) hw hy hS h
theorem hlA {α:Type} (l:List α) (i:Nat) (a:α):l.toArray.setIfInBounds i a=(l.set i a).toArray:=List.setIfInBounds_toArray ..
theorem hlB {α:Type} {x:α} {xs:List α} {a:α} :(x::xs).set 0 a=a::xs:=List.set_cons_zero
theorem hlC {α:Type} {x:α} {xs:List α} {n:Nat} {a:α} :(x::xs).set (n+1) a=x::xs.set n a:=List.set_cons_succ
end
theorem copyRoute_any (v:Value) (st:Int) (fb:List Int) (w:World) (h:Rd w v fb) (hl:fb.length≤1000000):
 Calls Tryz.prog 160 #[.agg #[.int .i64 st,v]] w fun e w'=>∃v',e= .returned (.agg #[.int .i64 st,v'])∧Own w' w.heap.size v' fb∧Below w.heap.size w w':=by
 obtain⟨NP,hNP⟩:∃NP:Ending→World→Prop,NP=fun e w'=>∃v',e= .returned (.agg #[.int .i64 st,v'])∧Own w' w.heap.size v' fb∧Below w.heap.size w w':=⟨_,rfl⟩
 rw[←hNP]
 obtain⟨a,cap,hv,hcap,hnone,-⟩:=full_ok h
 have hlx:(ints fb).length=fb.length:=by simp[ints]
 have HO:=Lib.hid (show∀u∈ints fb,u.oneCell'=true from fun u hu=>by obtain⟨z,-,rfl⟩:=List.mem_map.1 hu;rfl)
 subst hv
 have HC:=Lib.hid (fun(w':World) (hb:Below w.heap.size w w')=>(h.belowAll hb).cellsOf)
 obtain⟨m,hm⟩:∃m,m=fb.length:=⟨_,rfl⟩
 rw[←hm] at hlx hcap hnone hl ⊢
 have HM:=Lib.hid hm
 have HL:=Lib.hid hlx
 have HN:=Lib.hid hnone
 generalize hys:ints fb=ys at *
 have HY:=Lib.hid hys
 clear h hlx hm hnone hys
 have b1:=(Below.refl w.heap.size w).alloc (Nat.le_refl _) (.cells #[.int .i64 st,.slice a m cap] 82)
 have b2:=b1.alloc b1.size (.cells #[.int .i64 0,.slice none 0 0] 82)
 have k0:=heap_alloc_new w (.cells #[.int .i64 st,.slice a m cap] 82)
 have k0':=(heap_alloc_old _ (.cells #[.int .i64 0,.slice none 0 0] 82) (Array.getElem?_eq_some_iff.1 k0).1).trans k0
 have k1:=heap_alloc_new (w.alloc (.cells #[.int .i64 st,.slice a m cap] 82)) (.cells #[.int .i64 0,.slice none 0 0] 82)
 rw[show(w.alloc (.cells #[.int .i64 st,.slice a m cap] 82)).heap.size=w.heap.size+1 by simp] at k1
 have HB2:=Lib.hid b2
 have K0:=Lib.hid k0'
 have K1:=Lib.hid k1
 have HNP:=Lib.hid hNP
 have HZ:=Lib.hid (show((w.alloc (.cells #[.int .i64 st,.slice a m cap] 82)).alloc (.cells #[.int .i64 0,.slice none 0 0] 82)).heap.size=w.heap.size+1+1 by simp)
 clear b1 b2 k0 k0' k1 hNP
 go_enter Tryz.func160,Tryz.ntmps160
 go_upto_region 1 with fail
 generalize (w.alloc (.cells #[.int .i64 st,.slice a m cap] 82)).alloc (.cells #[.int .i64 0,.slice none 0 0] 82)=w2 at *
 have HSS:=Lib.hid (fun(w':World) (hb:Below w2.heap.size w2 w')=>show w'.cell? ⟨w.heap.size,0,none⟩=some (.int .i64 st)∧w'.cell? ⟨w.heap.size,1,none⟩=some (.slice a m cap) from
  have h0:=kept_o' K0.out hb
  ⟨blkc h0 rfl,blkc h0 rfl⟩)
 refine wp_region_L [0,1,2,3,4,5,6] (S:=fun w'=>w'.cell? ⟨w.heap.size,0,none⟩=some (.int .i64 st)∧w'.cell? ⟨w.heap.size,1,none⟩=some (.slice a m cap)) (by kernel_rfl) (HSS.out _ (Below.refl _ _).drew) (fun hH=> ?_)
 refine hlE 0 rfl hH ⟨_,by intro w hSw;(try dsimp only at hSw);go_simp;try with_reducible rfl,?_⟩
 try simp only[Act.put,hlA,hlB,hlC]
 refine hlE 1 rfl hH ⟨_,by intro w hSw;(try dsimp only at hSw);go_simp;try with_reducible rfl,?_⟩
 try simp only[Act.put,hlA,hlB,hlC]
 refine hlE 3 rfl hH ⟨_,by intro w hSw;(try dsimp only at hSw);go_simp;try with_reducible rfl,?_⟩
 try simp only[Act.put,hlA,hlB,hlC]
 refine hlE 4 rfl hH ⟨_,by intro w hSw;(try dsimp only at hSw);go_simp;try with_reducible rfl,?_⟩
 try simp only[Act.put,hlA,hlB,hlC]
 refine hlReady (rs:=[2]) (by kernel_rfl) (by simp) ?_
 refine AllReadyL.cons rfl (fun KK hKK=> ?_) AllReadyL.nil
 go_simp
 have B5:=bel1 (w:=w2) (X:= .cells #[] 3)
 refine hKK.out _ _ (HSS.out _ B5) (fun hH=> ?_)
 clear hKK KK
 try simp only[Act.put,hlA,hlB,hlC]
 refine hlReady (rs:=[5]) (by kernel_rfl) (by simp) ?_
 refine AllReadyL.cons rfl (fun KK hKK=> ?_) AllReadyL.nil
 refine step_of_list rfl ?_
 refine wpList_catG rfl (.tmp 5) (.tmp 7) 58 3 rfl Tryz.underlying58 (.int .i64 0) 1 8 Tryz.infoInt rfl (by decide) w2.heap.size (.slice (some ⟨w2.heap.size,0,none⟩) 0 0) 0 [] (by rfl) row_made1 a m cap ys (by rfl) (by rw[HL.out,Nat.mul_one]) (fun e=>by have:=HN.out e;omega) (HC.out _ (HB2.out.trans (B5.mono HB2.out.size))) HO.out (by unfold maxLen;omega) (by omega) B5.size ?_
 intro v8 w8 o8 g8 l8
 have B8:Below w2.heap.size w2 w8:=Below.grown B5 g8 B5.size (fun q hq=>by have hq2:w2.heap.size=q:=Option.some.inj hq;omega)
 unfold wpList
 refine⟨rfl,?_⟩
 refine hKK.out _ _ (HSS.out _ B8) (fun hH=> ?_)
 clear hKK KK
 try simp only[Act.put,hlA,hlB,hlC]
 obtain⟨a8,c8,rfl⟩:=rowf o8
 have x8:=kept_o' K1.out B8
 have f0:w8.frozen? ⟨w.heap.size+1,0,none⟩=false:=frozen_of_row _ _ _ _ _ x8
 have f1:w8.frozen? ⟨w.heap.size+1,1,none⟩=false:=frozen_of_row _ _ _ _ _ x8
 have y0:=blkc x8 (j:=0) rfl
 have y1:=blkc x8 (j:=1) rfl
 refine hlStep 6 rfl (by kernel_rfl) (by kernel_rfl) (fun KK hKK=> ?_)
 go_simp
 refine hKK.out _ _ ?_
 clear hKK KK
 try simp only[Act.put,hlA,hlB,hlC]
 refine hlStep 7 rfl (by kernel_rfl) (by kernel_rfl) (fun KK hKK=> ?_)
 go_simp
 refine hKK.out _ _ ?_
 clear hKK KK
 try simp only[Act.put,hlA,hlB,hlC]
 refine hlDone (by kernel_rfl) ?_ _
 rotate_left 1
 have hz2:=HZ.out
 have q1:=heap_setCell_same w8 (w.heap.size+1) 0 _ 82 (.int .i64 st) x8
 have q2:=heap_setCell_same _ (w.heap.size+1) 1 _ 82 (.slice a8 m c8) q1
 have hown:=own_of_row (show w8.ownsRow w2.heap.size 3 1 (.slice a8 m c8) fb.length (ints fb) from by rw[HY.out,←HM.out];rw[Nat.zero_add] at o8;exact o8)
 have hset:∀k,k≠w.heap.size+1→((w8.setCell ⟨w.heap.size+1,0,none⟩ (.int .i64 st)).setCell ⟨w.heap.size+1,1,none⟩ (.slice a8 m c8)).heap[k]?= w8.heap[k]?:=fun k hk=>by
  rw[heap_setCell_other _ ⟨w.heap.size+1,1,none⟩ k _ hk,heap_setCell_other _ ⟨w.heap.size+1,0,none⟩ k _ hk]
 have HOW:=Lib.hid (show Own ((w8.setCell ⟨w.heap.size+1,0,none⟩ (.int .i64 st)).setCell ⟨w.heap.size+1,1,none⟩ (.slice a8 m c8)) w.heap.size (.slice a8 m c8) fb from by
  have h1:=hown.mono (show w.heap.size≤w2.heap.size by omega)
  rcases h1 with h1 | ⟨g,off,cap,cur,h1,h2,⟨T,h3⟩,h4⟩
  · exact .inl h1
  · have hgl:=hown.lt g (by rw[h1];rfl)
    exact .inr ⟨g,off,cap,cur,h1,h2,⟨T,by rw[hset g (by omega)];exact h3⟩,h4⟩)
 have HBO:=Lib.hid (show Below w.heap.size w ((w8.setCell ⟨w.heap.size+1,0,none⟩ (.int .i64 st)).setCell ⟨w.heap.size+1,1,none⟩ (.slice a8 m c8)) from by
  have hb:=HB2.out.trans (B8.mono HB2.out.size)
  exact⟨hb.os,hb.tape,hb.output,by simpa using hb.size,fun k hk=>by rw[hset k (by omega)];exact hb.block k hk⟩)
 generalize (w8.setCell ⟨w.heap.size+1,0,none⟩ (.int .i64 st)).setCell ⟨w.heap.size+1,1,none⟩ (.slice a8 m c8)=w9 at *
 have z0:=blkc q2 (j:=0) (u:= .int .i64 st) (by simp)
 have z1:=blkc q2 (j:=1) (u:= .slice a8 m c8) (by simp)
 clear hz2 q1 q2 hown hset o8 g8 l8 x8 f0 f1 y0 y1 B8 B5
 go_wp2_with fail
 rw[HNP.out]
 exact bodyPost_ret (v:= .agg #[.int .i64 st,.slice a8 m c8]) (by simp[results,Tryz.results160,go_sem,z0,z1]) rfl ⟨_,rfl,HOW.out,HBO.out⟩
end Go.Proofs.YtofcicomhnkocaaGreat
