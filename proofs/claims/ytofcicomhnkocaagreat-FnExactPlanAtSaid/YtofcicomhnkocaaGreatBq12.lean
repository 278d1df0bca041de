/- Joined: XRou XRtc XTxtP XFms XPdp. -/
import Derived.Test.YtofcicomhnkocaaGreatAls
import Derived.Test.YtofcicomhnkocaaGreatBq05
import Derived.ArgAppend
import Derived.Deep.MidRow
import Derived.Laws.IdiomStrings
import Derived.Lib.ItoaNum
import Derived.Test.YtofcicomhnkocaaGreatBq11
import Derived.Test.YtofcicomhnkocaaGreatBq09
import Derived.Test.YtofcicomhnkocaaGreatBq07
import Derived.Lib.Join
import Derived.Test.YtofcicomhnkocaaGreatBq02
import Derived.Test.YtofcicomhnkocaaGreatBq06
import Derived.Deep.Upon
import Derived.Laws.AppendOwnNone
import Derived.Lib.SliceRun
import Derived.Maps.AppendAt
import Derived.Shelf.SlSortCmp.QuietGrown
import Derived.Shelf.Spec.SlicesInsertGrow
import Derived.Laws.EntriesVeiled
import Derived.Shelf.SlSortCmp.WholeK
import Derived.Sort.WalkA
import Derived.Test.YtofcicomhnkocaaGreatSortShelf
set_option linter.unusedVariables false
namespace Go.Proofs.YtofcicomhnkocaaGreat
set_option maxHeartbeats 12800000
open Go.RowKit Go.Sort
set_option maxRecDepth 100000
theorem othE_a {f:Fib} {t:Int} (h:t=f.a):othE f t=f.b:=by unfold othE;rw[if_pos h]
theorem othE_b {f:Fib} {t:Int} (h:¬t=f.a) (h2:t=f.b):othE f t=f.a:=by unfold othE;rw[if_neg h,if_pos h2]
theorem othE_no {f:Fib} {t:Int} (h:¬t=f.a) (h2:¬t=f.b):othE f t= -1:=by unfold othE;rw[if_neg h,if_neg h2]
theorem otherEnd_any (f:Fib) (t:Int) (w:World):
 Calls Tryz.prog 179 #[fibV f,.int .i64 t] w fun e w'=>e= .returned (.int .i64 (othE f t))∧Below w.heap.size w w':=by
 unfold fibV
 have HA:=ξh (@othE_a f t)
 have HB:=ξh (@othE_b f t)
 have HN:=ξh (@othE_no f t)
 obtain⟨bx,bc,-,-⟩:=box_facts w #[.int .i64 f.a,.int .i64 f.b,.int .i64 f.l,.int .i64 f.r] 146
 have q0:=bc 0 _ rfl
 have q1:=bc 1 _ rfl
 have HBX:=ξh bx
 clear bc bx
 generalize othE f t=o at *
 by_cases h1:t=f.a
 · have HE:=ξh (HA.out h1)
   have b1:(t==f.a)=true:=by simp[h1]
   have b2:decide (t=f.a)=true:=by simp[h1]
   clear h1
   go_enter Tryz.func179,Tryz.ntmps179
   go_wp2
   go_ret
   exact⟨by rw[HE.out];rfl,HBX.out⟩
 have b1:(t==f.a)=false:=by simp[h1]
 have b2:decide (t=f.a)=false:=by simp[h1]
 by_cases h2:t=f.b
 · have HE:=ξh (HB.out h1 h2)
   have b3:(t==f.b)=true:=by simp[h2]
   have b4:decide (t=f.b)=true:=by simp[h2]
   clear h1 h2
   go_enter Tryz.func179,Tryz.ntmps179
   go_wp2
   go_ret
   exact⟨by rw[HE.out];rfl,HBX.out⟩
 have b3:(t==f.b)=false:=by simp[h2]
 have b4:decide (t=f.b)=false:=by simp[h2]
 have HE:=ξh (HN.out h1 h2)
 clear h1 h2
 go_enter Tryz.func179,Tryz.ntmps179
 go_wp2
 go_ret
 exact⟨by rw[HE.out];rfl,HBX.out⟩
theorem l2Other_any (u1 u2:Value) (n:Net) (k:Nat) (t:Int) (w:World) (h:Rdt w (flt 4 fibE n.fs) u2) (h1:∃a m c,u1= .slice a m c) (hk:k<n.fs.length):
 Calls Tryz.prog 232 #[.agg #[u1,u2],.int .i64 k,.int .i64 t] w fun e w'=>e= .returned (.int .i64 (othE (fbA n k) t))∧Below w.heap.size w w':=by
 obtain⟨a1,m1,c1,rfl⟩:=h1
 obtain⟨a2,m2,c2,rfl,HN2,hc2,hm2,ha2⟩:=flt_opn (m:=4) (enc:=fibE) (fun _=>rfl) (by omega) nilB h
 have hk2:k<m2:=by have:=HN2.out;omega
 obtain⟨b,off,rfl,hbs,hcs⟩:=ha2 (by omega)
 obtain⟨bx,bc,-,-⟩:=box_facts w #[.slice a1 m1 c1,.slice (some ⟨b,off,none⟩) m2 c2] 35
 have q0:=bc 0 _ rfl
 have q1:=bc 1 _ rfl
 have HBX:=ξh bx
 have e0:=(bx.cell (p:=⟨b,off+k*4+0,none⟩) hbs).trans (hcs k hk2 0 _ rfl)
 have e1:=(bx.cell (p:=⟨b,off+k*4+1,none⟩) hbs).trans (hcs k hk2 1 _ rfl)
 have e2:=(bx.cell (p:=⟨b,off+k*4+2,none⟩) hbs).trans (hcs k hk2 2 _ rfl)
 have e3:=(bx.cell (p:=⟨b,off+k*4+3,none⟩) hbs).trans (hcs k hk2 3 _ rfl)
 simp only[Nat.add_zero] at e0
 have hkI:(k:Int)<(m2:Int):=by omega
 unfold fbA
 clear hcs bc bx ha2 h hk
 generalize n.fs[k]?.getD nilB=f at *
 have HA:=ξh (@othE_a f t)
 have HB:=ξh (@othE_b f t)
 have HN:=ξh (@othE_no f t)
 have HBY:=ξh (fun(w1:World)=>(box_facts w1 #[.int .i64 f.a,.int .i64 f.b,.int .i64 f.l,.int .i64 f.r] 146).1)
 generalize othE f t=o at *
 go_enter Tryz.func232,Tryz.ntmps232
 by_cases h1:t=f.a
 · have HE:=ξh (HA.out h1)
   have b1:(t==f.a)=true:=by simp[h1]
   have b2:decide (t=f.a)=true:=by simp[h1]
   clear h1
   go_wp2
   go_ret
   exact⟨by rw[HE.out];rfl,HBX.out.trans ((HBY.out _).mono HBX.out.size)⟩
 have b1:(t==f.a)=false:=by simp[h1]
 have b2:decide (t=f.a)=false:=by simp[h1]
 by_cases h2:t=f.b
 · have HE:=ξh (HB.out h1 h2)
   have b3:(t==f.b)=true:=by simp[h2]
   have b4:decide (t=f.b)=true:=by simp[h2]
   clear h1 h2
   go_wp2
   go_ret
   exact⟨by rw[HE.out];rfl,HBX.out.trans ((HBY.out _).mono HBX.out.size)⟩
 have b3:(t==f.b)=false:=by simp[h2]
 have b4:decide (t=f.b)=false:=by simp[h2]
 have HE:=ξh (HN.out h1 h2)
 clear h1 h2
 go_wp2
 go_ret
 exact⟨by rw[HE.out];rfl,HBX.out.trans ((HBY.out _).mono HBX.out.size)⟩
theorem nodup_len:∀(m:Nat) {xs:List Int},xs.Nodup→(∀x∈xs,0≤x∧x<(m:Int))→xs.length≤m
 | 0,xs,_,h=>by
   cases xs with
   | nil=>simp
   | cons x xs=>have:=h x (by simp);omega
 | m+1,xs,hn,h=>by
   have h2:∀x∈xs.erase (m:Int),0≤x∧x<(m:Int):=fun x hx=>by
    have hm:=(List.Nodup.mem_erase_iff hn).1 hx
    have:=h x hm.2
    omega
   have:=nodup_len m (hn.erase _) h2
   by_cases hm:(m:Int)∈xs
   · rw[List.length_erase_of_mem hm] at this;omega
   · rw[List.erase_of_not_mem hm] at this;omega
theorem cloneI_any (v:Value) (xs:List Int) (w:World) (h:Rd w v xs) (h0:0<xs.length) (hl:xs.length≤1000000):
 Calls Tryz.prog 239 #[v] w fun e w'=>∃v',e= .returned v'∧Own w' w.heap.size v' xs∧Below w.heap.size w w':=by
 have hrd:=h.belowAll (((ξb _ _).alloc (ξr _) _:Below w.heap.size w (w.alloc (.cells #[] 3))))
 obtain⟨a,cap,n,HX,rfl,_,_,ha⟩:=h.opn
 obtain⟨b,off,rfl,_,_⟩:=ha (by rw[←HX.out];exact h0)
 have hn:n≤1000000:=by rw[←HX.out];exact hl
 have HC:=ξh (fun j u (hu:(ints xs)[j]?= some u)=>hrd.cellsOf _ rfl j u hu)
 have hnil:∀w:World,(binOp .eql 58 (.slice (some ⟨b,off,none⟩) n cap) (.slice none 0 0)).run Tryz.prog w= .ok (.bool false) w:=fun _=>rfl
 go_enter Tryz.func239,Tryz.ntmps239
 go_wp2_with (at_builtin;refine wpList_catG rfl (.tmp 5) (.tmp 6) 58 3 rfl Tryz.underlying58 (.int .i64 0) 1 8 Tryz.infoInt rfl (by decide) w.heap.size (.slice (some ⟨w.heap.size,0,none⟩) 0 0) 0 [] (by rfl) (World.ownsRow_made w #[] 0 (ξr _) (Nat.zero_le _) (by simp)) (some ⟨b,off,none⟩) n cap (ints xs) (by rfl) (by simp[ints,HX.out]) (fun e=>by cases e) (fun ad e j u hu=>by cases e;exact HC.out j u hu) (fun u hu=>by obtain⟨z,-,rfl⟩:=List.mem_map.1 hu;rfl) (by unfold maxLen;omega) (by omega) (by simp) ?_;intro v' w1 hown1 hgrow1 hl1)
 go_ret
 exact⟨_,rfl,own_of_row (by rw[Nat.zero_add,←HX.out] at hown1;exact hown1),((ξb _ _).alloc (ξr _) _).grown hgrow1 (by simp) (fun k hk=>by have e:w.heap.size=k:=(by simpa[Value.ownBlock] using hk);exact Nat.le_of_eq e)⟩
def SeenM (M:Nat) (seen:List Int):Prop:=M<256∧ ∀j:Nat,j<8→(M.testBit j=true↔(j:Int)∈seen)
theorem SeenM.next {M:Nat} {seen:List Int} {k:Nat} (h:SeenM M seen) (hk:k<8):SeenM (M ||| 2 ^ k) (seen++[(k:Int)]):=by
 have hp:2 ^ k<2 ^ 8:=Nat.pow_lt_pow_right (by omega) hk
 refine⟨or_lt (k:=8) h.1 hp,fun j hj=> ?_⟩
 rw[Nat.testBit_or,Bool.or_eq_true,h.2 j hj,List.mem_append,List.mem_singleton,Nat.testBit_two_pow,decide_eq_true_eq]
 exact or_congr Iff.rfl (by omega)
def ExtQ (base q0 q1 q2 q3 q4:Nat) (st:Int) (L:List (List Int)) (v:Value) (ps:List (List Int × Value)) (w:World) (e:Ending) (w':World):Prop:=
 e= .returned (.tuple #[])∧ ∃v' ps',RbS w' base q0 q1 q2 q3 q4 st v' ps'∧ps'.map Prod.fst=ps.map Prod.fst++L∧Mv (TQ q1 v) (TQ q1 v') w w'
structure ExtA (wA:World) (base q0 q1 q2 q3 q4:Nat) (fr tn:Int) (u1 u2:Value) (n:Net):Prop where
 net:Rdt wA (flt 4 fibE n.fs) u2
 u1s:∃a m c,u1= .slice a m c
 fl:n.fs.length≤14
 nl:n.ns.length≤8
 ends:∀i,i<n.fs.length→0≤(fbA n i).a∧(fbA n i).a<n.ns.length∧0≤(fbA n i).b∧(fbA n i).b<n.ns.length
 ne:q0≠q1∧q2≠q1∧q3≠q1∧q4≠q1
 lo:wA.heap.size≤base∧wA.heap.size≤q1
structure ExtP (wA w:World) (base q0 q1 q2 q3 q4:Nat) (fr tn:Int) (u1 u2:Value) (n:Net) (f:Nat) (t:Int) (seen:List Int) (M:Nat) (vl:Value) (fb:List Int) (v:Value) (ps:List (List Int × Value)):Prop where
 env:RbE w q0 q1 q2 q3 q4 fr tn u1 u2
 sta:RbS w base q0 q1 q2 q3 q4 fr v ps
 bel:Below wA.heap.size wA w
 own:Own w 0 vl fb
 bas:base≤w.heap.size
 apt:∀g,vl.ownBlock=some g→ ¬TQ q1 v g
 fbl:fb.length+1=seen.length
 fue:f+seen.length=n.ns.length+2
 nod:seen.Nodup
 rng:∀s∈seen,0≤s∧s<n.ns.length
 msk:SeenM M seen
 tin:0≤t∧t<n.ns.length
 end_:t=tn→0<fb.length
 cap:ps.length+(extR n tn f t seen fb).length≤1000000000000
theorem ExtA.th {wA:World} {base q0 q1 q2 q3 q4:Nat} {fr tn:Int} {u1 u2:Value} {n:Net} (h:ExtA wA base q0 q1 q2 q3 q4 fr tn u1 u2 n) {k:Nat} (hk:k<n.fs.length) (t:Int): -1≤othE (fbA n k) t∧othE (fbA n k) t<n.ns.length:=by
 have:=h.ends k hk
 unfold othE
 split
 · omega
 · split <;> omega
theorem extEnd_any {wA w:World} {base q0 q1 q2 q3 q4:Nat} {fr tn:Int} {u1 u2:Value} {n:Net} {f:Nat} {t:Int} {seen:List Int} {M:Nat} {vl:Value} {fb:List Int} {v:Value} {ps:List (List Int × Value)} (hA:ExtA wA base q0 q1 q2 q3 q4 fr tn u1 u2 n) (h:ExtP wA w base q0 q1 q2 q3 q4 fr tn u1 u2 n (f+1) t seen M vl fb v ps) (ht:t=tn):
 Calls Tryz.prog 238 #[.int .i64 t,.int .i64 M,vl,ptr q0,ptr q1,ptr q2,ptr q3,ptr q4] w (ExtQ base q0 q1 q2 q3 q4 fr [fb] v ps w):=by
 obtain⟨NP,hNP⟩:∃NP,NP=ExtQ base q0 q1 q2 q3 q4 fr [fb] v ps w:=⟨_,rfl⟩
 rw[←hNP]
 have HCL:=ξh (fun w' (hb:Below w.heap.size w w')=>cloneI_any vl fb w' (h.own.rd.belowAll hb) (h.end_ ht) (by have:=h.fbl;have:=h.fue;have:=hA.nl;omega))
 have HPU:=ξh (fun(W2 W3:World) (v' vc:Value) (lo:Nat) hb hr hg hl hc hlo=>RbS.push (W2:=W2) (W3:=W3) (v':=v') (vc:=vc) (lo:=lo) (fb:=fb) h.sta ⟨World.block_lt_of_cell? _ _ h.env.c0,World.block_lt_of_cell? _ _ h.env.c2,World.block_lt_of_cell? _ _ h.env.c3,World.block_lt_of_cell? _ _ h.env.c4⟩ hb hr hg hl hc hlo)
 have e0:=h.env.c0
 have HSTA:=ξh h.sta
 have HENV:=ξh h.env
 have HRL:=ξh (fun g e=>(h.sta.row.lt g e))
 have hps:ps.length<1000000000000:=by
  have:=h.cap
  rw[extR,if_pos ht] at this
  simp at this;omega
 have hq1:q1<w.heap.size:=(ξa h.sta.box).1
 have htb:(t==tn)=true:=by simp[ht]
 have htd:decide (t=tn)=true:=by simp[ht]
 obtain⟨a5,m5,c5,rfl⟩:=own_slice h.own
 obtain⟨av,cv,rfl⟩:=rowf h.sta.row
 have HSS:=ξh (fun(w':World) (hb:Below w.heap.size w w')=>show w'.cell? ⟨q1,0,none⟩=some (.slice av ps.length cv)∧w'.cell? ⟨q2,0,none⟩=some (.int .i64 fr) from
  ⟨(hb.cell (p:=⟨q1,0,none⟩) hq1).trans (blkc HSTA.out.box rfl),(hb.cell (p:=⟨q2,0,none⟩) (World.block_lt_of_cell? _ _ HENV.out.c2)).trans HENV.out.c2⟩)
 have HRW:=ξh (fun(w':World) (hb:Below w.heap.size w w')=>owr_below HSTA.out.row hb)
 have HBS:=ξh h.bas
 generalize hm:ps.length=m at *
 have HM:=ξh hm
 have HNP:=ξh hNP
 clear h ht hm hNP
 go_enter Tryz.func238,Tryz.ntmps238
 go_upto_region 1 with fail
 refine wp_region_L [0,1,2,3,4,5,6] (S:=fun w'=>w'.cell? ⟨q1,0,none⟩=some (.slice av m cv)∧w'.cell? ⟨q2,0,none⟩=some (.int .i64 fr)) (by kernel_rfl) (HSS.out _ (ξb _ _).drew) (fun hH=> ?_)
 refine hlF 0 rfl hH ?_
 try simp only[Act.put,hlA,hlB,hlC]
 refine hlF 1 rfl hH ?_
 try simp only[Act.put,hlA,hlB,hlC]
 refine hlF 2 rfl hH ?_
 try simp only[Act.put,hlA,hlB,hlC]
 refine hlReady (rs:=[3]) (by kernel_rfl) (by simp) ?_
 refine AllReadyL.cons rfl (fun KK hKK=> ?_) AllReadyL.nil
 go_simp
 go_at_call 239
 refine(HCL.out _ (ξb _ _).drew).mono ?_
 rintro e w20 ⟨v20,rfl,o20,b20⟩
 have B20:Below w.heap.size w w20:=((ξb w.heap.size w).drew).trans (b20.mono (by simp))
 obtain⟨a20,n20,c20,rfl⟩:=own_slice o20
 refine hKK.out _ _ (HSS.out _ B20) (fun hH=> ?_)
 clear hKK KK
 try simp only[Act.put,hlA,hlB,hlC]
 refine hlF 4 rfl hH ?_
 try simp only[Act.put,hlA,hlB,hlC]
 refine hlReady (rs:=[5]) (by kernel_rfl) (by simp) ?_
 refine AllReadyL.cons rfl (fun KK hKK=> ?_) AllReadyL.nil
 go_simp
 have B22:=B20.alloc B20.size (.cells #[.int .i64 fr,.slice a20 n20 c20] 82)
 have o22:=o20.belowAll ((ξb w20.heap.size w20).alloc (ξr _) (.cells #[.int .i64 fr,.slice a20 n20 c20] 82))
 refine hKK.out _ _ (HSS.out _ B22) (fun hH=> ?_)
 clear hKK KK
 try simp only[Act.put,hlA,hlB,hlC]
 refine hlStep 6 rfl (by kernel_rfl) (by kernel_rfl) (fun KK hKK=> ?_)
 refine step_of_list rfl ?_
 refine wpList_catG rfl (.tmp 17) (.tmp 22) 176 82 rfl Tryz.underlying176 (.agg #[.int .i64 0,.slice none 0 0]) 2 32 Tryz.infoRou rfl (by decide) base (.slice av m cv) m (rcs fr ps) (by rfl) (HRW.out _ B22) (some ⟨w20.heap.size,0,none⟩) 1 1 [.int .i64 fr,.slice a20 n20 c20] (by rfl) rfl (fun e=>by cases e) (new_cells (us:=[.int .i64 fr,.slice a20 n20 c20])) (fun u hu=>by simp at hu;rcases hu with rfl | rfl <;> rfl) (by unfold maxLen;omega) (by omega) (ξs HBS.out B22.size) ?_
 intro v23 w23 o23 g23 l23
 have P23:=ξh (HPU.out _ _ v23 (.slice a20 n20 c20) w.heap.size B22 o23 g23 l23 (o22.mono (by simp)) (ξr _))
 have x23:w23.heap[q1]?= some (.cells #[.slice av m cv] 176 (0,0)):=by rw[g23.block q1 (ξq hq1 B22.size) (fun e=>(HSTA.out.vq q1 e.symm).2.1 rfl),B22.block q1 hq1];exact HSTA.out.box
 unfold wpList
 refine⟨rfl,?_⟩
 refine hKK.out _ _ ?_
 clear hKK KK
 try simp only[Act.put,hlA,hlB,hlC]
 obtain⟨a23,c23,rfl⟩:=rowf o23
 have y23:=blkc x23 (j:=0) rfl
 have f23:w23.frozen? ⟨q1,0,none⟩=false:=by simp only[World.frozen?,x23];rfl
 refine hlStep 7 rfl (by kernel_rfl) (by kernel_rfl) (fun KK hKK=> ?_)
 go_simp
 refine hKK.out _ _ ?_
 clear hKK KK
 try simp only[Act.put,hlA,hlB,hlC]
 refine hlDone (by kernel_rfl) ?_ _
 rotate_left 1
 clear o23 g23 l23 x23 y23 f23 o22 B22 o20 b20 B20
 go_wp2_with fail
 rw[HNP.out]
 exact bodyPost_ret (v:= .tuple #[]) (by simp[results,Tryz.results238,go_sem]) rfl ⟨rfl,_,ps++[(fb,_)],P23.out.1,by simp,P23.out.2⟩
def extI (n:Net) (tn:Int) (f:Nat) (t:Int) (seen fb:List Int) (i:Nat):List (List Int):=if 0≤othE (fbA n i) t∧othE (fbA n i) t ∉ seen then extR n tn f (othE (fbA n i) t) (seen++[othE (fbA n i) t]) (fb++[(i:Int)]) else[]
theorem extR_go {n:Net} {tn t:Int} (h:¬t=tn) (f:Nat) (seen fb:List Int):extR n tn (f+1) t seen fb=(List.range n.fs.length).flatMap (extI n tn f t seen fb):=by rw[extR,if_neg h];rfl
theorem range_step {α:Type} (g:Nat→List α) (k:Nat):(List.range (k+1)).flatMap g=(List.range k).flatMap g++g k:=by rw[List.range_succ,List.flatMap_append];simp
theorem range_len_le {α:Type} (g:Nat→List α) {k m:Nat} (h:k≤m):((List.range k).flatMap g).length≤((List.range m).flatMap g).length:=by
 induction m with
 | zero=>obtain rfl:k=0:=by omega
         exact ξr _
 | succ m ih=>
   by_cases e:k=m+1
   · subst e;exact ξr _
   · have:=ih (by omega)
     rw[range_step,List.length_append];omega
theorem extGo_any {wA:World} {base q0 q1 q2 q3 q4:Nat} {fr tn:Int} {u1 u2:Value} {n:Net} (hA:ExtA wA base q0 q1 q2 q3 q4 fr tn u1 u2 n) {f:Nat}
 (IH:∀(t:Int) (seen:List Int) (M:Nat) (vl:Value) (fb:List Int) (v:Value) (ps:List (List Int × Value)) (w:World),ExtP wA w base q0 q1 q2 q3 q4 fr tn u1 u2 n f t seen M vl fb v ps→Calls Tryz.prog 238 #[.int .i64 t,.int .i64 M,vl,ptr q0,ptr q1,ptr q2,ptr q3,ptr q4] w (ExtQ base q0 q1 q2 q3 q4 fr (extR n tn f t seen fb) v ps w))
 {t:Int} {seen:List Int} {M:Nat} {vl:Value} {fb:List Int} {v:Value} {ps:List (List Int × Value)} {w:World} (h:ExtP wA w base q0 q1 q2 q3 q4 fr tn u1 u2 n (f+1) t seen M vl fb v ps) (ht:¬t=tn):
 Calls Tryz.prog 238 #[.int .i64 t,.int .i64 M,vl,ptr q0,ptr q1,ptr q2,ptr q3,ptr q4] w (ExtQ base q0 q1 q2 q3 q4 fr (extR n tn (f+1) t seen fb) v ps w):=by
 obtain⟨NP,hNP⟩:∃NP,NP=ExtQ base q0 q1 q2 q3 q4 fr (extR n tn (f+1) t seen fb) v ps w:=⟨_,rfl⟩
 rw[←hNP]
 rw[extR_go ht] at hNP
 have hcap:=h.cap
 rw[extR_go ht] at hcap
 obtain⟨aN,mN,cN,hu1⟩:=hA.u1s
 obtain⟨a2,m2,c2,hu2,HN2,hc2,hm2,ha2⟩:=flt_opn (m:=4) (enc:=fibE) (fun _=>rfl) (by omega) nilB hA.net
 obtain⟨a5,m5,c5,rfl⟩:=own_slice h.own
 subst hu1
 subst hu2
 have HA2:=ξh ha2
 have HP:=ξh h
 have HH:=ξh hA
 have HIH:=ξh IH
 have HNP:=ξh hNP
 have e0:=h.env.c0
 have q5:=h.env.c5
 have HCAP:=ξh hcap
 have HE:=ξh (fun k (hk:k<m2)=>hA.th (by rw[HN2.out];exact hk) t)
 have HST:=ξh (show∃ps',RbS w base q0 q1 q2 q3 q4 fr v ps'∧ps'.map Prod.fst=ps.map Prod.fst++(List.range 0).flatMap (extI n tn f t seen fb)∧Mv (TQ q1 v) (TQ q1 v) w w from⟨ps,h.sta,by simp,Mv.refl _ _⟩)
 have hm14:m2≤14:=by rw[←HN2.out];exact hA.fl
 have htb:(t==tn)=false:=by simpa using ht
 have htd:decide (t=tn)=false:=by simpa using ht
 rw[HN2.out] at HNP HCAP
 have HNN:=ξh (show n.ns.length≤8 from hA.nl)
 have HML:=ξh (show M<16777216 from by have:=h.msk.1;omega)
 clear h hA IH hNP hcap ha2 ht
 go_enter Tryz.func238,Tryz.ntmps238
 go_wp2
 go_loopw [11,12,13,27] (fun _ _ _ c wr=>∃(k:Nat) (v':Value),k≤m2∧c= .int .i64 k∧Hid (∃ps',RbS wr base q0 q1 q2 q3 q4 fr v' ps'∧ps'.map Prod.fst=ps.map Prod.fst++(List.range k).flatMap (extI n tn f t seen fb)∧Mv (TQ q1 v) (TQ q1 v') w wr)) (fun _ _ _ c _=>m2-(intOf c).toNat)
 case atStart=>exact⟨0,v,Nat.zero_le _,rfl,HST⟩
 case round=>
  obtain⟨k,v',hk,rfl,HD⟩:=hrel
  by_cases hlt:k<m2
  · have hltI:(k:Int)<(m2:Int):=by omega
    obtain⟨b2,off2,rfl,hbs,hcs⟩:=HA2.out (by omega)
    obtain⟨ps',hS,hM,hV⟩:=HD.out
    have hBW:Below wA.heap.size wA wr:=hV.below HP.out.bel HP.out.bel.size (fun g hg=>by
     rcases hg with rfl | hg
     · exact HH.out.lo.2
     · have:=(HP.out.sta.row.lt g hg).1
       have:=HH.out.lo.1
       omega)
    have e1:wr.cell? ⟨b2,off2+k*4,none⟩=_:=(hBW.cell (p:=⟨b2,off2+k*4+0,none⟩) hbs).trans (hcs k hlt 0 _ rfl)
    have e2:=(hBW.cell (p:=⟨b2,off2+k*4+1,none⟩) hbs).trans (hcs k hlt 1 _ rfl)
    have e3:=(hBW.cell (p:=⟨b2,off2+k*4+2,none⟩) hbs).trans (hcs k hlt 2 _ rfl)
    have e4:=(hBW.cell (p:=⟨b2,off2+k*4+3,none⟩) hbs).trans (hcs k hlt 3 _ rfl)
    have HX:=ξh (HE.out k hlt)
    have HOE:=ξh (fun w'=>otherEnd_any (fbA n k) t w')
    have HEI:=ξh (show extI n tn f t seen fb k=if 0≤othE (fbA n k) t∧othE (fbA n k) t ∉ seen then extR n tn f (othE (fbA n k) t) (seen++[othE (fbA n k) t]) (fb++[(k:Int)]) else[] from rfl)
    have HS:=ξh hS
    have HMP:=ξh hM
    have HMV:=ξh hV
    have HBW:=ξh hBW
    clear hcs hS hM hV hBW
    unfold fibV fbA at HOE
    unfold fbA at HX HEI
    generalize n.fs[k]?.getD nilB=ff at *
    generalize othE ff t=o at *
    generalize hfa:ff.a=fa at *
    generalize hfl:ff.b=fbb at *
    generalize hfc:ff.l=fl at *
    generalize hfr:ff.r=frr at *
    clear hfa hfl hfc hfr
    go_wp2_with fail
    refine(HOE.out _).mono ?_
    rintro e w2 ⟨rfl,b2'⟩
    have HB:=ξh (((ξb wr.heap.size wr).alloc (ξr _) (.cells #[.int .i64 fa,.int .i64 fbb,.int .i64 fl,.int .i64 frr] 146)).trans (b2'.mono (by simp)))
    clear b2' e1 e2 e3 e4 hbs
    have HRG:=ξh (range_step (extI n tn f t seen fb) k)
    by_cases ho:0≤o
    · obtain⟨c,rfl⟩:=Int.eq_ofNat_of_zero_le ho
      have hc8:c<8:=by have:=HX.out;have:=HNN.out;omega
      have HMK:=ξh (HP.out.msk.2 c hc8)
      have hod:decide ((c:Int)≥0)=true:=ξt (by omega)
      by_cases hmem:(c:Int)∈seen
      · have hbit:=bit_on HML.out (HMK.out.2 hmem)
        have HEX:=ξh (HEI.out.trans (if_neg (fun hh=>hh.2 hmem)))
        clear hmem ho
        go_wp2
        go_roundw
        case rel=>exact⟨k+1,v',by omega,by go_num,ps',HS.out.below HB.out,by rw[HRG.out,HEX.out,List.append_nil];exact HMP.out,HMV.out.trans (Mv.of_below HB.out)⟩
        case measure=>simp[intOf];omega
      · have hbit:=bit_off HML.out (by cases hq:M.testBit c with | false=>rfl | true=>exact absurd (HMK.out.1 hq) hmem)
        have HEX:=ξh (HEI.out.trans (if_pos ⟨ho,hmem⟩))
        have HMEM:=ξh hmem
        obtain⟨pw,hpw⟩:∃pw,pw=2 ^ c:=⟨_,rfl⟩
        have hsh:=shl_one (k:=c) (by omega)
        rw[←hpw] at hsh
        have hpl:pw<16777216:=by rw[hpw];exact pow_lt24 (by omega)
        have HSH2:=ξh (show IntKind.i64.wrap ((2:Int) ^ c)=(pw:Int) from by
         rw[show((2:Int) ^ c)=(pw:Int) by rw[hpw];simp,ξi _ (by omega)])
        have hor:=bits_or HML.out hpl
        have HPW:=ξh hpw
        obtain⟨M2,hM2⟩:∃M2,M2=M ||| pw:=⟨_,rfl⟩
        rw[←hM2] at hor
        have HM2:=ξh hM2
        have HFB:=ξh (show fb.length=m5∧m5≤c5∧m5≤9∧(a5=none→m5=0∧m5=0)∧ ∀b,a5=some b→ ∀j u,(ints fb)[j]?= some u→w.cell? (b.add j)=some u from by
         have hrd:=HP.out.own.rd
         obtain⟨a',cap',hv,g1,g2,g3⟩:=full_ok hrd
         simp only[Value.slice.injEq] at hv
         obtain⟨rfl,rfl,rfl⟩:=hv
         have h1:=HP.out.fbl
         have h2:=HP.out.fue
         have h3:=HNN.out
         exact⟨rfl,g1,by omega,fun e=>⟨(g2 e).1,(g2 e).1⟩,g3⟩)
        have HCC:=ξh (fun(w':World) (hb:Below w2.heap.size w2 w')=>show∀b,a5=some b→ ∀j u,(ints fb)[j]?= some u→w'.cell? (b.add j)=some u from by
         have hrd:=((HP.out.own.rd.keptM HMV.out HP.out.apt).belowAll HB.out).belowAll hb
         exact hrd.cellsOf)
        have hm59:m5≤9:=HFB.out.2.2.1
        have hm5c:m5≤c5:=HFB.out.2.1
        have hm5I:(m5:Int)≤(c5:Int):=by omega
        have HEN:=ξh ((HP.out.env.mv HMV.out HP.out.sta.vq HH.out.ne).below HB.out)
        have hq4:=World.block_lt_of_cell? _ _ HEN.out.c4
        have HS4:=ξh (fun(w':World) (hb:Below w2.heap.size w2 w')=>show w'.cell? ⟨q4,0,none⟩=_ from(hb.cell (p:=⟨q4,0,none⟩) hq4).trans HEN.out.c4)
        clear hpw hM2 hmem ho
        obtain⟨i0,hi,hz0,hz1,hz2⟩:=info_parts Tryz.infoInt
        go_wp2_with fail
        refine wp_region_L [0,1,2,3,4,5,6,7,8,9,10,11,12,13,14,15] (S:=fun w'=>w'.cell? ⟨q4,0,none⟩=some (.func (.func 238) #[] #[ptr q0,ptr q1,ptr q2,ptr q3,ptr q4])) (by kernel_rfl) (HS4.out _ (ξb _ _).drew) (fun hH=> ?_)
        refine hlF 0 rfl hH ?_
        try simp only[Act.put,hlA,hlB,hlC]
        refine hlF 1 rfl hH ?_
        try simp only[Act.put,hlA,hlB,hlC]
        refine hlF 2 rfl hH ?_
        try simp only[Act.put,hlA,hlB,hlC]
        refine hlF 3 rfl hH ?_
        try simp only[Act.put,hlA,hlB,hlC]
        refine hlF 4 rfl hH ?_
        try simp only[Act.put,hlA,hlB,hlC]
        refine hlF 5 rfl hH ?_
        try simp only[Act.put,hlA,hlB,hlC]
        refine hlF 6 rfl hH ?_
        try simp only[Act.put,hlA,hlB,hlC]
        refine hlF 7 rfl hH ?_
        try simp only[Act.put,hlA,hlB,hlC]
        refine hlF 8 rfl hH ?_
        try simp only[Act.put,hlA,hlB,hlC]
        refine hlF 9 rfl hH ?_
        try simp only[Act.put,hlA,hlB,hlC]
        refine hlF 10 rfl hH ?_
        try simp only[Act.put,hlA,hlB,hlC]
        refine hlF 11 rfl hH ?_
        try simp only[Act.put,hlA,hlB,hlC]
        refine hlF 12 rfl hH ?_
        try simp only[Act.put,hlA,hlB,hlC]
        refine hlReady (rs:=[13]) (by kernel_rfl) (by simp) ?_
        refine AllReadyL.cons rfl (fun KK hKK=> ?_) AllReadyL.nil
        go_simp
        have B57:Below w2.heap.size w2 (w2.drew.alloc (.cells #[.int .i64 (k:Int)] 3)):=((ξb w2.heap.size w2).drew).alloc (by simp) _
        refine hKK.out _ _ (HS4.out _ B57) (fun hH=> ?_)
        clear hKK KK
        try simp only[Act.put,hlA,hlB,hlC]
        refine hlReady (rs:=[14]) (by kernel_rfl) (by simp) ?_
        refine AllReadyL.cons rfl (fun KK hKK=> ?_) AllReadyL.nil
        refine step_of_list rfl ?_
        refine wpList_append_grows _ rfl (.tmp 55) (.tmp 57) 58 rfl 3 i0 (.int .i64 0) 1 8 Tryz.underlying58 hi hz0 hz1 hz2 rfl (by decide) a5 m5 m5 (ints fb) rfl HFB.out.2.2.2.1 (by rw[←HFB.out.1];simp[ints]) (HCC.out _ B57) ⟨w2.drew.heap.size,0,none⟩ 1 1 [.int .i64 (k:Int)] rfl rfl (new_cells (us:=[.int .i64 (k:Int)]) _ rfl) (by simp[Value.oneCell']) (by omega) (by unfold maxLen;omega) (by omega) ?_
        intro v58 w58 o58 g58
        have B58:Below w2.heap.size w2 w58:=Below.grown B57 g58 B57.size (fun q hq=>by cases hq)
        unfold wpList
        refine⟨rfl,?_⟩
        refine hKK.out _ _ (HS4.out _ B58) (fun hH=> ?_)
        clear hKK KK
        try simp only[Act.put,hlA,hlB,hlC]
        refine hlStep 15 rfl (by kernel_rfl) (by kernel_rfl) (fun KK hKK=> ?_)
        go_simp
        have o59:w58.ownsRow (w2.drew.alloc (.cells #[.int .i64 (k:Int)] 3)).heap.size 3 1 v58 (fb++[(k:Int)]).length (ints (fb++[(k:Int)])):=by
         rw[show(fb++[(k:Int)]).length=m5+1 by rw[List.length_append,HFB.out.1];rfl,show ints (fb++[(k:Int)])=ints fb++[.int .i64 (k:Int)] by simp[ints]]
         exact o58
        have hz2:=HB.out.size
        have HPC:=ξh (show ExtP wA w58 base q0 q1 q2 q3 q4 fr tn (.slice aN mN cN) (.slice (some ⟨b2,off2,none⟩) m2 c2) n f (c:Int) (seen++[(c:Int)]) M2 v58 (fb++[(k:Int)]) v' ps' from
         {env:=HEN.out.below B58
          sta:=(HS.out.below HB.out).below B58
          bel:=(HBW.out.trans (HB.out.mono HBW.out.size)).trans (B58.mono (ξs HBW.out.size hz2))
          own:=(own_of_row o59).mono (Nat.zero_le _)
          bas:=ξs HP.out.bas (ξs HMV.out.size (ξs hz2 B58.size))
          apt:=fun g hg hT=>by
           have h1:=(o59.lt g hg).1
           have h2:w2.heap.size≤g:=by simp at h1;omega
           rcases hT with hT | hT
           · have:=(ξa HS.out.box).1;omega
           · have:=(HS.out.row.lt g hT).2;omega
          fbl:=by have:=HP.out.fbl;rw[List.length_append,List.length_append];simp only[List.length_singleton];omega
          fue:=by have:=HP.out.fue;rw[List.length_append];simp only[List.length_singleton];omega
          nod:=List.nodup_append.2 ⟨HP.out.nod,by simp,fun x hx y hy e=>by rw[List.mem_singleton.1 hy] at e;exact HMEM.out (e▸hx)⟩
          rng:=fun x hx=>by
           rcases List.mem_append.1 hx with hx | hx
           · exact HP.out.rng x hx
           · rw[List.mem_singleton.1 hx];have:=HX.out;omega
          msk:=by rw[HM2.out,HPW.out];exact HP.out.msk.next hc8
          tin:=by have:=HX.out;omega
          end_:=fun _=>by rw[List.length_append];simp
          cap:=by
           have h1:=HCAP.out
           have h2:=congrArg List.length HMP.out
           have h3:=range_len_le (extI n tn f t seen fb) (show k+1≤m2 from hlt)
           rw[HRG.out,HEX.out,List.length_append] at h3
           rw[List.length_append,List.length_map,List.length_map] at h2
           omega})
        rw[HSH2.out,hor]
        refine(HIH.out _ _ _ _ _ _ _ _ HPC.out).mono ?_
        rintro e w9 ⟨rfl,v9,ps9,s9,m9,mv9⟩
        refine hKK.out _ _ ?_
        clear hKK KK
        try simp only[Act.put,hlA,hlB,hlC]
        refine hlDone (by kernel_rfl) ?_ _
        rotate_left 1
        have H9:=ξh (show∃ps',RbS w9 base q0 q1 q2 q3 q4 fr v9 ps'∧ps'.map Prod.fst=ps.map Prod.fst++(List.range (k+1)).flatMap (extI n tn f t seen fb)∧Mv (TQ q1 v) (TQ q1 v9) w w9 from
         ⟨ps9,s9,by rw[m9,HMP.out,HRG.out,HEX.out,List.append_assoc],HMV.out.trans ((Mv.of_below HB.out).trans ((Mv.of_below B58).trans mv9))⟩)
        clear s9 m9 mv9 o58 o59 g58 B58 B57 HPC
        go_wp2_with fail
        go_roundw
        case rel=>exact⟨k+1,v9,by omega,by go_num,H9⟩
        case measure=>simp[intOf];omega
    · have hod:decide (o≥0)=false:=ξf ho
      have HEX:=ξh (HEI.out.trans (if_neg (fun hh=>ho hh.1)))
      clear ho
      go_wp2
      go_roundw
      case rel=>exact⟨k+1,v',by omega,by go_num,ps',HS.out.below HB.out,by rw[HRG.out,HEX.out,List.append_nil];exact HMP.out,HMV.out.trans (Mv.of_below HB.out)⟩
      case measure=>simp[intOf];omega
  · obtain rfl:k=m2:=by omega
    go_wp2
    rw[HNP.out]
    obtain⟨ps',hS,hM,hV⟩:=HD.out
    go_end0
    exact⟨rfl,v',ps',hS,hM,hV⟩
theorem ext_any {wA:World} {base q0 q1 q2 q3 q4:Nat} {fr tn:Int} {u1 u2:Value} {n:Net} (hA:ExtA wA base q0 q1 q2 q3 q4 fr tn u1 u2 n):∀(f:Nat) (t:Int) (seen:List Int) (M:Nat) (vl:Value) (fb:List Int) (v:Value) (ps:List (List Int × Value)) (w:World),ExtP wA w base q0 q1 q2 q3 q4 fr tn u1 u2 n f t seen M vl fb v ps→Calls Tryz.prog 238 #[.int .i64 t,.int .i64 M,vl,ptr q0,ptr q1,ptr q2,ptr q3,ptr q4] w (ExtQ base q0 q1 q2 q3 q4 fr (extR n tn f t seen fb) v ps w)
 | 0,t,seen,M,vl,fb,v,ps,w,h=>by
   have h1:=h.fue
   have h2:=nodup_len n.ns.length h.nod h.rng
   omega
 | f+1,t,seen,M,vl,fb,v,ps,w,h=>by
   by_cases ht:t=tn
   · rw[show extR n tn (f+1) t seen fb=[fb] by rw[extR,if_pos ht]]
     exact extEnd_any hA h ht
   · exact extGo_any hA (fun t seen M vl fb v ps w h=>ext_any hA f t seen M vl fb v ps w h) h ht
open Go.RowKit
/-! ### Lengths -/
theorem fb_at {n:Net} (h:netOk n=true) {k:Nat} (hk:k<n.fs.length):fibOk (fbA n k) n.ns.length=true:=by
 have:=(netOk_yes h).2.2.2.2 k hk
 unfold fbOk at this
 simp only[Bool.and_eq_true] at this
 exact this.1
/-! ### Routes -/
theorem othE_in {n:Net} (h:netOk n=true) {k:Nat} (hk:k<n.fs.length) {t:Int} (ht:¬othE (fbA n k) t<0):0≤othE (fbA n k) t∧othE (fbA n k) t<n.ns.length:=by
 have hp:=fibOk_parts (fb_at h hk)
 unfold othE at ht ⊢
 split
 · omega
 · split
   · omega
   · rename_i h1 h2
     rw[if_neg h1,if_neg h2] at ht
     omega
theorem wlk_facts {n:Net} (h:netOk n=true):∀{xs:List Int} {out:List Int} {t:Int} {nd:List Int},wlk n out t xs=some nd→(∀y∈out,0≤y∧y<n.ns.length)→
 nd.length=out.length+xs.length∧(∀y∈nd,0≤y∧y<n.ns.length)∧(∀x∈xs,0≤x∧x<n.fs.length)
 | [],out,t,nd,hw,ho=>by
   simp only[wlk,Option.some.injEq] at hw
   subst hw
   exact⟨rfl,ho,fun x hx=>by cases hx⟩
 | i::is,out,t,nd,hw,ho=>by
   rw[wlk] at hw
   cases hi:inB i 0 ((n.fs.length:Int)-1)
   · rw[hi] at hw;simp at hw
   · rw[hi] at hw
     simp only[if_true] at hw
     split at hw
     · cases hw
     · rename_i hc
       have hb:=inB_true hi
       have hx:=othE_in h (k:=i.toNat) (by omega) (t:=t) (fun e=>hc (.inl e))
       have:=wlk_facts h hw (fun y hy=>by
        rcases List.mem_append.1 hy with h1 | h1
        · exact ho y h1
        · rw[List.mem_singleton.1 h1];exact hx)
       refine⟨by rw[this.1];simp;omega,this.2.1,fun x hx=> ?_⟩
       rcases List.mem_cons.1 hx with rfl | h1
       · omega
       · exact this.2.2 x h1
theorem wlk_head {n:Net} :∀{xs:List Int} {x:Int} {out:List Int} {t:Int} {nd:List Int},wlk n (x::out) t xs=some nd→nd[0]?= some x
 | [],x,out,t,nd,hw=>by
   simp only[wlk,Option.some.injEq] at hw
   subst hw;rfl
 | i::is,x,out,t,nd,hw=>by
   rw[wlk] at hw
   split at hw
   · split at hw
     · cases hw
     · exact wlk_head hw
   · cases hw
theorem rou_facts {n:Net} (h:netOk n=true) {r:Rou} {nd:List Int} (hr:rouN n r=some nd):nd.length=r.fb.length+1∧0≤r.st∧r.st<n.ns.length∧nd[0]?= some r.st∧
 (∀k:Nat,k<nd.length→0≤nd[k]?.getD 0∧nd[k]?.getD 0<n.ns.length)∧(∀k:Nat,k<r.fb.length→0≤r.fb[k]?.getD 0∧r.fb[k]?.getD 0<n.fs.length):=by
 unfold rouN at hr
 split at hr
 · rename_i hc
   simp only[Bool.and_eq_true] at hc
   have hb:=inB_true hc.1
   have h1:=wlk_facts h hr (fun y hy=>by rw[List.mem_singleton.1 hy];omega)
   refine⟨by rw[h1.1];simp;omega,by omega,by omega,?_,fun k hk=> ?_,fun k hk=> ?_⟩
   · exact wlk_head hr
   · rw[ξg hk];exact h1.2.1 _ (List.getElem_mem hk)
   · rw[ξg hk];exact h1.2.2 _ (List.getElem_mem hk)
 · cases hr
def lmk (x:Lgt):Nat:=mskN x.fi.toNat x.ct.toNat
def orAt (M:List Nat) (f:Int) (m:Nat):List Nat:=M.set f.toNat ((M[f.toNat]?.getD 0) ||| m)
def orF (M:List Nat) (m:Nat) (fb:List Int):List Nat:=fb.foldl (fun M f=>orAt M f m) M
def orL (M:List Nat) (x:Lgt):List Nat:=orF M (lmk x) x.fb
def orAll (ls:List Lgt) (nf:Nat):List Nat:=ls.foldl orL (List.replicate nf 0)
theorem orAt_len (M:List Nat) (f:Int) (m:Nat):(orAt M f m).length=M.length:=by unfold orAt;simp
theorem orF_len (m:Nat):∀(fb:List Int) (M:List Nat),(orF M m fb).length=M.length
 | [],M=>rfl
 | f::fb,M=>by unfold orF;rw[List.foldl_cons];exact(orF_len m fb (orAt M f m)).trans (orAt_len M f m)
theorem orLs_len:∀(ls:List Lgt) (M:List Nat),(ls.foldl orL M).length=M.length
 | [],M=>rfl
 | x::ls,M=>by rw[List.foldl_cons,orLs_len ls];exact orF_len _ _ _
theorem orAt_get (M:List Nat) (f:Int) (m i:Nat) (hi:i<M.length):(orAt M f m)[i]?.getD 0=if i=f.toNat then(M[i]?.getD 0) ||| m else M[i]?.getD 0:=by
 unfold orAt
 by_cases h:i=f.toNat
 · subst h
   rw[List.getElem?_set_self hi,if_pos rfl];rfl
 · rw[List.getElem?_set_ne (fun e=>h e.symm),if_neg h]
theorem orF_get (m i:Nat):∀(fb:List Int) (M:List Nat),i<M.length→(∀f∈fb,0≤f)→(orF M m fb)[i]?.getD 0=if fb.contains (i:Int) then(M[i]?.getD 0) ||| m else M[i]?.getD 0
 | [],M,_,_=>by simp[orF]
 | f::fb,M,hi,h0=>by
   have hf:=h0 f (List.mem_cons_self ..)
   have e:orF M m (f::fb)=orF (orAt M f m) m fb:=rfl
   rw[e,orF_get m i fb _ (by rw[orAt_len];exact hi) (fun x hx=>h0 x (List.mem_cons_of_mem _ hx)),orAt_get M f m i hi,List.contains_cons]
   by_cases h:i=f.toNat
   · have h2:((i:Int)==f)=true:=by simpa using(by omega:(i:Int)=f)
     rw[if_pos h,h2,Bool.true_or,if_pos rfl]
     split
     · rw[Nat.or_assoc,Nat.or_self]
     · rfl
   · have h2:((i:Int)==f)=false:=by simpa using(by omega:(i:Int)≠f)
     rw[if_neg h,h2,Bool.false_or]
theorem orLs_get (i:Nat):∀(ls:List Lgt) (M:List Nat),i<M.length→(∀x∈ls,∀f∈x.fb,0≤f)→(ls.foldl orL M)[i]?.getD 0=ls.foldl (fun m x=>if x.fb.contains (i:Int) then m ||| mskN x.fi.toNat x.ct.toNat else m) (M[i]?.getD 0)
 | [],M,_,_=>rfl
 | x::ls,M,hi,h0=>by
   rw[List.foldl_cons,List.foldl_cons,orLs_get i ls _ (by unfold orL;rw[orF_len];exact hi) (fun y hy=>h0 y (List.mem_cons_of_mem _ hy))]
   congr 1
   unfold orL
   rw[orF_get _ i _ _ hi (h0 x (List.mem_cons_self ..))]
   rfl
theorem orAll_get {ls:List Lgt} {nf i:Nat} (hi:i<nf) (h0:∀x∈ls,∀f∈x.fb,0≤f):(orAll ls nf)[i]?.getD 0=usedN ls (i:Int):=by
 unfold orAll usedN
 rw[orLs_get i ls _ (by simpa using hi) h0]
 simp[hi]
def orK (ls:List Lgt) (nf k:Nat):List Nat:=(ls.take k).foldl orL (List.replicate nf 0)
def SmM (M:List Nat):Prop:=∀i:Nat,M[i]?.getD 0<16777216
theorem or_24 {a b:Nat} (ha:a<16777216) (hb:b<16777216):a ||| b<16777216:=Nat.or_lt_two_pow (n:=24) ha hb
theorem SmM.at {M:List Nat} (h:SmM M) (f:Int) {m:Nat} (hm:m<16777216):SmM (orAt M f m):=fun i=>by
 by_cases hi:i<M.length
 · rw[orAt_get M f m i hi]
   split
   · exact or_24 (h i) hm
   · exact h i
 · rw[List.getElem?_eq_none (by rw[orAt_len];omega)];decide
theorem SmM.fold {m:Nat} (hm:m<16777216):∀(fb:List Int) {M:List Nat},SmM M→SmM (orF M m fb)
 | [],_,h=>h
 | f::fb,M,h=>SmM.fold hm fb (M:=orAt M f m) (h.at f hm)
theorem SmM.ls:∀(ls:List Lgt) {M:List Nat},(∀x∈ls,lmk x<16777216)→SmM M→SmM (ls.foldl orL M)
 | [],_,_,h=>h
 | x::ls,M,hx,h=>SmM.ls ls (M:=orL M x) (fun y hy=>hx y (List.mem_cons_of_mem _ hy)) (SmM.fold (hx x (List.mem_cons_self ..)) x.fb h)
theorem SmM.zero (nf:Nat):SmM (List.replicate nf 0):=fun i=>by
 rw[List.getElem?_replicate];split <;> simp
def LgO (nf:Nat) (x:Lgt):Prop:=(∀f∈x.fb,0≤f∧f<nf)∧0≤x.fi∧0≤x.ct∧x.fi+x.ct≤24
theorem LgO.mk {nf:Nat} {x:Lgt} (h:LgO nf x):lmk x<16777216:=mskN_lt _ _ (by have:=h.2;omega)
theorem orF_step {M:List Nat} {m:Nat} {fb:List Int} {j:Nat} (hj:j<fb.length):orF M m (fb.take (j+1))=orAt (orF M m (fb.take j)) (fb[j]?.getD 0) m:=by
 unfold orF
 rw[List.take_add_one,List.foldl_append,ξg hj];rfl
theorem orLs_step {M:List Nat} {ls:List Lgt} {k:Nat} (hk:k<ls.length):(ls.take (k+1)).foldl orL M=orL ((ls.take k).foldl orL M) (ls[k]?.getD nilL):=by
 rw[List.take_add_one,List.foldl_append,ξg hk];rfl
theorem nats_set (M:List Nat) (i m:Nat):(nats M).set i (m:Int)=nats (M.set i m):=by
 unfold nats;rw[List.map_set]
theorem nats_rep (k:Nat):nats (List.replicate k 0)=List.replicate k 0:=by unfold nats;simp
theorem fiberMasks_any (v:Value) (p:Pln) (w:World) (h:PlnR w v p) (hn2:p.n.fs.length≤1048576) (hl:p.ls.length≤1000) (hlo:∀x∈p.ls,LgO p.n.fs.length x):
 Calls Tryz.prog 133 #[v] w fun e w'=>∃v',e= .returned v'∧Own w' w.heap.size v' (nats (orAll p.ls p.n.fs.length))∧Below w.heap.size w w':=by
 obtain⟨i0,hi,hz0,hz1,hz2⟩:=info_parts Tryz.infoInt
 obtain⟨u1,u2,u3,rfl,r1,r2,r3,hsm⟩:=h
 have hnet:NetR w (.agg #[u1,u2]) p.n:=⟨u1,u2,rfl,r1,r2,hsm⟩
 obtain⟨⟨a1,m1,c1,rfl⟩,-⟩:=slice_of_net hnet
 obtain⟨a2,m2,c2,rfl,HN2,-,hm2,-⟩:=flt_opn (m:=4) (enc:=fibE) (fun _=>rfl) (by omega) nilB r2
 obtain⟨a3,m3,c3,rfl,HN3,hc3,hm3,ha3⟩:=lgt_opn r3
 have HA:=ξh ha3
 have hl3:m3≤1000:=by rw[←HN3.out];exact hl
 have hl2:m2≤1048576:=by rw[←HN2.out];exact hn2
 rw[HN2.out] at hlo ⊢
 have HLO:=ξh (fun k (hk:k<m3)=>show LgO m2 (p.ls[k]?.getD nilL) from by
  have h1:k<p.ls.length:=by rw[HN3.out];exact hk
  rw[ξg h1];exact hlo _ (List.getElem_mem h1))
 have HSM:=ξh (fun k=>show SmM (orK p.ls m2 k) from SmM.ls _ (fun x hx=>(hlo x (List.mem_of_mem_take hx)).mk) (SmM.zero _))
 have HLN:=ξh (fun k=>show(orK p.ls m2 k).length=m2 from by unfold orK;rw[orLs_len];simp)
 have HST:=ξh (fun k (hk:k<m3)=>show orK p.ls m2 (k+1)=orL (orK p.ls m2 k) (p.ls[k]?.getD nilL) from orLs_step (by rw[HN3.out];exact hk))
 have HTA:=ξh (show orK p.ls m2 m3=orAll p.ls m2 from by unfold orK;rw[List.take_of_length_le (Nat.le_of_eq HN3.out)];rfl)
 have hb1:=(ξb w.heap.size w).alloc (ξr _) (.cells #[.slice a1 m1 c1,.slice a2 m2 c2,.slice a3 m3 c3] 75)
 have k1:=ξn w (.cells #[.slice a1 m1 c1,.slice a2 m2 c2,.slice a3 m3 c3] 75)
 have HB1:=ξh hb1
 have HK1:=ξh k1
 have HZ1:=ξh (show(w.alloc (.cells #[.slice a1 m1 c1,.slice a2 m2 c2,.slice a3 m3 c3] 75)).heap.size=w.heap.size+1 by simp)
 clear r1 r2 r3 hsm hnet ha3 hl hn2 hb1 k1 hlo
 generalize orAll p.ls m2=RES at *
 go_enter Tryz.func133,Tryz.ntmps133
 go_upto_region 1 with fail
 generalize w.alloc (.cells #[.slice a1 m1 c1,.slice a2 m2 c2,.slice a3 m3 c3] 75)=w1 at *
 have y1:=blkc HK1.out (j:=1) (u:= .slice a2 m2 c2) rfl
 have y2:=blkc HK1.out (j:=2) (u:= .slice a3 m3 c3) rfl
 go_upto_region 2 with (refine wpList_make_full _ rfl _ _ 58 rfl w1.heap.size 3 i0 (.int .i64 0) 1 Tryz.underlying58 hi hz0 hz1 _ _ _ _ m2 rfl rfl rfl rfl (by rw[hz2];omega) (by unfold maxLen;omega) (ξr _) ?_;intro w2 hown1 hgrow1)
 obtain⟨g,hg⟩:∃g,g=w1.heap.size:=⟨_,rfl⟩
 have hown2:Own w2 w.heap.size (.slice (some ⟨g,0,none⟩) m2 m2) (nats (orK p.ls m2 0)):=by
  have hown1:=own_of_row (n:=m2) (xs:=List.replicate m2 0) (w:=w2) (base:=w1.heap.size) (v:= .slice (some ⟨w1.heap.size,0,none⟩) m2 m2) (by
   have e:(madeCells (Value.int .i64 0).cells (m2*1)).toList=ints (List.replicate m2 0):=by
    rw[Nat.mul_one]
    have:=toList_madeCells_one (.int .i64 0) m2
    simpa[ints,Value.cells] using this
   rw[←e];exact hown1)
  rw[show orK p.ls m2 0=List.replicate m2 0 from rfl,nats_rep,hg]
  exact hown1.mono (by have:=HZ1.out;omega)
 have hb2:Below w1.heap.size w1 w2:=(ξb _ _).grown hgrow1 (ξr _) (by simp)
 have HB2:=ξh (HB1.out.trans (hb2.mono HB1.out.size))
 have HO2:=ξh hown2
 have HGE:=ξh (show w.heap.size<g from by rw[hg,HZ1.out];omega)
 have z2:=blkc (kept_o' HK1.out hb2) (j:=2) (u:= .slice a3 m3 c3) rfl
 rw[←hg]
 clear hown1 hgrow1 hb2 hown2 y1 y2 hg hi hz0 hz1 hz2
 go_wp2_with fail
 clear z2
 go_loopw [16] (fun i wr=>∃k:Nat,k≤m3∧i= .int .i64 k∧Hid (Own wr w.heap.size (.slice (some ⟨g,0,none⟩) m2 m2) (nats (orK p.ls m2 k)))∧Hid (Below w.heap.size w wr)) (fun i _=>m3-(intOf i).toNat)
 case atStart=>exact⟨0,Nat.zero_le _,rfl,HO2.out,HB2.out⟩
 case round=>
  obtain⟨k,hk,rfl,HO,HB⟩:=hrel
  by_cases hlt:k<m3
  · have hltI:(k:Int)<(m3:Int):=by omega
    obtain⟨b3,o3,rfl,hbl,hcs⟩:=HA.out (by omega)
    obtain⟨u,e0,e1,e2,e3,e4,hru⟩:=hcs k hlt
    have mv:∀j,wr.cell? ⟨b3,j,none⟩=w.cell? ⟨b3,j,none⟩:=fun j=>HB.out.cell (p:=⟨b3,j,none⟩) hbl
    rw[←mv] at e0 e1 e2 e3 e4
    obtain⟨au,cu,nu,HNU,rfl,-,hnu,hcu⟩:=hru.opn
    have HCU:=ξh hcu
    have HLX:=ξh (HLO.out k hlt)
    have HSK:=ξh (HST.out k hlt)
    have HSMK:=ξh (HSM.out k)
    have HLNK:=ξh (HLN.out k)
    clear hcs mv hru hbl hcu
    generalize p.ls[k]?.getD nilL=x at *
    generalize orK p.ls m2 k=M at *
    generalize hM2:orK p.ls m2 (k+1)=M' at *
    have HM2:=ξh hM2
    clear hM2
    have HSTP:=ξh (fun j (hj:j<x.fb.length)=>@orF_step M (lmk x) x.fb j hj)
    have HSMJ:=ξh (fun j=>SmM.fold HLX.out.mk (x.fb.take j) HSMK.out)
    have HLNJ:=ξh (fun j=>(orF_len (lmk x) (x.fb.take j) M).trans HLNK.out)
    go_upto_region 5 with fail
    have n2:=ξn wr (.cells #[.int .i64 x.id,.int .i64 x.st,.slice au nu cu,.int .i64 x.fi,.int .i64 x.ct] 86)
    have n3:=(ξb wr.heap.size wr).alloc (ξr _) (.cells #[.int .i64 x.id,.int .i64 x.st,.slice au nu cu,.int .i64 x.fi,.int .i64 x.ct] 86)
    obtain⟨bx,hbx⟩:∃bx,bx=wr.heap.size:=⟨_,rfl⟩
    rw[←hbx] at n2 n3 ⊢
    have HB5:=ξh n3
    have HX5:=ξh n2
    have HBX:=ξh hbx
    generalize wr.alloc (.cells #[.int .i64 x.id,.int .i64 x.st,.slice au nu cu,.int .i64 x.fi,.int .i64 x.ct] 86)=w5 at *
    have t2:=blkc n2 (j:=2) (u:= .slice au nu cu) rfl
    have HO5:=ξh (HO.out.belowAll (HBX.out▸HB5.out))
    have HGB:=ξh (show g<bx from by rw[hbx];exact(HO.out.lt g rfl).2)
    have HBW5:=ξh (HB.out.trans ((HBX.out▸HB5.out:Below wr.heap.size wr w5).mono HB.out.size))
    clear n2 n3 hbx e0 e1 e2 e3 e4
    go_wp2_with fail
    clear t2
    go_loopw [24] (fun i wq=>∃j:Nat,j≤nu∧i= .int .i64 j∧Hid (Own wq w.heap.size (.slice (some ⟨g,0,none⟩) m2 m2) (nats (orF M (lmk x) (x.fb.take j))))∧Hid (Below w.heap.size w wq)∧Hid (wq.heap[bx]?= some (.cells #[.int .i64 x.id,.int .i64 x.st,.slice au nu cu,.int .i64 x.fi,.int .i64 x.ct] 86))) (fun i _=>nu-(intOf i).toNat)
    case atStart=>exact⟨0,Nat.zero_le _,rfl,HO5.out,HBW5.out,HX5.out⟩
    case round=>
     obtain⟨j,hj,rfl,HOQ,HBQ,HXQ⟩:=hrel
     by_cases hlj:j<nu
     · have hljI:(j:Int)<(nu:Int):=by omega
       obtain⟨bf,of,rfl,hbf,hcf⟩:=HCU.out (by omega)
       have ef:=(HBQ.out.cell (p:=⟨bf,of+j,none⟩) hbf).trans (hcf j hlj)
       have hjl:j<x.fb.length:=by rw[HNU.out];exact hlj
       have hfr:=HLX.out.1 (x.fb[j]?.getD 0) (by rw[ξg hjl];exact List.getElem_mem hjl)
       have HN:=ξh (HSTP.out j hjl)
       have HSN:=ξh (HSMJ.out j)
       have HLE:=ξh (HLNJ.out j)
       have HMK:=ξh (fun w'=>show Calls Tryz.prog 142 #[.agg #[.int .i64 x.fi,.int .i64 x.ct]] w' fun e w2=>e= .returned (.int .i64 (lmk x:Nat))∧Below w'.heap.size w' w2 from by
        have hlx:=HLX.out.2
        have:=maskOf_any x.fi.toNat x.ct.toNat w' (by omega)
        rw[Int.toNat_of_nonneg hlx.1,Int.toNat_of_nonneg hlx.2.1] at this
        exact this)
       have HMX:=ξh HLX.out.mk
       generalize x.fb[j]?.getD 0=f at *
       obtain⟨fn,rfl⟩:∃fn:Nat,f=(fn:Int):=⟨f.toNat,by omega⟩
       have hfI:(fn:Int)<(m2:Int):=hfr.2
       have hfn:fn<m2:=by omega
       generalize hN2:orF M (lmk x) (x.fb.take (j+1))=N' at *
       have HN2':=ξh hN2
       clear hN2
       generalize orF M (lmk x) (x.fb.take j)=N at *
       generalize lmk x=mk at *
       have hon:=HSN.out fn
       have hor:=bits_or hon HMX.out
       have HN':=ξh (show N'=N.set fn ((N[fn]?.getD 0) ||| mk) from HN.out)
       have c0:=(HOQ.out.cellAt rfl).2 fn (by rw[nats_len,HLE.out];exact hfn)
       rw[nats_at,Nat.zero_add] at c0
       generalize N[fn]?.getD 0=on at *
       have HC0:=ξh c0
       have HON:=ξh hon
       clear hcf hbf hfr hjl c0 hon
       go_upto_region 8 with fail
       have HSS:=ξh (fun(w':World) (hb:Below wr.heap.size wr w')=>show w'.cell? ⟨g,fn,none⟩=some (.int .i64 (on:Int))∧w'.cell? ⟨bx,3,none⟩=some (.int .i64 x.fi)∧w'.cell? ⟨bx,4,none⟩=some (.int .i64 x.ct) from
        have hx:=kept_o' HXQ.out hb
        ⟨(hb.cell (p:=⟨g,fn,none⟩) (HOQ.out.lt g rfl).2).trans HC0.out,blkc hx rfl,blkc hx rfl⟩)
       refine wp_region_L [0,1,2,3,4,5,6,7,8] (S:=fun w'=>w'.cell? ⟨g,fn,none⟩=some (.int .i64 (on:Int))∧w'.cell? ⟨bx,3,none⟩=some (.int .i64 x.fi)∧w'.cell? ⟨bx,4,none⟩=some (.int .i64 x.ct)) (by kernel_rfl) (HSS.out _ (ξb _ _).drew) (fun hH=> ?_)
       refine hlF 0 rfl hH ?_
       try simp only[Act.put,hlA,hlB,hlC]
       refine hlF 1 rfl hH ?_
       try simp only[Act.put,hlA,hlB,hlC]
       refine hlF 2 rfl hH ?_
       try simp only[Act.put,hlA,hlB,hlC]
       refine hlF 3 rfl hH ?_
       try simp only[Act.put,hlA,hlB,hlC]
       refine hlF 4 rfl hH ?_
       try simp only[Act.put,hlA,hlB,hlC]
       refine hlF 5 rfl hH ?_
       try simp only[Act.put,hlA,hlB,hlC]
       refine hlReady (rs:=[6]) (by kernel_rfl) (by simp) ?_
       refine AllReadyL.cons rfl (fun KK hKK=> ?_) AllReadyL.nil
       go_simp
       go_at_call 142
       refine(HMK.out _).mono ?_
       rintro e w34 ⟨rfl,b34⟩
       have B34:Below wr.heap.size wr w34:=(ξb wr.heap.size wr).drew.trans b34
       have O34:=ξh (HOQ.out.belowAll B34)
       have fz:w34.frozen? ⟨g,fn,none⟩=false:=O34.out.frozenAt rfl fn
       refine hKK.out _ _ (HSS.out _ B34) (fun hH=> ?_)
       clear hKK KK
       try simp only[Act.put,hlA,hlB,hlC]
       refine hlF 7 rfl hH ?_
       try simp only[Act.put,hlA,hlB,hlC]
       refine hlStep 8 rfl (by kernel_rfl) (by kernel_rfl) (fun KK hKK=> ?_)
       go_simp
       refine hKK.out _ _ ?_
       clear hKK KK
       try simp only[Act.put,hlA,hlB,hlC]
       refine hlStep 9 rfl (by kernel_rfl) (by kernel_rfl) (fun KK hKK=> ?_)
       go_simp
       refine hKK.out _ _ ?_
       clear hKK KK
       try simp only[Act.put,hlA,hlB,hlC]
       refine hlDone (by kernel_rfl) ?_ _
       rotate_left 1
       have hst:=O34.out.stored rfl fn (by rw[nats_len,HLE.out];exact hfn) ((on ||| mk:Nat):Int)
       rw[nats_set,←HN'.out,Nat.zero_add] at hst
       have HO9:=ξh hst.1
       have HB9:=ξh ((HBQ.out.trans (B34.mono HBQ.out.size)).grown hst.2 (ξs HBQ.out.size B34.size) (fun q hq=>by have:g=q:=ξo hq;have:=HGE.out;omega))
       have HX9:=ξh (show(w34.setCell ⟨g,fn,none⟩ (.int .i64 ((on ||| mk:Nat):Int))).heap[bx]?= _ from(heap_setCell_other _ ⟨g,fn,none⟩ bx _ (by have:=HGB.out;show bx≠g;omega)).trans (kept_o' HXQ.out B34))
       generalize w34.setCell ⟨g,fn,none⟩ (.int .i64 ((on ||| mk:Nat):Int))=w9 at *
       clear hst fz b34 B34 hor
       go_wp2
       go_roundw
       exact⟨j+1,by omega,by simp,by rw[HN2'.out];exact HO9.out,HB9.out,HX9.out⟩
       simp[intOf];omega
     · have hljI:¬(j:Int)<(nu:Int):=by omega
       have HM':=ξh (show M'=orF M (lmk x) (x.fb.take j) from by
        have e:=HSK.out
        unfold orL at e
        rw[e,List.take_of_length_le (by rw[HNU.out];omega)])
       go_wp2
       go_roundw
       exact⟨k+1,by omega,by simp,by rw[HM2.out,HM'.out];exact HOQ.out,HBQ.out⟩
       simp[intOf];omega
  · obtain rfl:m3=k:=by omega
    have hltI:¬(m3:Int)<(m3:Int):=by omega
    go_wp2
    go_ret
    exact⟨_,rfl,by rw[←HTA.out];exact HO.out,HB.out⟩
theorem wlk_nd {n:Net} :∀{xs:List Int} {out:List Int} {t:Int} {nd:List Int},wlk n out t xs=some nd→out.Nodup→nd.Nodup
 | [],out,t,nd,h,ho=>by
   rw[wlk] at h;rw[←ξo h];exact ho
 | i::is,out,t,nd,h,ho=>by
   rw[wlk] at h
   split at h
   · split at h
     · cases h
     · rename_i hc
       refine wlk_nd h ?_
       rw[List.nodup_append]
       refine⟨ho,by simp,fun a ha b hb e=> ?_⟩
       simp only[List.mem_singleton] at hb
       subst hb;subst e
       exact hc (.inr ha)
   · cases h
theorem rouOk_fb {n:Net} {r:Rou} (hn:netOk n=true) (h:rouOk n r=true):r.fb.length≤8∧ ∀f∈r.fb,0≤f∧f<n.fs.length:=by
 unfold rouOk at h
 obtain⟨nd,hnd⟩:=Option.isSome_iff_exists.1 h
 obtain⟨h1,h2,h3,h4,h5,h6⟩:=rou_facts hn hnd
 have hd:nd.Nodup:=by
  unfold rouN at hnd
  split at hnd
  · exact wlk_nd hnd (by simp)
  · cases hnd
 have hl:nd.length≤n.ns.length:=nodup_len _ hd fun x hx=>by
  obtain⟨k,hk,rfl⟩:=List.getElem_of_mem hx
  have:=h5 k hk
  rw[ξg hk] at this
  exact this
 have:=netOk_len hn
 refine⟨by omega,fun f hf=> ?_⟩
 obtain⟨k,hk,rfl⟩:=List.getElem_of_mem hf
 have:=h6 k hk
 rw[ξg hk] at this
 exact this
theorem lgtOk_o {n:Net} {x:Lgt} (hn:netOk n=true) (h:lgtOk n x=true):LgO n.fs.length x∧x.fb.length≤8:=by
 unfold lgtOk at h
 simp only[Bool.and_eq_true] at h
 obtain⟨h1,h2⟩:=rouOk_fb hn h.1.1
 have hb:=blkOk_bd h.2
 exact⟨⟨h2,hb.1,by omega,hb.2.2⟩,h1⟩
theorem erase_lix (n:Net) (ls:List Lgt) (c:Int):ls.eraseP (fun x=>decide (x.id=c))=if 0≤lix ⟨n,ls⟩ c then ls.eraseIdx (lix ⟨n,ls⟩ c).toNat else ls:=by
 unfold lix idxG
 simp only
 have hp:(fun x:Lgt=>decide (x.id=c))=fun x=>x.id==c:=by
  funext x
  by_cases h:x.id=c
  · rw[ξt h];simp[h]
  · rw[ξf h];simp[h]
 rw[hp]
 cases hf:ls.findIdx? (fun x=>x.id==c) with
 | none=>
   rw[if_neg (by simp)]
   refine List.eraseP_of_forall_not fun x hx=> ?_
   have:=List.findIdx?_eq_none_iff.1 hf x hx
   simpa using this
 | some k=>
   rw[if_pos (by simp)]
   obtain⟨hk,h1,h2⟩:=List.findIdx?_eq_some_iff_getElem.1 hf
   show _=ls.eraseIdx ((k:Int).toNat)
   rw[Int.toNat_natCast]
   clear hf hp
   induction ls generalizing k with
   | nil=>simp at hk
   | cons a t ih=>
     cases k with
     | zero=>rw[List.eraseP_cons_of_pos (by simpa using h1)];rfl
     | succ k=>
       have h0:=h2 0 (by omega)
       rw[List.eraseP_cons_of_neg (by simpa using h0),List.eraseIdx_cons_succ]
       congr 1
       exact ih k (by simpa using hk) (by simpa using h1) (fun j hj=>by have:=h2 (j+1) (by omega);simpa using this)
theorem delP_lix (n:Net) (gs:List Gro) (t:Int) (ls:List Lgt) (i:Nat):delP gs t ls i=if(gs[i]?.getD nilG).e=t-1∧0≤lix ⟨n,ls⟩ ((i:Int)+1) then ls.eraseIdx (lix ⟨n,ls⟩ ((i:Int)+1)).toNat else ls:=by
 unfold delP
 by_cases h:(gs[i]?.getD nilG).e=t-1
 · rw[if_pos h,erase_lix n]
   simp only[h,true_and]
 · rw[if_neg h,if_neg (fun hh=>h hh.1)]
end Go.Proofs.YtofcicomhnkocaaGreat
