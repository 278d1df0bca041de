/- Walk: a route put into the reference's sorted list. -/
import Derived.Test.YtofcicomhnkocaaGreatBx21
set_option linter.unusedVariables false
namespace Go.Proofs.YtofcicomhnkocaaGreat
set_option maxHeartbeats 12800000
open Go.RowKit Go.Sort
set_option maxRecDepth 100000
structure SeS (w:World) (lo q:Nat) (st tn:Int) (u1 u2 v:Value) (ps:List (List Int × Value)):Prop where
 box:w.heap[q]?= some (.cells #[u1,u2,.int .i64 tn,v] 248 (0,0))
 row:w.ownsRow lo 82 2 v ps.length (rcs st ps)
 els:∀p∈ps,Rd w p.2 p.1∧ ∀g,p.2.ownBlock=some g→g≠q
 vq:∀g,v.ownBlock=some g→g≠q
abbrev QQ (q:Nat):Nat→Prop:=fun g=>g=q
theorem SeS.below {w w':World} {lo q:Nat} {st tn:Int} {u1 u2 v:Value} {ps:List (List Int × Value)} (h:SeS w lo q st tn u1 u2 v ps) (hb:Below w.heap.size w w'):SeS w' lo q st tn u1 u2 v ps:=
 ⟨ξA h.box hb,ξN h.row hb,fun p hp=>⟨(h.els p hp).1.belowAll hb,(h.els p hp).2⟩,h.vq⟩
def SeP (lo q:Nat) (st tn:Int) (u1 u2:Value) (L:List (List Int)) (w:World) (e:Ending) (w':World):Prop:=
 e= .returned (.tuple #[])∧ ∃v' ps',SeS w' lo q st tn u1 u2 v' ps'∧ps'.map Prod.fst=L∧Mv (QQ q) (QQ q) w w'
theorem slcT_head (a:Option Addr) (m c k:Nat) (hk:k≤m) (hm:m≤c) (hc:c≤9223372036854775807) (ha:∀x,a=some x→x.spot=none) (w:World):
 (Instr.sliceAt 176 (.slice a m c) none (some (.int .i64 (k:Int))) none).run Tryz.prog w= .ok (.slice a k c) w:=by
 have h1:(0:Int)≤(k:Int):=by omega
 have h2:(k:Int)≤(c:Int):=by omega
 have h3:¬(c:Int)<(k:Int):=by omega
 have h4:¬c<k:=by omega
 have h5:k≤c:=by omega
 go_simp
theorem slcT_tail (a:Option Addr) (m c k:Nat) (hk:k≤m) (hm:m≤c) (hc:c≤9223372036854775807) (w:World):
 (Instr.sliceAt 176 (.slice a m c) (some (.int .i64 (k:Int))) none none).run Tryz.prog w= .ok (.slice (if c=k then a else a.map (·.add (k*2))) (m-k) (c-k)) w:=by
 have h1:(0:Int)≤(k:Int):=by omega
 have h2:(k:Int)≤(m:Int):=by omega
 have h3:¬(m:Int)<(k:Int):=by omega
 have h4:¬m<k:=by omega
 have h5:k≤c:=by omega
 have h6:(m:Int)≤(c:Int):=by omega
 go_simp
theorem yields_sl2 {P:Program} {ρ:Operand→Value} {o:Oper} {t:TypeId} {x:Operand} {lo hi:Option Operand} {v:Value} {w:World} (ho:o.op= .slice t x lo hi none) (h:(Instr.sliceAt t (ρ x) (lo.map ρ) (hi.map ρ) none).run P w= .ok v w):(execOp ρ o).run P w= .ok (.value v) w:=by
 unfold execOp
 simp only[ho]
 simp only[Option.map_none]
 simp[h,go_sem]
theorem ξbi {w:World} {base m c size:Nat} {e:TypeId} {ao:Option Addr} {xs:List Value} (h:w.ownsRow base e size (.slice ao m c) m xs):
 (ao=none→m=0∧c=0)∧m≤c∧c≤maxLen∧(∀y,ao=some y→y.spot=none)∧ ∀k,k≤m→
   ((xs.take (k*size)).length=k*size∧(xs.drop (k*size)).length=(m-k)*size∧
   ∀w',Below w.heap.size w w'→(∀ad,ao=some ad→ ∀j u,(xs.take (k*size))[j]?= some u→w'.cell? (ad.add j)=some u)∧
    (∀ad,(if c=k then ao else ao.map (·.add (k*size)))=some ad→ ∀j u,(xs.drop (k*size))[j]?= some u→w'.cell? (ad.add j)=some u))∧
   ((if c=k then ao else ao.map (·.add (k*size)))=none→m-k=0∧c-k=0):=by
 have hl:=h.1
 have hx:(ao=none→m=0∧c=0)∧m≤c∧c≤maxLen∧(∀y,ao=some y→y.spot=none)∧ ∀w',Below w.heap.size w w'→ ∀ad,ao=some ad→ ∀j u,xs[j]?= some u→w'.cell? (ad.add j)=some u:=by
  rcases h.2 with ⟨h1,h2⟩ | ⟨g,cap,cur,h1,h2,h3,h4,h5,h6,h7⟩
  · cases h1
    exact⟨fun _=>⟨rfl,rfl⟩,ξr _,by unfold maxLen;omega,(fun y hy=>by cases hy),(fun _ _ ad hy=>by cases hy)⟩
  · cases h1
    refine⟨(fun hy=>by cases hy),h4,h5,(fun y hy=>by cases hy;rfl),fun w' hb ad e1 j u hu=> ?_⟩
    cases e1
    have hc:=World.ownsRow.cells h (g:=g) rfl j u hu
    exact(hb.cell (ξd w _ hc)).trans hc
 obtain⟨k1,k2,k3,k4,k5⟩:=hx
 refine⟨k1,k2,k3,k4,fun k hk=>⟨⟨?_,?_,fun w' hb=>⟨fun ad e j u hu=>k5 w' hb ad e j u ?_,fun ad e j u hu=> ?_⟩⟩,fun e=> ?_⟩⟩
 · rw[List.length_take,hl];exact Nat.min_eq_left (Nat.mul_le_mul_right _ hk)
 · rw[List.length_drop,hl,Nat.sub_mul]
 · rw[List.getElem?_take] at hu
   split at hu
   · exact hu
   · cases hu
 · rw[List.getElem?_drop] at hu
   split at e
   · rename_i hck
     subst hck
     have hlt:=(ξl hu).1
     have:m*size≤c*size:=Nat.mul_le_mul_right _ k2
     omega
   · cases hao:ao with
     | none=>rw[hao] at e;cases e
     | some y=>
       have hy:=k4 y hao
       rw[hao] at e
       obtain⟨yb,yo,ys⟩:=y
       obtain rfl:ys=none:=hy
       simp only[Option.map_some,Option.some.injEq] at e
       rw[addr_add] at e
       subst e
       have:=k5 w' hb _ hao _ u hu
       rw[addr_add] at this ⊢
       rw[Nat.add_assoc]
       exact this
 · split at e
   · have:=k1 e;omega
   · cases hao:ao with
     | none=>have:=k1 hao;omega
     | some y=>rw[hao] at e;cases e
abbrev ξZ:List Int × Value:=([],.slice none 0 0)
theorem rcsS_at (st:Int) (ps:List (List Int × Value)) (i:Nat) (hi:i<ps.length):(rcs st ps)[i*2]?= some (.int .i64 st)∧(rcs st ps)[i*2+1]?= some (ps[i]?.getD ξZ).2:=by
 unfold rcs
 induction ps generalizing i with
 | nil=>simp at hi
 | cons p ps ih=>
   rw[List.flatMap_cons]
   cases i with
   | zero=>exact⟨rfl,rfl⟩
   | succ i=>
     have:=ih i (by simpa using hi)
     rw[show(i+1)*2=i*2+1+1 by omega]
     exact this
theorem rcs_take (st:Int) (ps:List (List Int × Value)) (k:Nat):(rcs st ps).take (k*2)=rcs st (ps.take k):=by
 unfold rcs
 induction ps generalizing k with
 | nil=>simp
 | cons p ps ih=>
   cases k with
   | zero=>simp
   | succ k=>
     rw[List.flatMap_cons,List.take_succ_cons,List.flatMap_cons,←ih k,show(k+1)*2=k*2+1+1 by omega];rfl
theorem rcs_drop (st:Int) (ps:List (List Int × Value)) (k:Nat):(rcs st ps).drop (k*2)=rcs st (ps.drop k):=by
 unfold rcs
 induction ps generalizing k with
 | nil=>simp
 | cons p ps ih=>
   cases k with
   | zero=>simp
   | succ k=>
     rw[List.flatMap_cons,List.drop_succ_cons,←ih k,show(k+1)*2=k*2+1+1 by omega];rfl
theorem Rd.sl {w:World} {v:Value} {xs:List Int} (h:Rd w v xs):∃a m c,v= .slice a m c:=by
 obtain⟨a,c,m,-,e,-⟩:=h.opn
 exact⟨a,m,c,e⟩
theorem SeS.cells {w:World} {lo q m c:Nat} {a:Option Addr} {st tn:Int} {u1 u2:Value} {ps:List (List Int × Value)} (h:SeS w lo q st tn u1 u2 (.slice a m c) ps) (hm:ps.length=m):∀i,i<m→ ∃g,a=some ⟨g,0,none⟩∧g<w.heap.size∧w.cell? ⟨g,i*2,none⟩=some (.int .i64 st)∧w.cell? ⟨g,i*2+1,none⟩=some (ps[i]?.getD ξZ).2:=fun i hi=>by
 rcases h.row.2 with ⟨h1,h2⟩ | ⟨g,cap,cur,h1,h2,h3,_⟩
 · omega
 · cases h1
   have hc:=World.ownsRow.cells h.row (g:=g) rfl
   obtain⟨k1,k2⟩:=rcsS_at st ps i (by omega)
   have c0:=hc _ _ k1
   have c1:=hc _ _ k2
   rw[addr_add,Nat.zero_add] at c0 c1
   exact⟨g,rfl,(ξa h3).1,c0,c1⟩
theorem rowX_kept {w w':World} {base:Nat} {e:TypeId} {size:Nat} {v:Value} {n:Nat} {xs:List Value} (h:w.ownsRow base e size v n xs) (hk:∀g,v.ownBlock=some g→w'.heap[g]?= w.heap[g]?):w'.ownsRow base e size v n xs:=by
 refine⟨h.1,?_⟩
 rcases h.2 with h2 | ⟨g,cap,cur,rfl,q1,q2,q3⟩
 · exact .inl h2
 · exact .inr ⟨g,cap,cur,rfl,q1,by rw[hk g rfl];exact q2,q3⟩
theorem ξbx {w:World} {b base size:Nat} {T:TypeId} (h:w.heap[b]?= some (.cells #[] T (0,0))) (hb:base≤b):w.ownsRow base T size (.slice (some ⟨b,0,none⟩) 0 0) 0 []:=
 ⟨by simp,.inr ⟨b,0,#[],rfl,hb,h,ξr _,by simp[maxLen],by simp,by simp⟩⟩
theorem put_any (q lo:Nat) (st tn:Int) (u1 u2 v vr:Value) (n:Net) (ps:List (List Int × Value)) (r:List Int) (w:World) (h:SeS w lo q st tn u1 u2 v ps) (hnet:Rdt w (flt 4 fibE n.fs) u2) (h1:∃a m c,u1= .slice a m c) (hr:Rd w vr r) (hrq:∀g,vr.ownBlock=some g→g≠q) (hlo:lo≤w.heap.size) (hl:ps.length≤1000)
 (hlen:∀p∈ps,p.1.length≤1000∧ξa7 n p.1) (hrl:r.length≤1000) (hri:ξa7 n r) (hL:LenOk n):
 Calls Tryz.prog 248 #[ptr q,.agg #[.int .i64 st,vr]] w (SeP lo q st tn u1 u2 (insR n (ps.map Prod.fst) r) w):=by
 obtain⟨NP,hNP⟩:∃NP,NP=SeP lo q st tn u1 u2 (insR n (ps.map Prod.fst) r) w:=⟨_,rfl⟩
 rw[←hNP]
 have HNP:=ξh hNP
 have HMM:=ξh (fun i (hi:i<ps.length)=>show(ps[i]?.getD ξZ)∈ps from by rw[ξg hi];exact ξj hi)
 have HCMP:=ξh (fun w' (hb:Below w.heap.size w w') (i:Nat) (hi:i<ps.length)=>l4Compare_any u1 u2 vr (ps[i]?.getD ξZ).2 n st r (ps[i]?.getD ξZ).1 w' (hnet.behind hb) h1 (hr.belowAll hb) ((h.els _ (HMM.out i hi)).1.belowAll hb) hrl (hlen _ (HMM.out i hi)).1 hri (hlen _ (HMM.out i hi)).2 hL)
 have HESL:=ξh (fun i (hi:i<ps.length)=>(h.els _ (HMM.out i hi)).1.sl)
 have HPL:=ξh (show∀k,plcR n r (ps.map Prod.fst) (k+1)=if cmpR n r (ps[k]?.getD ξZ).1<0 then plcR n r (ps.map Prod.fst) k else k+1 from fun k=>by
  rw[plcR,List.getElem?_map]
  cases ps[k]? <;> rfl)
 have HINS:=ξh (show∀k,plcR n r (ps.map Prod.fst) ps.length=k→insR n (ps.map Prod.fst) r=(ps.map Prod.fst).take k++r::(ps.map Prod.fst).drop k from fun k hk=>by unfold insR;rw[List.length_map,hk])
 obtain⟨au,mu,cu,rfl⟩:=h1
 obtain⟨ax,mx,cx,rfl⟩:=hr.sl
 obtain⟨a2,m2,c2,rfl⟩:=Rdt.slice (show Rdt w (.rows _ _) u2 from hnet)
 obtain⟨av,cv,rfl⟩:=rowf h.row
 generalize hm:ps.length=m at *
 have HM:=ξh hm
 have HS:=ξh h
 have HCE:=ξh (h.cells hm)
 have HR:=ξh hr
 have HRQ:=ξh hrq
 have HB1:=ξh ((ξb w.heap.size w).alloc (ξr _) (.cells #[.int .i64 st,.slice ax mx cx] 82))
 have HX1:=ξh (ξn w (.cells #[.int .i64 st,.slice ax mx cx] 82))
 have HLO:=ξh hlo
 clear hNP h hnet hr hrq hlo hlen hrl hri hL hm
 go_enter Tryz.func248,Tryz.ntmps248
 have hx1:=ξA HS.box HB1.out
 have y3:=blkc hx1 (j:=3) (u:= .slice av m cv) rfl
 go_wp2_with fail
 obtain⟨bx,hbx⟩:∃bx,bx=w.heap.size:=⟨_,rfl⟩
 rw[←hbx] at HX1 ⊢
 have HBX:=ξh hbx
 clear hbx hx1 y3
 generalize w.alloc (.cells #[.int .i64 st,.slice ax mx cx] 82)=w1 at *
 go_loopw [4] (fun i wr=>∃k:Nat,k≤m∧i= .int .i64 k∧Hid (plcR n r (ps.map Prod.fst) m=plcR n r (ps.map Prod.fst) k)∧Hid (Below w1.heap.size w1 wr)) (fun i _=>(intOf i).toNat)
 case atStart=>exact⟨m,ξr _,rfl,rfl,ξb _ _⟩
 case round=>
  obtain⟨k,hk,rfl,HK,HB⟩:=hrel
  have HBW:=ξh (HB1.trans (HB.mono HB1.size))
  by_cases hk0:k=0
  case' pos=>
   have HPK:=ξh (show plcR n r (ps.map Prod.fst) m=k from HK.trans (by rw[hk0];rfl))
   have hkI:¬(0:Int)<(k:Int):=by omega
   have hkd:decide ((k:Int)>0)=false:=ξf hkI
   have hkN:¬0<k:=by omega
   have hkD:decide (0<k)=false:=ξf hkN
   clear HK hk0
   go_wp2
   refine ξv ?_
   repeat (go_big_quiet_step (fail))
   refine wpQuiet_nil ?_
   rintro _ ⟨⟨dq,osq⟩,rfl⟩
   have HB4:=ξh (HB.trans ((ξc wr dq osq).mono HB.size))
   generalize grow (redrawn wr dq) osq=w4 at *
   clear hkI hkN
   go_wp2_with fail
   clear hkd hkD
  case' neg=>
   obtain⟨j,hj⟩:∃j,k=j+1:=⟨k-1,by omega⟩
   have hjm:j<m:=by omega
   have hkI:(0:Int)<(k:Int):=by omega
   have hkd:decide ((k:Int)>0)=true:=ξt hkI
   have hkN:0<k:=by omega
   have hkD:decide (0<k)=true:=ξt hkN
   have f1:IntKind.i64.wrap ((k:Int)-1)=(j:Int):=(ξi _ (by omega)).trans (by omega)
   have f2:wrap64 ((k:Int)-1)=(j:Int):=(ξw _ (by omega)).trans (by omega)
   have HJ:=ξh hj
   obtain⟨g,rfl,hgs,c0,c1⟩:=HCE.out j hjm
   have c0:=(HBW.cell (p:=⟨g,j*2,none⟩) hgs).trans c0
   have c1:=(HBW.cell (p:=⟨g,j*2+1,none⟩) hgs).trans c1
   have hbq:=ξA HS.box HBW.out
   have hbx2:=ξA HX1.out HB.out
   have q0:=blkc hbq (j:=0) (u:= .slice au mu cu) rfl
   have q1:=blkc hbq (j:=1) (u:= .slice a2 m2 c2) rfl
   have q3:=blkc hbq (j:=3) (u:= .slice (some ⟨g,0,none⟩) m cv) rfl
   have x0:=blkc hbx2 (j:=0) (u:= .int .i64 st) rfl
   have x1:=blkc hbx2 (j:=1) (u:= .slice ax mx cx) rfl
   have HCM:=ξh (fun w' hb=>HCMP.out w' hb j hjm)
   have HPLJ:=ξh (show plcR n r (ps.map Prod.fst) m=(if cmpR n r (ps[j]?.getD ξZ).1<0 then plcR n r (ps.map Prod.fst) j else j+1) from HK.trans (by rw[hj];exact HPL.out j))
   obtain⟨ae,me,ce,hve⟩:=HESL.out j hjm
   rw[hve] at c1 HCM
   clear hve hbq hbx2
   generalize hcm:cmpR n r (ps[j]?.getD ξZ).1=cmp at *
   clear hcm hj hk0 HK
   go_wp2
   have j0:=rg q0
   have j1:=rg q1
   have j2:=rg q3
   have j3:=rg x0
   have j4:=rg x1
   have j5:=rg c0
   have j6:=rg c1
   have HC2:=ξh (fun d os=>HCM.out (grow (redrawn wr d) os) (HBW.trans ((ξc wr d os).mono HBW.size)))
   clear q0 q1 q3 x0 x1 c0 c1
   refine ξv ?_
   repeat (go_big_quiet_step (first | (go_at_call 253;exact Calls.regrown_of (HC2.out _ _))))
   refine wpQuiet_nil ?_
   rintro _ ⟨⟨dq,osq⟩,rfl⟩
   have HB4:=ξh (HB.trans ((ξc wr dq osq).mono HB.size))
   generalize grow (redrawn wr dq) osq=w4 at *
   clear j0 j1 j2 j3 j4 j5 j6
   by_cases hc:cmp<0
   · have hcd:decide (cmp<0)=true:=ξt hc
     have HPK:=ξh (show plcR n r (ps.map Prod.fst) m=plcR n r (ps.map Prod.fst) j from by rw[HPLJ.out,if_pos hc])
     go_wp2_with fail
     go_roundw
     case rel=>exact⟨j,by omega,rfl,HPK.out,HB4.out⟩
     case measure=>simp[intOf];have:=HJ.out;omega
   have hcd:decide (cmp<0)=false:=ξf hc
   have HPK:=ξh (show plcR n r (ps.map Prod.fst) m=k from by rw[HPLJ.out,if_neg hc,HJ.out])
   have hc0:0≤cmp:=by omega
   go_wp2_with fail
   clear hc hc0 hcd hkd hkI f1 f2 hkN hkD
   generalize (some ⟨g,0,none⟩:Option Addr)=av at *
  all_goals
   clear HCMP HCE HESL HPL HBW
   have HBW:=ξh (HB1.trans (HB4.mono HB1.size))
   have HBQ:=ξh (ξA HS.box HBW.out)
   have HBR:=ξh (ξA HX1.out HB4.out)
   have HROW:=ξh (ξN HS.row HBW.out)
   rw[HM.out] at HROW
   obtain⟨k1,k2,k3,k4,k5⟩:=ξbi HROW.out
   obtain⟨⟨k6,k7,k8⟩,k9⟩:=k5 k hk
   have HON:=ξh (show∀u∈rcs st ps,u.oneCell'=true from fun u hu=>by
    unfold rcs at hu
    obtain⟨p,hp,hpu⟩:=List.mem_flatMap.1 hu
    obtain⟨a,m,c,e⟩:=(HS.els p hp).1.sl
    simp[e] at hpu
    rcases hpu with rfl | rfl <;> rfl)
   have HH:=ξh (fun w'=>slcT_head av m cv k hk k2 (by unfold maxLen at k3;omega) k4 w')
   have HTA:=ξh (fun w'=>slcT_tail av m cv k hk k2 (by unfold maxLen at k3;omega) w')
   have HN1:=ξh (show av=none→k=0∧cv=0 from fun e=>by have:=k1 e;omega)
   have HN2:=ξh k9
   have HT1:=ξh k6
   have HD1:=ξh k7
   have HC:=ξh k8
   have HO1:=ξh (show∀u∈(rcs st ps).take (k*2),u.oneCell'=true from fun u hu=>HON.out u (List.mem_of_mem_take hu))
   have HO2:=ξh (show∀u∈(rcs st ps).drop (k*2),u.oneCell'=true from fun u hu=>HON.out u (List.mem_of_mem_drop hu))
   have HTK:=ξh (rcs_take st ps k)
   have HDK:=ξh (rcs_drop st ps k)
   clear k1 k2 k3 k4 k5 k6 k7 k8 k9 HON
   generalize (if cv=k then av else av.map (·.add (k*2)))=dt at *
   generalize (rcs st ps).take (k*2)=ts at *
   generalize (rcs st ps).drop (k*2)=ds at *
   have HSS:=ξh (fun(w':World) (hb:Below w4.heap.size w4 w')=>show w'.cell? ⟨q,3,none⟩=some (.slice av m cv)∧w'.cell? ⟨bx,0,none⟩=some (.int .i64 st)∧w'.cell? ⟨bx,1,none⟩=some (.slice ax mx cx) from
    ⟨blkc (ξA HBQ.out hb) rfl,blkc (ξA HBR.out hb) rfl,blkc (ξA HBR.out hb) rfl⟩)
   refine ξH [0,1,2,3,4,5,6,7,8,9,10,11,12,13,14,15,16,17,18,19,20] (S:=fun w'=>w'.cell? ⟨q,3,none⟩=some (.slice av m cv)∧w'.cell? ⟨bx,0,none⟩=some (.int .i64 st)∧w'.cell? ⟨bx,1,none⟩=some (.slice ax mx cx)) (by kernel_rfl) (HSS.out _ (ξb _ _).drew) (fun hH=> ?_)
   have BL:Below w4.heap.size w4 w4.drew:=(ξb _ _).drew
   refine hlF 0 rfl hH ?_
   try simp only[Act.put,hlA,hlB,hlC]
   refine hlF 2 rfl hH ?_
   try simp only[Act.put,hlA,hlB,hlC]
   refine hlF 3 rfl hH ?_
   try simp only[Act.put,hlA,hlB,hlC]
   refine hlF 4 rfl hH ?_
   try simp only[Act.put,hlA,hlB,hlC]
   refine hlF 5 rfl hH ?_
   try simp only[Act.put,hlA,hlB,hlC]
   refine hlF 6 rfl hH ?_
   try simp only[Act.put,hlA,hlB,hlC]
   refine hlE 7 rfl hH ⟨.slice av k cv,by exact fun w' _=>yields_sl2 rfl (HH.out w'),?_⟩
   try simp only[Act.put,hlA,hlB,hlC]
   refine hlF 9 rfl hH ?_
   try simp only[Act.put,hlA,hlB,hlC]
   refine hlF 12 rfl hH ?_
   try simp only[Act.put,hlA,hlB,hlC]
   refine hlF 13 rfl hH ?_
   try simp only[Act.put,hlA,hlB,hlC]
   refine hlF 14 rfl hH ?_
   try simp only[Act.put,hlA,hlB,hlC]
   refine hlF 15 rfl hH ?_
   try simp only[Act.put,hlA,hlB,hlC]
   refine hlF 16 rfl hH ?_
   try simp only[Act.put,hlA,hlB,hlC]
   refine hlE 17 rfl hH ⟨.slice dt (m-k) (cv-k),by exact fun w' _=>yields_sl2 rfl (HTA.out w'),?_⟩
   try simp only[Act.put,hlA,hlB,hlC]
   refine ξB (rs:=[1,10]) (by kernel_rfl) (by simp) ?_
   refine AllReadyL.cons rfl (fun KK hKK=> ?_) (AllReadyL.cons rfl (fun KK hKK=> ?_) AllReadyL.nil)
   go_simp
   obtain⟨b32,hb32⟩:∃bb,bb=w4.heap.size:=⟨_,rfl⟩
   have K32:((w4.alloc (.cells #[] 82)).drew).heap[w4.heap.size]?= some (.cells #[] 82 (0,0)):=ξn w4 (.cells #[] 82)
   have Y32:w4.heap.size≤b32:=by rw[hb32];exact ξr _
   skip
   skip
   have BL:Below w4.heap.size w4 ((w4.alloc (.cells #[] 82)).drew):=((ξb w4.heap.size w4).alloc (ξr _) _).drew
   rw[←hb32] at K32 ⊢
   have O32:=ξh (ξbx (size:=2) K32 Y32)
   clear hb32 K32
   generalize (w4.alloc (.cells #[] 82)).drew=w32 at *
   refine hKK.out _ _ (HSS.out _ BL) (fun hH=> ?_)
   clear hKK KK
   try simp only[Act.put,hlA,hlB,hlC]
   refine ξB (rs:=[8,10]) (by kernel_rfl) (by simp) ?_
   refine AllReadyL.cons rfl (fun KK hKK=> ?_) (AllReadyL.cons rfl (fun KK hKK=> ?_) AllReadyL.nil)
   refine step_of_list rfl ?_
   refine wpList_catG rfl (.tmp 32) (.tmp 38) 176 82 rfl Tryz.underlying176 (.agg #[.int .i64 0,.slice none 0 0]) 2 32 Tryz.infoRou rfl (by decide) w4.heap.size (.slice (some ⟨b32,0,none⟩) 0 0) 0 [] (by rfl) O32.out av k cv ts (by rfl) HT1.out HN1.out (HC.out _ BL).1 HO1.out (by unfold maxLen;omega) (by omega) BL.size ?_
   intro v39 w39 o39 g39 l39
   skip
   have BL:Below w4.heap.size w4 w39:=Below.grown BL g39 BL.size (fun q hq=>by have:b32=q:=ξo hq;omega)
   have R39:=ξh o39
   clear o39 g39 l39
   unfold wpList
   refine⟨rfl,?_⟩
   refine hKK.out _ _ (HSS.out _ BL) (fun hH=> ?_)
   clear hKK KK
   try simp only[Act.put,hlA,hlB,hlC]
   refine ξB (rs:=[10]) (by kernel_rfl) (by simp) ?_
   refine AllReadyL.cons rfl (fun KK hKK=> ?_) AllReadyL.nil
   go_simp
   obtain⟨b41,hb41⟩:∃bb,bb=w39.heap.size:=⟨_,rfl⟩
   have K41:(w39.alloc (.cells #[.int .i64 st,.slice ax mx cx] 82)).heap[w39.heap.size]?= some (.cells #[.int .i64 st,.slice ax mx cx] 82 (0,0)):=ξn w39 (.cells #[.int .i64 st,.slice ax mx cx] 82)
   have R39:=ξh (ξN R39.out ((ξb w39.heap.size w39).alloc (ξr _) (.cells #[.int .i64 st,.slice ax mx cx] 82)))
   skip
   have BL:Below w4.heap.size w4 (w39.alloc (.cells #[.int .i64 st,.slice ax mx cx] 82)):=BL.alloc BL.size _
   rw[←hb41] at K41 ⊢
   have K41:=ξh K41
   clear hb41
   generalize w39.alloc (.cells #[.int .i64 st,.slice ax mx cx] 82)=w41 at *
   refine hKK.out _ _ (HSS.out _ BL) (fun hH=> ?_)
   clear hKK KK
   try simp only[Act.put,hlA,hlB,hlC]
   refine ξB (rs:=[11]) (by kernel_rfl) (by simp) ?_
   refine AllReadyL.cons rfl (fun KK hKK=> ?_) AllReadyL.nil
   refine step_of_list rfl ?_
   refine wpList_catG rfl (.tmp 39) (.tmp 41) 176 82 rfl Tryz.underlying176 (.agg #[.int .i64 0,.slice none 0 0]) 2 32 Tryz.infoRou rfl (by decide) w4.heap.size v39 (0+k) ([]++ts) (by rfl) R39.out (some ⟨b41,0,none⟩) 1 1 [.int .i64 st,.slice ax mx cx] (by rfl) rfl (fun e=>by cases e) (fun ad e j u hu=>by cases e;exact World.news_of_block K41.out j u hu) (fun u hu=>by simp at hu;rcases hu with rfl | rfl <;> rfl) (by unfold maxLen;omega) (by omega) BL.size ?_
   intro v42 w42 o42 g42 l42
   have BL:Below w4.heap.size w4 w42:=Below.grown BL g42 BL.size (fun q hq=>(R39.lt q hq).1)
   have R42:=ξh o42
   clear o42 g42 l42 K41 R39 O32
   unfold wpList
   refine⟨rfl,?_⟩
   refine hKK.out _ _ (HSS.out _ BL) (fun hH=> ?_)
   clear hKK KK
   try simp only[Act.put,hlA,hlB,hlC]
   refine ξB (rs:=[18]) (by kernel_rfl) (by simp) ?_
   refine AllReadyL.cons rfl (fun KK hKK=> ?_) AllReadyL.nil
   refine step_of_list rfl ?_
   refine wpList_catG rfl (.tmp 42) (.tmp 48) 176 82 rfl Tryz.underlying176 (.agg #[.int .i64 0,.slice none 0 0]) 2 32 Tryz.infoRou rfl (by decide) w4.heap.size v42 (0+k+1) ([]++ts++[.int .i64 st,.slice ax mx cx]) (by rfl) R42.out dt (m-k) (cv-k) ds (by rfl) HD1.out HN2.out (HC.out _ BL).2 HO2.out (by unfold maxLen;omega) (by omega) BL.size ?_
   intro v49 w49 o49 g49 l49
   have BL:Below w4.heap.size w4 w49:=Below.grown BL g49 BL.size (fun q hq=>(R42.lt q hq).1)
   obtain⟨N,hN⟩:∃N,N=0+k+1+(m-k):=⟨_,rfl⟩
   rw[←hN] at o49
   have HNN:=ξh hN
   have R49:=ξh o49
   obtain⟨a49,c49,rfl⟩:=rowf o49
   clear hN
   clear o49 g49 l49 R42
   unfold wpList
   refine⟨rfl,?_⟩
   refine hKK.out _ _ (HSS.out _ BL) (fun hH=> ?_)
   clear hKK KK
   try simp only[Act.put,hlA,hlB,hlC]
   refine hlF 19 rfl hH ?_
   try simp only[Act.put,hlA,hlB,hlC]
   refine ξG 20 rfl (by kernel_rfl) (by kernel_rfl) (fun KK hKK=> ?_)
   go_simp
   refine hKK.out _ _ ?_
   clear hKK KK
   try simp only[Act.put,hlA,hlB,hlC]
   refine ξG 21 rfl (by kernel_rfl) (by kernel_rfl) (fun KK hKK=> ?_)
   have hq4:=ξA HBQ.out BL
   have y3:=blkc hq4 (j:=3) (u:= .slice av m cv) rfl
   have g3:w49.frozen? ⟨q,3,none⟩=false:=ξz _ _ _ _ _ hq4
   go_simp
   refine hKK.out _ _ ?_
   clear hKK KK
   try simp only[Act.put,hlA,hlB,hlC]
   refine ξS (by kernel_rfl) ?_ _
   rotate_left 1
   go_simp
   obtain⟨b41,hb41⟩:∃bb,bb=w32.heap.size:=⟨_,rfl⟩
   have K41:(w32.alloc (.cells #[.int .i64 st,.slice ax mx cx] 82)).heap[w32.heap.size]?= some (.cells #[.int .i64 st,.slice ax mx cx] 82 (0,0)):=ξn w32 (.cells #[.int .i64 st,.slice ax mx cx] 82)
   have HNE:b32<b41:=by rw[hb41];exact(O32.lt b32 rfl).2
   have O32:=ξh (ξN O32.out ((ξb w32.heap.size w32).alloc (ξr _) (.cells #[.int .i64 st,.slice ax mx cx] 82)))
   have BL:Below w4.heap.size w4 (w32.alloc (.cells #[.int .i64 st,.slice ax mx cx] 82)):=BL.alloc BL.size _
   rw[←hb41] at K41 ⊢
   have K41:=ξh K41
   clear hb41
   generalize w32.alloc (.cells #[.int .i64 st,.slice ax mx cx] 82)=w41 at *
   refine hKK.out _ _ (HSS.out _ BL) (fun hH=> ?_)
   clear hKK KK
   try simp only[Act.put,hlA,hlB,hlC]
   refine ξB (rs:=[8]) (by kernel_rfl) (by simp) ?_
   refine AllReadyL.cons rfl (fun KK hKK=> ?_) AllReadyL.nil
   refine step_of_list rfl ?_
   refine wpList_catG rfl (.tmp 32) (.tmp 38) 176 82 rfl Tryz.underlying176 (.agg #[.int .i64 0,.slice none 0 0]) 2 32 Tryz.infoRou rfl (by decide) w4.heap.size (.slice (some ⟨b32,0,none⟩) 0 0) 0 [] (by rfl) O32.out av k cv ts (by rfl) HT1.out HN1.out (HC.out _ BL).1 HO1.out (by unfold maxLen;omega) (by omega) BL.size ?_
   intro v39 w39 o39 g39 l39
   have K41:=ξh ((g39.block b41 (ξa K41.out).1 (fun e=>by have:b41=b32:=ξo e;omega)).trans K41.out)
   have BL:Below w4.heap.size w4 w39:=Below.grown BL g39 BL.size (fun q hq=>by have:b32=q:=ξo hq;omega)
   have R39:=ξh o39
   clear o39 g39 l39
   unfold wpList
   refine⟨rfl,?_⟩
   refine hKK.out _ _ (HSS.out _ BL) (fun hH=> ?_)
   clear hKK KK
   try simp only[Act.put,hlA,hlB,hlC]
   refine ξB (rs:=[11]) (by kernel_rfl) (by simp) ?_
   refine AllReadyL.cons rfl (fun KK hKK=> ?_) AllReadyL.nil
   refine step_of_list rfl ?_
   refine wpList_catG rfl (.tmp 39) (.tmp 41) 176 82 rfl Tryz.underlying176 (.agg #[.int .i64 0,.slice none 0 0]) 2 32 Tryz.infoRou rfl (by decide) w4.heap.size v39 (0+k) ([]++ts) (by rfl) R39.out (some ⟨b41,0,none⟩) 1 1 [.int .i64 st,.slice ax mx cx] (by rfl) rfl (fun e=>by cases e) (fun ad e j u hu=>by cases e;exact World.news_of_block K41.out j u hu) (fun u hu=>by simp at hu;rcases hu with rfl | rfl <;> rfl) (by unfold maxLen;omega) (by omega) BL.size ?_
   intro v42 w42 o42 g42 l42
   have BL:Below w4.heap.size w4 w42:=Below.grown BL g42 BL.size (fun q hq=>(R39.lt q hq).1)
   have R42:=ξh o42
   clear o42 g42 l42 K41 R39 O32
   unfold wpList
   refine⟨rfl,?_⟩
   refine hKK.out _ _ (HSS.out _ BL) (fun hH=> ?_)
   clear hKK KK
   try simp only[Act.put,hlA,hlB,hlC]
   refine ξB (rs:=[18]) (by kernel_rfl) (by simp) ?_
   refine AllReadyL.cons rfl (fun KK hKK=> ?_) AllReadyL.nil
   refine step_of_list rfl ?_
   refine wpList_catG rfl (.tmp 42) (.tmp 48) 176 82 rfl Tryz.underlying176 (.agg #[.int .i64 0,.slice none 0 0]) 2 32 Tryz.infoRou rfl (by decide) w4.heap.size v42 (0+k+1) ([]++ts++[.int .i64 st,.slice ax mx cx]) (by rfl) R42.out dt (m-k) (cv-k) ds (by rfl) HD1.out HN2.out (HC.out _ BL).2 HO2.out (by unfold maxLen;omega) (by omega) BL.size ?_
   intro v49 w49 o49 g49 l49
   have BL:Below w4.heap.size w4 w49:=Below.grown BL g49 BL.size (fun q hq=>(R42.lt q hq).1)
   obtain⟨N,hN⟩:∃N,N=0+k+1+(m-k):=⟨_,rfl⟩
   rw[←hN] at o49
   have HNN:=ξh hN
   have R49:=ξh o49
   obtain⟨a49,c49,rfl⟩:=rowf o49
   clear hN
   clear o49 g49 l49 R42
   unfold wpList
   refine⟨rfl,?_⟩
   refine hKK.out _ _ (HSS.out _ BL) (fun hH=> ?_)
   clear hKK KK
   try simp only[Act.put,hlA,hlB,hlC]
   refine hlF 19 rfl hH ?_
   try simp only[Act.put,hlA,hlB,hlC]
   refine ξG 20 rfl (by kernel_rfl) (by kernel_rfl) (fun KK hKK=> ?_)
   go_simp
   refine hKK.out _ _ ?_
   clear hKK KK
   try simp only[Act.put,hlA,hlB,hlC]
   refine ξG 21 rfl (by kernel_rfl) (by kernel_rfl) (fun KK hKK=> ?_)
   have hq4:=ξA HBQ.out BL
   have y3:=blkc hq4 (j:=3) (u:= .slice av m cv) rfl
   have g3:w49.frozen? ⟨q,3,none⟩=false:=ξz _ _ _ _ _ hq4
   go_simp
   refine hKK.out _ _ ?_
   clear hKK KK
   try simp only[Act.put,hlA,hlB,hlC]
   refine ξS (by kernel_rfl) ?_ _
   rotate_left 1
   go_simp
   obtain⟨b41,hb41⟩:∃bb,bb=w4.heap.size:=⟨_,rfl⟩
   have K41:((w4.alloc (.cells #[.int .i64 st,.slice ax mx cx] 82)).drew).heap[w4.heap.size]?= some (.cells #[.int .i64 st,.slice ax mx cx] 82 (0,0)):=ξn w4 (.cells #[.int .i64 st,.slice ax mx cx] 82)
   skip
   skip
   have BL:Below w4.heap.size w4 ((w4.alloc (.cells #[.int .i64 st,.slice ax mx cx] 82)).drew):=((ξb w4.heap.size w4).alloc (ξr _) _).drew
   rw[←hb41] at K41 ⊢
   have K41:=ξh K41
   clear hb41
   generalize (w4.alloc (.cells #[.int .i64 st,.slice ax mx cx] 82)).drew=w41 at *
   refine hKK.out _ _ (HSS.out _ BL) (fun hH=> ?_)
   clear hKK KK
   try simp only[Act.put,hlA,hlB,hlC]
   refine ξB (rs:=[1]) (by kernel_rfl) (by simp) ?_
   refine AllReadyL.cons rfl (fun KK hKK=> ?_) AllReadyL.nil
   go_simp
   obtain⟨b32,hb32⟩:∃bb,bb=w41.heap.size:=⟨_,rfl⟩
   have K32:(w41.alloc (.cells #[] 82)).heap[w41.heap.size]?= some (.cells #[] 82 (0,0)):=ξn w41 (.cells #[] 82)
   have Y32:w4.heap.size≤b32:=by rw[hb32];exact BL.size
   have HNE:b41<b32:=by rw[hb32];exact(ξa K41.out).1
   have K41:=ξh (ξA K41.out ((ξb w41.heap.size w41).alloc (ξr _) (.cells #[] 82)))
   have BL:Below w4.heap.size w4 (w41.alloc (.cells #[] 82)):=BL.alloc BL.size _
   rw[←hb32] at K32 ⊢
   have O32:=ξh (ξbx (size:=2) K32 Y32)
   clear hb32 K32
   generalize w41.alloc (.cells #[] 82)=w32 at *
   refine hKK.out _ _ (HSS.out _ BL) (fun hH=> ?_)
   clear hKK KK
   try simp only[Act.put,hlA,hlB,hlC]
   refine ξB (rs:=[8]) (by kernel_rfl) (by simp) ?_
   refine AllReadyL.cons rfl (fun KK hKK=> ?_) AllReadyL.nil
   refine step_of_list rfl ?_
   refine wpList_catG rfl (.tmp 32) (.tmp 38) 176 82 rfl Tryz.underlying176 (.agg #[.int .i64 0,.slice none 0 0]) 2 32 Tryz.infoRou rfl (by decide) w4.heap.size (.slice (some ⟨b32,0,none⟩) 0 0) 0 [] (by rfl) O32.out av k cv ts (by rfl) HT1.out HN1.out (HC.out _ BL).1 HO1.out (by unfold maxLen;omega) (by omega) BL.size ?_
   intro v39 w39 o39 g39 l39
   have K41:=ξh ((g39.block b41 (ξa K41.out).1 (fun e=>by have:b41=b32:=ξo e;omega)).trans K41.out)
   have BL:Below w4.heap.size w4 w39:=Below.grown BL g39 BL.size (fun q hq=>by have:b32=q:=ξo hq;omega)
   have R39:=ξh o39
   clear o39 g39 l39
   unfold wpList
   refine⟨rfl,?_⟩
   refine hKK.out _ _ (HSS.out _ BL) (fun hH=> ?_)
   clear hKK KK
   try simp only[Act.put,hlA,hlB,hlC]
   refine ξB (rs:=[11]) (by kernel_rfl) (by simp) ?_
   refine AllReadyL.cons rfl (fun KK hKK=> ?_) AllReadyL.nil
   refine step_of_list rfl ?_
   refine wpList_catG rfl (.tmp 39) (.tmp 41) 176 82 rfl Tryz.underlying176 (.agg #[.int .i64 0,.slice none 0 0]) 2 32 Tryz.infoRou rfl (by decide) w4.heap.size v39 (0+k) ([]++ts) (by rfl) R39.out (some ⟨b41,0,none⟩) 1 1 [.int .i64 st,.slice ax mx cx] (by rfl) rfl (fun e=>by cases e) (fun ad e j u hu=>by cases e;exact World.news_of_block K41.out j u hu) (fun u hu=>by simp at hu;rcases hu with rfl | rfl <;> rfl) (by unfold maxLen;omega) (by omega) BL.size ?_
   intro v42 w42 o42 g42 l42
   have BL:Below w4.heap.size w4 w42:=Below.grown BL g42 BL.size (fun q hq=>(R39.lt q hq).1)
   have R42:=ξh o42
   clear o42 g42 l42 K41 R39 O32
   unfold wpList
   refine⟨rfl,?_⟩
   refine hKK.out _ _ (HSS.out _ BL) (fun hH=> ?_)
   clear hKK KK
   try simp only[Act.put,hlA,hlB,hlC]
   refine ξB (rs:=[18]) (by kernel_rfl) (by simp) ?_
   refine AllReadyL.cons rfl (fun KK hKK=> ?_) AllReadyL.nil
   refine step_of_list rfl ?_
   refine wpList_catG rfl (.tmp 42) (.tmp 48) 176 82 rfl Tryz.underlying176 (.agg #[.int .i64 0,.slice none 0 0]) 2 32 Tryz.infoRou rfl (by decide) w4.heap.size v42 (0+k+1) ([]++ts++[.int .i64 st,.slice ax mx cx]) (by rfl) R42.out dt (m-k) (cv-k) ds (by rfl) HD1.out HN2.out (HC.out _ BL).2 HO2.out (by unfold maxLen;omega) (by omega) BL.size ?_
   intro v49 w49 o49 g49 l49
   have BL:Below w4.heap.size w4 w49:=Below.grown BL g49 BL.size (fun q hq=>(R42.lt q hq).1)
   obtain⟨N,hN⟩:∃N,N=0+k+1+(m-k):=⟨_,rfl⟩
   rw[←hN] at o49
   have HNN:=ξh hN
   have R49:=ξh o49
   obtain⟨a49,c49,rfl⟩:=rowf o49
   clear hN
   clear o49 g49 l49 R42
   unfold wpList
   refine⟨rfl,?_⟩
   refine hKK.out _ _ (HSS.out _ BL) (fun hH=> ?_)
   clear hKK KK
   try simp only[Act.put,hlA,hlB,hlC]
   refine hlF 19 rfl hH ?_
   try simp only[Act.put,hlA,hlB,hlC]
   refine ξG 20 rfl (by kernel_rfl) (by kernel_rfl) (fun KK hKK=> ?_)
   go_simp
   refine hKK.out _ _ ?_
   clear hKK KK
   try simp only[Act.put,hlA,hlB,hlC]
   refine ξG 21 rfl (by kernel_rfl) (by kernel_rfl) (fun KK hKK=> ?_)
   have hq4:=ξA HBQ.out BL
   have y3:=blkc hq4 (j:=3) (u:= .slice av m cv) rfl
   have g3:w49.frozen? ⟨q,3,none⟩=false:=ξz _ _ _ _ _ hq4
   go_simp
   refine hKK.out _ _ ?_
   clear hKK KK
   try simp only[Act.put,hlA,hlB,hlC]
   refine ξS (by kernel_rfl) ?_ _
   rotate_left 1
   all_goals
    have hI:=HINS.out k HPK.out
    have hWQ:Below w.heap.size w w49:=HBW.trans (BL.mono HBW.size)
    have hqlt:q<w.heap.size:=(ξa HS.box).1
    have hset:∀g,g≠q→(w49.setCell ⟨q,3,none⟩ (.slice a49 N c49)).heap[g]?= w49.heap[g]?:=fun g hg=>ξm w49 ⟨q,3,none⟩ g _ hg
    have hmv:Mv (QQ q) (QQ q) w (w49.setCell ⟨q,3,none⟩ (.slice a49 N c49)):=⟨hWQ.os,hWQ.tape,hWQ.output,by simp;exact hWQ.size,fun g h1 h2=>(hset g h2).trans (hWQ.block g h1),fun g h=> .inl h⟩
    have hlen:(ps.take k++[(r,Value.slice ax mx cx)]++ps.drop k).length=N:=by
     have:=HM.out
     have:=HNN.out
     simp only[ξk,List.length_take,List.length_drop,List.length_singleton];omega
    have hrcs:rcs st (ps.take k++[(r,Value.slice ax mx cx)]++ps.drop k)=[]++ts++[.int .i64 st,.slice ax mx cx]++ds:=by rw[rcs_app,rcs_app,←HTK.out,←HDK.out];rfl
    have hq5:=ξe w49 q 3 _ _ (.slice a49 N c49) (ξA HBQ.out BL)
    have hlow:∀g,(Value.slice a49 N c49).ownBlock=some g→w4.heap.size≤g:=fun g hg=>(R49.lt g hg).1
    have hw4:w.heap.size≤w4.heap.size:=HBW.size
    have HFIN:=ξh (show SeS (w49.setCell ⟨q,3,none⟩ (.slice a49 N c49)) lo q st tn (.slice au mu cu) (.slice a2 m2 c2) (.slice a49 N c49) (ps.take k++[(r,Value.slice ax mx cx)]++ps.drop k) from by
     refine⟨by rw[hq5];simp,?_,fun p hp=> ?_,fun g hg=>by have:=hlow g hg;omega⟩
     · rw[hlen,hrcs]
       have r1:=rowX_kept R49.out fun g hg=>hset g (by have:=hlow g hg;omega)
       exact⟨r1.1,r1.2.imp id fun⟨g,cap,cur,j1,j2,j3⟩=>⟨g,cap,cur,j1,by have:=HLO.out;omega,j3⟩⟩
     · have hcase:p∈ps∨p=(r,Value.slice ax mx cx):=by
        rcases List.mem_append.1 hp with hp | hp
        · rcases List.mem_append.1 hp with hp | hp
          · exact .inl (List.mem_of_mem_take hp)
          · exact .inr (List.mem_singleton.1 hp)
        · exact .inl (List.mem_of_mem_drop hp)
       rcases hcase with hp | rfl
       · obtain⟨e1,e2⟩:=HS.els p hp
         exact⟨e1.keptM hmv fun g hg e=>e2 g hg e,e2⟩
       · exact⟨HR.keptM hmv fun g hg e=>HRQ.out g hg e,HRQ.out⟩)
    have HFM:=ξh (show(ps.take k++[(r,Value.slice ax mx cx)]++ps.drop k).map Prod.fst=insR n (ps.map Prod.fst) r from by rw[hI];simp)
    have HMV:=ξh hmv
    clear hI hWQ hset hmv hlen hrcs hq5 hlow hw4 BL R49 hq4 y3 g3 hH
    generalize w49.setCell ⟨q,3,none⟩ (.slice a49 N c49)=w50 at *
    go_wp2_with fail
    rw[HNP.out]
    go_end0
    exact⟨rfl,_,_,HFIN.out,HFM.out,HMV.out⟩
end Go.Proofs.YtofcicomhnkocaaGreat
