import Derived.Test.YtofcicomhnkocaaGreatBx22
set_option linter.unusedVariables false
namespace Go.Proofs.YtofcicomhnkocaaGreat
set_option maxHeartbeats 12800000
open Go.RowKit Go.Sort
set_option maxRecDepth 100000
structure SeA (wA:World) (q:Nat) (u1 u2:Value) (n:Net):Prop where
 net:Rdt wA (flt 4 fibE n.fs) u2
 u1s:∃a m c,u1= .slice a m c
 fl:n.fs.length≤14
 nl:n.ns.length≤8
 ends:∀i,i<n.fs.length→0≤(fbA n i).a∧(fbA n i).a<n.ns.length∧0≤(fbA n i).b∧(fbA n i).b<n.ns.length
 len:LenOk n
 lo:wA.heap.size≤q
theorem SeA.th {wA:World} {q:Nat} {u1 u2:Value} {n:Net} (h:SeA wA q u1 u2 n) {k:Nat} (hk:k<n.fs.length) (t:Int): -1≤othE (fbA n k) t∧othE (fbA n k) t<n.ns.length:=by
 have:=h.ends k hk
 unfold othE
 split
 · omega
 · split <;> omega
structure SeX (wA w:World) (lo q:Nat) (st tn:Int) (u1 u2:Value) (n:Net) (f:Nat) (t:Int) (seen:List Int) (vs vl:Value) (fb:List Int) (v:Value) (ps:List (List Int × Value)):Prop where
 sta:SeS w lo q st tn u1 u2 v ps
 bel:Below wA.heap.size wA w
 rfb:Rd w vl fb
 apf:∀g,vl.ownBlock=some g→g≠q
 rsn:Rd w vs seen
 aps:∀g,vs.ownBlock=some g→g≠q
 lo:lo≤w.heap.size
 fbl:fb.length+1=seen.length
 fue:f+seen.length=n.ns.length+2
 nod:seen.Nodup
 rng:∀s∈seen,0≤s∧s<n.ns.length
 lst:seen[seen.length-1]?.getD 0=t
 inn:ξa7 n fb
 cap:ps.length≤200
 els:∀p∈ps,p.1.length≤1000∧ξa7 n p.1
def SeQ (lo q:Nat) (st tn:Int) (u1 u2:Value) (n:Net) (L:List (List Int)) (w:World) (e:Ending) (w':World):Prop:=
 e= .returned (.tuple #[])∧ ∃v' ps',SeS w' lo q st tn u1 u2 v' ps'∧ps'.map Prod.fst=L∧Mv (QQ q) (QQ q) w w'∧ ∀p∈ps',p.1.length≤1000∧ξa7 n p.1
theorem SeP.q {lo q:Nat} {st tn:Int} {u1 u2:Value} {n:Net} {ps:List (List Int × Value)} {r:List Int} {w w':World} {e:Ending} (h:SeP lo q st tn u1 u2 (insR n (ps.map Prod.fst) r) w e w') (hl:ps.length≤200) (he:∀p∈ps,p.1.length≤1000∧ξa7 n p.1) (hr:r.length≤1000∧ξa7 n r):SeQ lo q st tn u1 u2 n (ξW n (ps.map Prod.fst) [r]) w e w':=by
 obtain⟨h1,v',ps',h2,h3,h4⟩:=h
 refine⟨h1,v',ps',h2,by rw[feedR_one (by rw[List.length_map];exact hl),h3],h4,fun p hp=> ?_⟩
 have hm:p.1∈ps'.map Prod.fst:=List.mem_map_of_mem hp
 rw[h3] at hm
 rcases List.mem_cons.1 ((ξbG n _ r).mem_iff.1 hm) with e | e
 · rw[e];exact hr
 · obtain⟨p',hp',e'⟩:=List.mem_map.1 e
   rw[←e'];exact he p' hp'
theorem sexEnd_any {wA w:World} {lo q:Nat} {st tn:Int} {u1 u2:Value} {n:Net} {f:Nat} {t:Int} {seen:List Int} {vs vl:Value} {fb:List Int} {v:Value} {ps:List (List Int × Value)} (hA:SeA wA q u1 u2 n) (h:SeX wA w lo q st tn u1 u2 n (f+1) t seen vs vl fb v ps) (ht:t=tn):
 Calls Tryz.prog 233 #[ptr q,.agg #[.int .i64 st,vl],vs] w (SeQ lo q st tn u1 u2 n (ξW n (ps.map Prod.fst) [fb]) w):=by
 obtain⟨NP,hNP⟩:∃NP,NP=SeQ lo q st tn u1 u2 n (ξW n (ps.map Prod.fst) [fb]) w:=⟨_,rfl⟩
 rw[←hNP]
 have hfl:fb.length≤1000:=by have:=h.fbl;have:=h.fue;have:=hA.nl;omega
 have HPUT:=ξh (fun w' (hb:Below w.heap.size w w')=>put_any q lo st tn u1 u2 v vl n ps fb w' (h.sta.below hb) (hA.net.behind (h.bel.trans (hb.mono h.bel.size))) hA.u1s (h.rfb.belowAll hb) h.apf (ξs h.lo hb.size) (ξs h.cap (by decide)) h.els hfl h.inn hA.len)
 have HFIN:=ξh (fun w1 e w' (hb:Below w.heap.size w w1) (hp:SeP lo q st tn u1 u2 (insR n (ps.map Prod.fst) fb) w1 e w')=>show SeQ lo q st tn u1 u2 n (ξW n (ps.map Prod.fst) [fb]) w e w' from by
  obtain⟨h1,v',ps',h2,h3,h4,h5⟩:=hp.q h.cap h.els ⟨hfl,h.inn⟩
  exact⟨h1,v',ps',h2,h3,(Mv.of_below hb).trans h4,h5⟩)
 obtain⟨a,c,m,HM,rfl,hmc,hm63,ha⟩:=h.rsn.opn
 obtain⟨al,ml,cl,rfl⟩:=h.rfb.sl
 have hm1:1≤m:=by have:=HM.out;have:=h.fbl;omega
 have hm10:m≤10:=by have:=HM.out;have:=h.fue;have:=hA.nl;omega
 obtain⟨b,off,rfl,hbs,hcs⟩:=ha (by omega)
 have c0:=hcs (m-1) (by omega)
 have hlst:=h.lst
 rw[HM.out] at hlst
 rw[hlst] at c0
 have q2:=blkc h.sta.box (j:=2) (u:= .int .i64 tn) rfl
 have hqlt:q<w.heap.size:=(ξa h.sta.box).1
 have i0:(1:Int)≤(m:Int):=by omega
 have i1:0≤(m:Int)-1:=by omega
 have i2:wrap64 ((m:Int)-1)=(m:Int)-1:=ξw _ (by omega)
 have i3:((m:Int)-1).toNat=m-1:=by omega
 have i4:(m:Int)-1<(m:Int):=by omega
 have i5:IntKind.i64.wrap ((m:Int)-1)=(m:Int)-1:=ξi _ (by omega)
 have htb:(t==tn)=true:=by simp[ht]
 have htd:decide (t=tn)=true:=by simp[ht]
 have HB1:=ξh ((ξb w.heap.size w).alloc (ξr _) (.cells #[.int .i64 st,.slice al ml cl] 82))
 have HX1:=ξh (ξn w (.cells #[.int .i64 st,.slice al ml cl] 82))
 have c1:=(HB1.cell (p:=⟨b,off+(m-1),none⟩) hbs).trans c0
 have q3:=(HB1.cell (p:=⟨q,2,none⟩) hqlt).trans q2
 have y0:=blkc HX1.out (j:=0) (u:= .int .i64 st) rfl
 have y1:=blkc HX1.out (j:=1) (u:= .slice al ml cl) rfl
 have HNP:=ξh hNP
 clear h hA ht hNP ha hcs hlst c0 q2
 go_enter Tryz.func233,Tryz.ntmps233
 go_upto_region 1 with fail
 generalize w.alloc (.cells #[.int .i64 st,.slice al ml cl] 82)=w1 at *
 go_wp2_with fail
 refine(HPUT.out w1 HB1.out).mono ?_
 intro e w2 hp
 have HF:=ξh (HFIN.out w1 e w2 HB1.out hp)
 obtain⟨rfl,-⟩:=hp
 go_wp2_with fail
 rw[HNP.out]
 go_end0
 exact HF.out
theorem ξaB {w:World} {base b' n m:Nat} {T:TypeId} {v:Value} {us:List Value} (h:w.ownsRow base T m v n us) (hb:b'≤base):w.ownsRow b' T m v n us:=
 ⟨h.1,h.2.imp id fun⟨g,cap,cur,k1,k2,k3⟩=>⟨g,cap,cur,k1,ξs hb k2,k3⟩⟩
theorem feed_step {n:Net} {L:List (List Int)} {g:Nat→List (List Int)} {k:Nat} (h:L.length≤201):ξW n L ((List.range (k+1)).flatMap g)=ξW n (ξW n L ((List.range k).flatMap g)) (g k):=by
 rw[ξc2,feedR_app h]
theorem feed_stop {n:Net} {L:List (List Int)} {g:Nat→List (List Int)} {k m:Nat} (h:L.length≤201) (hk:k≤m) (hf:201≤(ξW n L ((List.range k).flatMap g)).length):ξW n L ((List.range m).flatMap g)=ξW n L ((List.range k).flatMap g):=by
 induction m with
 | zero=>obtain rfl:k=0:=by omega
         rfl
 | succ m ih=>
   by_cases e:k=m+1
   · subst e;rfl
   · rw[feed_step h,ih (by omega),feedR_full hf]
theorem sexGo_any {wA:World} {lo q:Nat} {st tn:Int} {u1 u2:Value} {n:Net} (hA:SeA wA q u1 u2 n) {f:Nat}
 (IH:∀(t:Int) (seen:List Int) (vs vl:Value) (fb:List Int) (v:Value) (ps:List (List Int × Value)) (w:World),SeX wA w lo q st tn u1 u2 n f t seen vs vl fb v ps→Calls Tryz.prog 233 #[ptr q,.agg #[.int .i64 st,vl],vs] w (SeQ lo q st tn u1 u2 n (ξW n (ps.map Prod.fst) (extR n tn f t seen fb)) w))
 {t:Int} {seen:List Int} {vs vl:Value} {fb:List Int} {v:Value} {ps:List (List Int × Value)} {w:World} (h:SeX wA w lo q st tn u1 u2 n (f+1) t seen vs vl fb v ps) (ht:¬t=tn):
 Calls Tryz.prog 233 #[ptr q,.agg #[.int .i64 st,vl],vs] w (SeQ lo q st tn u1 u2 n (ξW n (ps.map Prod.fst) (extR n tn (f+1) t seen fb)) w):=by
 obtain⟨NP,hNP⟩:∃NP,NP=SeQ lo q st tn u1 u2 n (ξW n (ps.map Prod.fst) (extR n tn (f+1) t seen fb)) w:=⟨_,rfl⟩
 rw[←hNP]
 rw[extR_go ht] at hNP
 have HH:=ξh hA
 have HP:=ξh h
 have HIH:=ξh IH
 have hL201:(ps.map Prod.fst).length≤201:=by rw[List.length_map];have:=h.cap;omega
 have HL201:=ξh hL201
 have HOT:=ξh (fun k (hk:k<n.fs.length) w' (hb:Below wA.heap.size wA w')=>ξct u1 u2 n k t w' (hA.net.behind hb) hA.u1s hk)
 have HTH:=ξh (fun k (hk:k<n.fs.length)=>hA.th hk t)
 have HHAS:=ξh (fun x w' (hb:Rd w' vs seen)=>ξbh vs seen x w' hb)
 have hfl:fb.length≤900000:=by have:=h.fbl;have:=h.fue;have:=hA.nl;omega
 have hsl:seen.length≤900000:=by have:=h.fue;have:=hA.nl;omega
 have HOF:=ξh (fun w' (hb:Rd w' vl fb)=>ξc4 vl fb w' hb hfl)
 have HOS:=ξh (fun w' (hb:Rd w' vs seen)=>ξc4 vs seen w' hb hsl)
 obtain⟨a,c,m,HM,rfl,hmc,hm63,ha⟩:=h.rsn.opn
 obtain⟨al,ml,cl,rfl⟩:=h.rfb.sl
 obtain⟨au,mu,cu,rfl⟩:=hA.u1s
 obtain⟨a2,m2,c2,rfl,HN2,hc2,hm2,ha2⟩:=ξC (m:=4) (enc:=fibE) (fun _=>rfl) (by omega) nilB hA.net
 have hm14:m2≤14:=by rw[←HN2.out];exact hA.fl
 rw[HN2.out] at hNP HOT HTH
 have hm1:1≤m:=by have:=HM.out;have:=h.fbl;omega
 have hm10:m≤10:=by have:=HM.out;have:=h.fue;have:=hA.nl;omega
 obtain⟨b,off,rfl,hbs,hcs⟩:=ha (by omega)
 have c0:=hcs (m-1) (by omega)
 have hlst:=h.lst
 rw[HM.out] at hlst
 rw[hlst] at c0
 have q2:=blkc h.sta.box (j:=2) (u:= .int .i64 tn) rfl
 have hqlt:q<w.heap.size:=(ξa h.sta.box).1
 have i0:(1:Int)≤(m:Int):=by omega
 have i1:0≤(m:Int)-1:=by omega
 have i2:wrap64 ((m:Int)-1)=(m:Int)-1:=ξw _ (by omega)
 have i3:((m:Int)-1).toNat=m-1:=by omega
 have i4:(m:Int)-1<(m:Int):=by omega
 have i5:IntKind.i64.wrap ((m:Int)-1)=(m:Int)-1:=ξi _ (by omega)
 have htb:(t==tn)=false:=by simpa using ht
 have htd:decide (t=tn)=false:=by simpa using ht
 have HB1:=ξh ((ξb w.heap.size w).alloc (ξr _) (.cells #[.int .i64 st,.slice al ml cl] 82))
 have HX1:=ξh (ξn w (.cells #[.int .i64 st,.slice al ml cl] 82))
 have c1:=(HB1.cell (p:=⟨b,off+(m-1),none⟩) hbs).trans c0
 have q3:=(HB1.cell (p:=⟨q,2,none⟩) hqlt).trans q2
 have HST:=ξh (show∃ps',SeS (w.alloc (.cells #[.int .i64 st,.slice al ml cl] 82)) lo q st tn (.slice au mu cu) (.slice a2 m2 c2) v ps'∧ps'.map Prod.fst=ξW n (ps.map Prod.fst) ((List.range 0).flatMap (extI n tn f t seen fb))∧Mv (QQ q) (QQ q) w (w.alloc (.cells #[.int .i64 st,.slice al ml cl] 82))∧ ∀p∈ps',p.1.length≤1000∧ξa7 n p.1 from
  ⟨ps,h.sta.below HB1.out,by simp[feedR_nil],Mv.of_below HB1.out,h.els⟩)
 have HNP:=ξh hNP
 have HQLT:=ξh hqlt
 clear h hA ht hNP ha hcs hlst c0 q2 IH ha2 hL201 hfl hsl hc2 hm2 hqlt
 go_enter Tryz.func233,Tryz.ntmps233
 go_upto_region 1 with fail
 obtain⟨bx,hbx⟩:∃bx,bx=w.heap.size:=⟨_,rfl⟩
 rw[←hbx] at HX1 ⊢
 have HBX:=ξh hbx
 clear hbx
 generalize w.alloc (.cells #[.int .i64 st,.slice al ml cl] 82)=w1 at *
 go_wp2_with fail
 clear c1 q3 htb htd i1 i2 i3 i4 i5
 go_loopw [7] (fun i wr=>∃(k:Nat) (v':Value),k≤m2∧i= .int .i64 k∧Hid (∃ps',SeS wr lo q st tn (.slice au mu cu) (.slice a2 m2 c2) v' ps'∧ps'.map Prod.fst=ξW n (ps.map Prod.fst) ((List.range k).flatMap (extI n tn f t seen fb))∧Mv (QQ q) (QQ q) w wr∧ ∀p∈ps',p.1.length≤1000∧ξa7 n p.1)∧Hid (wr.heap[bx]?= some (.cells #[.int .i64 st,.slice al ml cl] 82 (0,0)))) (fun i _=>m2-(intOf i).toNat)
 case atStart=>exact⟨0,v,ξu _,rfl,HST,HX1⟩
 case round=>
  obtain⟨k,v',hk,rfl,HD,HX⟩:=hrel
  obtain⟨ps',hS,hMp,hV,hE⟩:=HD.out
  obtain⟨av,cv,rfl⟩:=rowf hS.row
  have HS:=ξh hS
  have HMP:=ξh hMp
  have HMV:=ξh hV
  have HEL:=ξh hE
  have p1:=blkc hS.box (j:=1) (u:= .slice a2 m2 c2) rfl
  have p3:=blkc hS.box (j:=3) (u:= .slice av ps'.length cv) rfl
  have HPL:=ξh (show ps'.length=(ξW n (ps.map Prod.fst) ((List.range k).flatMap (extI n tn f t seen fb))).length from by rw[←hMp,List.length_map])
  have hps:ps'.length≤201:=by
   rw[HPL.out,feedR_len HL201.out];omega
  have HPS:=ξh (show ps'.length≤200→ps'.length≤200 from id)
  generalize hz:ps'.length=z at *
  have HZ:=ξh hz
  clear hS hMp hV hE HD hz HPS
  by_cases hlt:k<m2
  · have hltI:(k:Int)<(m2:Int):=by omega
    by_cases hz200:z≤200
    · have hzI:(z:Int)≤200:=by omega
      have HBW:=ξh (show Below wA.heap.size wA wr from HMV.below HP.bel HP.bel.size (fun g hg=>by rw[hg];exact HH.lo))
      have p0:=blkc HS.box (j:=0) (u:= .slice au mu cu) rfl
      have HRF:=ξh (HP.rfb.keptM HMV.out fun g hg e=>HP.apf g hg e)
      have HRS:=ξh (HP.rsn.keptM HMV.out fun g hg e=>HP.aps g hg e)
      have HFD:=ξh (feed_step (n:=n) (g:=extI n tn f t seen fb) (k:=k) HL201.out)
      have HEI:=ξh (show extI n tn f t seen fb k=if 0≤othE (fbA n k) t∧othE (fbA n k) t ∉ seen then extR n tn f (othE (fbA n k) t) (seen++[othE (fbA n k) t]) (fb++[(k:Int)]) else[] from rfl)
      have HT:=ξh (HTH.out k hlt)
      have HO1:=ξh (HOT.out k hlt wr HBW.out)
      have HHA:=ξh (fun w' (hb:Below wr.heap.size wr w')=>HHAS.out (othE (fbA n k) t) w' (HRS.belowAll hb))
      generalize othE (fbA n k) t=nx at *
      go_wp2_with fail
      refine HO1.mono ?_
      rintro e w2 ⟨rfl,b2⟩
      have HS2:=ξh (HS.below b2)
      have HX2:=ξh (ξA HX.out b2)
      have HMV2:=ξh (HMV.trans (Mv.of_below b2))
      have HB2:=ξh b2
      have HBW2:=ξh (HBW.trans (b2.mono HBW.size))
      clear b2 p0 p1 p3
      by_cases ho:0≤nx
      · have hod:decide (nx≥0)=true:=ξt ho
        by_cases hmem:nx∈seen
        · have hct:seen.contains nx=true:=by simpa using hmem
          have HEX:=ξh (HEI.trans (if_neg (fun hh=>hh.2 hmem)))
          clear hmem
          go_wp2_with (go_at_call 59;refine(HHA.out _ HB2.out).mono ?_;rintro e w' ⟨rfl,rfl⟩;rw[hct])
          go_roundw
          case rel=>exact⟨k+1,_,by omega,by go_num,⟨ps',HS2.out,by rw[HMP.out,HFD.out,HEX.out,feedR_nil],HMV2.out,HEL.out⟩,HX2.out⟩
          case measure=>simp[intOf];omega
        · have hct:seen.contains nx=false:=by simpa using hmem
          have HEX:=ξh (HEI.trans (if_pos ⟨ho,hmem⟩))
          have HNM:=ξh hmem
          clear hmem HHAS
          go_wp2_with (go_at_call 59;refine(HHA.out _ HB2.out).mono ?_;rintro e w' ⟨rfl,rfl⟩;rw[hct])
          have HRF2:=ξh (HRF.belowAll HB2.out)
          have HRS2:=ξh (HRS.belowAll HB2.out)
          have HSS:=ξh (fun(w':World) (hb:Below w2.heap.size w2 w')=>show w'.cell? ⟨bx,0,none⟩=some (.int .i64 st)∧w'.cell? ⟨bx,1,none⟩=some (.slice al ml cl) from
           ⟨blkc (ξA HX2.out hb) rfl,blkc (ξA HX2.out hb) rfl⟩)
          have hb10:fb.length≤10∧seen.length≤10:=by have:=HP.fbl;have:=HP.fue;have:=HH.nl;omega
          clear hct hod
          refine ξH [0,1,2,3,4,5,6,7,8,9,10,11,12,13,14,15] (S:=fun w'=>w'.cell? ⟨bx,0,none⟩=some (.int .i64 st)∧w'.cell? ⟨bx,1,none⟩=some (.slice al ml cl)) (by kernel_rfl) (HSS.out _ (ξb _ _).drew) (fun hH=> ?_)
          have BL:Below w2.heap.size w2 w2.drew:=(ξb _ _).drew
          obtain⟨wc,hwc⟩:∃wc,wc=w2.drew:=⟨_,rfl⟩
          rw[←hwc] at BL hH ⊢
          clear hwc
          refine hlF 0 rfl hH ?_
          try simp only[Act.put,hlA,hlB,hlC]
          refine hlF 1 rfl hH ?_
          try simp only[Act.put,hlA,hlB,hlC]
          refine hlF 2 rfl hH ?_
          try simp only[Act.put,hlA,hlB,hlC]
          refine hlF 3 rfl hH ?_
          try simp only[Act.put,hlA,hlB,hlC]
          refine hlF 4 rfl hH ?_
          try simp only[Act.put,hlA,hlB,hlC]
          refine hlF 6 rfl hH ?_
          try simp only[Act.put,hlA,hlB,hlC]
          refine hlF 10 rfl hH ?_
          try simp only[Act.put,hlA,hlB,hlC]
          refine hlF 12 rfl hH ?_
          try simp only[Act.put,hlA,hlB,hlC]
          refine ξB (rs:=[5,7,13]) (by kernel_rfl) (by simp) ?_
          refine AllReadyL.cons rfl (fun KK hKK=> ?_) (AllReadyL.cons rfl (fun KK hKK=> ?_) (AllReadyL.cons rfl (fun KK hKK=> ?_) AllReadyL.nil))
          go_simp
          go_at_call 187
          refine(HOF.out _ (HRF2.belowAll BL)).mono ?_
          rintro e wn ⟨v62,rfl,o62,b62⟩
          skip
          skip
          skip
          have L62:w2.heap.size≤wc.heap.size:=BL.size
          have BL:=BL.trans (b62.mono BL.size)
          have O62:=ξh (ξaB o62 L62)
          clear o62 b62 L62
          obtain⟨wc,hwc⟩:∃wc,wc=wn:=⟨_,rfl⟩
          subst hwc
          refine hKK.out _ _ (HSS.out _ BL) (fun hH=> ?_)
          clear hKK KK
          try simp only[Act.put,hlA,hlB,hlC]
          have R5:True:=trivial
          rotate_left 1
          go_simp
          obtain⟨b64,hb64⟩:∃bb,bb=wc.heap.size:=⟨_,rfl⟩
          have BA:Below wc.heap.size wc (wc.alloc (.cells #[.int .i64 (k:Int)] 3)):=(ξb _ _).alloc (ξr _) _
          have K64:=ξn wc (.cells #[.int .i64 (k:Int)] 3)
          rw[←hb64] at K64 ⊢
          have K64:=ξh K64
          skip
          skip
          have BL:=BL.trans (BA.mono BL.size)
          clear hb64 BA
          generalize wc.alloc (.cells #[.int .i64 (k:Int)] 3)=wn at *
          obtain⟨wc,hwc⟩:∃wc,wc=wn:=⟨_,rfl⟩
          subst hwc
          refine hKK.out _ _ (HSS.out _ BL) (fun hH=> ?_)
          clear hKK KK
          try simp only[Act.put,hlA,hlB,hlC]
          have R7:True:=trivial
          rotate_left 1
          go_simp
          obtain⟨b70,hb70⟩:∃bb,bb=wc.heap.size:=⟨_,rfl⟩
          have BA:Below wc.heap.size wc (wc.alloc (.cells #[.int .i64 nx] 3)):=(ξb _ _).alloc (ξr _) _
          have K70:=ξn wc (.cells #[.int .i64 nx] 3)
          rw[←hb70] at K70 ⊢
          have K70:=ξh K70
          skip
          skip
          skip
          skip
          have BL:=BL.trans (BA.mono BL.size)
          clear hb70 BA
          generalize wc.alloc (.cells #[.int .i64 nx] 3)=wn at *
          obtain⟨wc,hwc⟩:∃wc,wc=wn:=⟨_,rfl⟩
          subst hwc
          refine hKK.out _ _ (HSS.out _ BL) (fun hH=> ?_)
          clear hKK KK
          try simp only[Act.put,hlA,hlB,hlC]
          have R13:True:=trivial
          rotate_left 1
          all_goals
           first
            | have hD:True:=R5
              clear hD
              refine ξB (rs:=[7,13]) (by kernel_rfl) (by simp) ?_
              refine AllReadyL.cons rfl (fun KK hKK=> ?_) (AllReadyL.cons rfl (fun KK hKK=> ?_) AllReadyL.nil)
              go_simp
              obtain⟨b64,hb64⟩:∃bb,bb=wc.heap.size:=⟨_,rfl⟩
              have BA:Below wc.heap.size wc (wc.alloc (.cells #[.int .i64 (k:Int)] 3)):=(ξb _ _).alloc (ξr _) _
              have K64:=ξn wc (.cells #[.int .i64 (k:Int)] 3)
              rw[←hb64] at K64 ⊢
              have K64:=ξh K64
              have O62:=ξh (ξN O62.out BA)
              skip
              have BL:=BL.trans (BA.mono BL.size)
              clear hb64 BA
              generalize wc.alloc (.cells #[.int .i64 (k:Int)] 3)=wn at *
              obtain⟨wc,hwc⟩:∃wc,wc=wn:=⟨_,rfl⟩
              subst hwc
              refine hKK.out _ _ (HSS.out _ BL) (fun hH=> ?_)
              clear hKK KK
              try simp only[Act.put,hlA,hlB,hlC]
              have R7:True:=trivial
              rotate_left 1
              go_simp
              obtain⟨b70,hb70⟩:∃bb,bb=wc.heap.size:=⟨_,rfl⟩
              have BA:Below wc.heap.size wc (wc.alloc (.cells #[.int .i64 nx] 3)):=(ξb _ _).alloc (ξr _) _
              have K70:=ξn wc (.cells #[.int .i64 nx] 3)
              rw[←hb70] at K70 ⊢
              have K70:=ξh K70
              have A70:∀g,v62.ownBlock=some g→g≠b70:=fun g hg e=>by have:=(O62.lt g hg).2;omega
              have O62:=ξh (ξN O62.out BA)
              skip
              skip
              have BL:=BL.trans (BA.mono BL.size)
              clear hb70 BA
              generalize wc.alloc (.cells #[.int .i64 nx] 3)=wn at *
              obtain⟨wc,hwc⟩:∃wc,wc=wn:=⟨_,rfl⟩
              subst hwc
              refine hKK.out _ _ (HSS.out _ BL) (fun hH=> ?_)
              clear hKK KK
              try simp only[Act.put,hlA,hlB,hlC]
              have R13:True:=trivial
              rotate_left 1
            | have hD:True:=R7
              clear hD
              refine ξB (rs:=[5,13]) (by kernel_rfl) (by simp) ?_
              refine AllReadyL.cons rfl (fun KK hKK=> ?_) (AllReadyL.cons rfl (fun KK hKK=> ?_) AllReadyL.nil)
              go_simp
              go_at_call 187
              refine(HOF.out _ (HRF2.belowAll BL)).mono ?_
              rintro e wn ⟨v62,rfl,o62,b62⟩
              skip
              have K64:=ξh (ξA K64.out b62)
              skip
              have L62:w2.heap.size≤wc.heap.size:=BL.size
              have BL:=BL.trans (b62.mono BL.size)
              have O62:=ξh (ξaB o62 L62)
              clear o62 b62 L62
              obtain⟨wc,hwc⟩:∃wc,wc=wn:=⟨_,rfl⟩
              subst hwc
              refine hKK.out _ _ (HSS.out _ BL) (fun hH=> ?_)
              clear hKK KK
              try simp only[Act.put,hlA,hlB,hlC]
              have R5:True:=trivial
              rotate_left 1
              go_simp
              obtain⟨b70,hb70⟩:∃bb,bb=wc.heap.size:=⟨_,rfl⟩
              have BA:Below wc.heap.size wc (wc.alloc (.cells #[.int .i64 nx] 3)):=(ξb _ _).alloc (ξr _) _
              have K70:=ξn wc (.cells #[.int .i64 nx] 3)
              rw[←hb70] at K70 ⊢
              have K70:=ξh K70
              skip
              skip
              have K64:=ξh (ξA K64.out BA)
              skip
              have BL:=BL.trans (BA.mono BL.size)
              clear hb70 BA
              generalize wc.alloc (.cells #[.int .i64 nx] 3)=wn at *
              obtain⟨wc,hwc⟩:∃wc,wc=wn:=⟨_,rfl⟩
              subst hwc
              refine hKK.out _ _ (HSS.out _ BL) (fun hH=> ?_)
              clear hKK KK
              try simp only[Act.put,hlA,hlB,hlC]
              have R13:True:=trivial
              rotate_left 1
            | have hD:True:=R13
              clear hD
              refine ξB (rs:=[5,7]) (by kernel_rfl) (by simp) ?_
              refine AllReadyL.cons rfl (fun KK hKK=> ?_) (AllReadyL.cons rfl (fun KK hKK=> ?_) AllReadyL.nil)
              go_simp
              go_at_call 187
              refine(HOF.out _ (HRF2.belowAll BL)).mono ?_
              rintro e wn ⟨v62,rfl,o62,b62⟩
              have A70:∀g,v62.ownBlock=some g→g≠b70:=fun g hg e=>by have:=(o62.lt g hg).1;have:=(ξa K70.out).1;omega
              skip
              have K70:=ξh (ξA K70.out b62)
              have L62:w2.heap.size≤wc.heap.size:=BL.size
              have BL:=BL.trans (b62.mono BL.size)
              have O62:=ξh (ξaB o62 L62)
              clear o62 b62 L62
              obtain⟨wc,hwc⟩:∃wc,wc=wn:=⟨_,rfl⟩
              subst hwc
              refine hKK.out _ _ (HSS.out _ BL) (fun hH=> ?_)
              clear hKK KK
              try simp only[Act.put,hlA,hlB,hlC]
              have R5:True:=trivial
              rotate_left 1
              go_simp
              obtain⟨b64,hb64⟩:∃bb,bb=wc.heap.size:=⟨_,rfl⟩
              have BA:Below wc.heap.size wc (wc.alloc (.cells #[.int .i64 (k:Int)] 3)):=(ξb _ _).alloc (ξr _) _
              have K64:=ξn wc (.cells #[.int .i64 (k:Int)] 3)
              rw[←hb64] at K64 ⊢
              have K64:=ξh K64
              skip
              have K70:=ξh (ξA K70.out BA)
              have BL:=BL.trans (BA.mono BL.size)
              clear hb64 BA
              generalize wc.alloc (.cells #[.int .i64 (k:Int)] 3)=wn at *
              obtain⟨wc,hwc⟩:∃wc,wc=wn:=⟨_,rfl⟩
              subst hwc
              refine hKK.out _ _ (HSS.out _ BL) (fun hH=> ?_)
              clear hKK KK
              try simp only[Act.put,hlA,hlB,hlC]
              have R7:True:=trivial
              rotate_left 1
          all_goals
           first
            | have hD:True:=(fun _ _=>trivial:True→True→True) R5 R7
              clear hD
              refine ξB (rs:=[8,13]) (by kernel_rfl) (by simp) ?_
              refine AllReadyL.cons rfl (fun KK hKK=> ?_) (AllReadyL.cons rfl (fun KK hKK=> ?_) AllReadyL.nil)
              refine step_of_list rfl ?_
              refine wpList_catG rfl (.tmp 62) (.tmp 64) 58 3 rfl Tryz.underlying58 (.int .i64 0) 1 8 Tryz.infoInt rfl (by decide) w2.heap.size v62 fb.length (ints fb) (by rfl) O62.out (some ⟨b64,0,none⟩) 1 1 [.int .i64 (k:Int)] (by rfl) rfl (fun e=>by cases e) (fun ad e j u hu=>by cases e;exact World.news_of_block K64.out j u hu) (fun u hu=>by simp at hu;subst hu;rfl) (by unfold maxLen;omega) (by omega) BL.size ?_
              intro v65 wn o65 g65 l65
              skip
              have BL:Below w2.heap.size w2 wn:=Below.grown BL g65 BL.size (fun q hq=>(O62.lt q hq).1)
              have O65:=ξh o65
              clear o65 g65 l65 K64 O62
              obtain⟨wc,hwc⟩:∃wc,wc=wn:=⟨_,rfl⟩
              subst hwc
              unfold wpList
              refine⟨rfl,?_⟩
              refine hKK.out _ _ (HSS.out _ BL) (fun hH=> ?_)
              clear hKK KK
              try simp only[Act.put,hlA,hlB,hlC]
              have R8:True:=trivial
              obtain⟨a65,c65,rfl⟩:=rowf O65.out
              refine hlF 9 rfl hH ?_
              try simp only[Act.put,hlA,hlB,hlC]
              rotate_left 1
              go_simp
              obtain⟨b70,hb70⟩:∃bb,bb=wc.heap.size:=⟨_,rfl⟩
              have BA:Below wc.heap.size wc (wc.alloc (.cells #[.int .i64 nx] 3)):=(ξb _ _).alloc (ξr _) _
              have K70:=ξn wc (.cells #[.int .i64 nx] 3)
              rw[←hb70] at K70 ⊢
              have K70:=ξh K70
              have A70:∀g,v62.ownBlock=some g→g≠b70:=fun g hg e=>by have:=(O62.lt g hg).2;omega
              have O62:=ξh (ξN O62.out BA)
              have K64:=ξh (ξA K64.out BA)
              skip
              have BL:=BL.trans (BA.mono BL.size)
              clear hb70 BA
              generalize wc.alloc (.cells #[.int .i64 nx] 3)=wn at *
              obtain⟨wc,hwc⟩:∃wc,wc=wn:=⟨_,rfl⟩
              subst hwc
              refine hKK.out _ _ (HSS.out _ BL) (fun hH=> ?_)
              clear hKK KK
              try simp only[Act.put,hlA,hlB,hlC]
              have R13:True:=trivial
              rotate_left 1
            | have hD:True:=(fun _ _=>trivial:True→True→True) R5 R13
              clear hD
              refine ξB (rs:=[7]) (by kernel_rfl) (by simp) ?_
              refine AllReadyL.cons rfl (fun KK hKK=> ?_) AllReadyL.nil
              go_simp
              obtain⟨b64,hb64⟩:∃bb,bb=wc.heap.size:=⟨_,rfl⟩
              have BA:Below wc.heap.size wc (wc.alloc (.cells #[.int .i64 (k:Int)] 3)):=(ξb _ _).alloc (ξr _) _
              have K64:=ξn wc (.cells #[.int .i64 (k:Int)] 3)
              rw[←hb64] at K64 ⊢
              have K64:=ξh K64
              have O62:=ξh (ξN O62.out BA)
              have K70:=ξh (ξA K70.out BA)
              have BL:=BL.trans (BA.mono BL.size)
              clear hb64 BA
              generalize wc.alloc (.cells #[.int .i64 (k:Int)] 3)=wn at *
              obtain⟨wc,hwc⟩:∃wc,wc=wn:=⟨_,rfl⟩
              subst hwc
              refine hKK.out _ _ (HSS.out _ BL) (fun hH=> ?_)
              clear hKK KK
              try simp only[Act.put,hlA,hlB,hlC]
              have R7:True:=trivial
            | have hD:True:=(fun _ _=>trivial:True→True→True) R7 R13
              clear hD
              refine ξB (rs:=[5]) (by kernel_rfl) (by simp) ?_
              refine AllReadyL.cons rfl (fun KK hKK=> ?_) AllReadyL.nil
              go_simp
              go_at_call 187
              refine(HOF.out _ (HRF2.belowAll BL)).mono ?_
              rintro e wn ⟨v62,rfl,o62,b62⟩
              have A70:∀g,v62.ownBlock=some g→g≠b70:=fun g hg e=>by have:=(o62.lt g hg).1;have:=(ξa K70.out).1;omega
              have K64:=ξh (ξA K64.out b62)
              have K70:=ξh (ξA K70.out b62)
              have L62:w2.heap.size≤wc.heap.size:=BL.size
              have BL:=BL.trans (b62.mono BL.size)
              have O62:=ξh (ξaB o62 L62)
              clear o62 b62 L62
              obtain⟨wc,hwc⟩:∃wc,wc=wn:=⟨_,rfl⟩
              subst hwc
              refine hKK.out _ _ (HSS.out _ BL) (fun hH=> ?_)
              clear hKK KK
              try simp only[Act.put,hlA,hlB,hlC]
              have R5:True:=trivial
          all_goals
           first
            | have hD:True:=(fun _ _ _=>trivial:True→True→True→True) R5 R7 R8
              clear hD
              refine ξB (rs:=[11,13]) (by kernel_rfl) (by simp) ?_
              refine AllReadyL.cons rfl (fun KK hKK=> ?_) (AllReadyL.cons rfl (fun KK hKK=> ?_) AllReadyL.nil)
              go_simp
              go_at_call 187
              refine(HOS.out _ (HRS2.belowAll BL)).mono ?_
              rintro e wn ⟨v68,rfl,o68,b68⟩
              have A68:∀g,(Value.slice a65 (fb.length+1) c65).ownBlock=some g→v68.ownBlock≠some g:=fun g hg e=>by have:=(o68.lt g e).1;have:=(O65.lt g hg).2;omega
              have O65:=ξh (ξN O65.out b68)
              skip
              have L68:w2.heap.size≤wc.heap.size:=BL.size
              have BL:=BL.trans (b68.mono BL.size)
              have O68:=ξh (ξaB o68 L68)
              clear o68 b68 L68
              obtain⟨wc,hwc⟩:∃wc,wc=wn:=⟨_,rfl⟩
              subst hwc
              refine hKK.out _ _ (HSS.out _ BL) (fun hH=> ?_)
              clear hKK KK
              try simp only[Act.put,hlA,hlB,hlC]
              have R11:True:=trivial
              rotate_left 1
              go_simp
              obtain⟨b70,hb70⟩:∃bb,bb=wc.heap.size:=⟨_,rfl⟩
              have BA:Below wc.heap.size wc (wc.alloc (.cells #[.int .i64 nx] 3)):=(ξb _ _).alloc (ξr _) _
              have K70:=ξn wc (.cells #[.int .i64 nx] 3)
              rw[←hb70] at K70 ⊢
              have K70:=ξh K70
              skip
              have O65:=ξh (ξN O65.out BA)
              skip
              skip
              have BL:=BL.trans (BA.mono BL.size)
              clear hb70 BA
              generalize wc.alloc (.cells #[.int .i64 nx] 3)=wn at *
              obtain⟨wc,hwc⟩:∃wc,wc=wn:=⟨_,rfl⟩
              subst hwc
              refine hKK.out _ _ (HSS.out _ BL) (fun hH=> ?_)
              clear hKK KK
              try simp only[Act.put,hlA,hlB,hlC]
              have R13:True:=trivial
              rotate_left 1
            | have hD:True:=(fun _ _ _=>trivial:True→True→True→True) R5 R7 R13
              clear hD
              refine ξB (rs:=[8]) (by kernel_rfl) (by simp) ?_
              refine AllReadyL.cons rfl (fun KK hKK=> ?_) AllReadyL.nil
              refine step_of_list rfl ?_
              refine wpList_catG rfl (.tmp 62) (.tmp 64) 58 3 rfl Tryz.underlying58 (.int .i64 0) 1 8 Tryz.infoInt rfl (by decide) w2.heap.size v62 fb.length (ints fb) (by rfl) O62.out (some ⟨b64,0,none⟩) 1 1 [.int .i64 (k:Int)] (by rfl) rfl (fun e=>by cases e) (fun ad e j u hu=>by cases e;exact World.news_of_block K64.out j u hu) (fun u hu=>by simp at hu;subst hu;rfl) (by unfold maxLen;omega) (by omega) BL.size ?_
              intro v65 wn o65 g65 l65
              have K70:=ξh ((g65.block b70 (ξa K70.out).1 (fun e=>A70 b70 e.symm rfl)).trans K70.out)
              have BL:Below w2.heap.size w2 wn:=Below.grown BL g65 BL.size (fun q hq=>(O62.lt q hq).1)
              have O65:=ξh o65
              clear o65 g65 l65 K64 O62
              obtain⟨wc,hwc⟩:∃wc,wc=wn:=⟨_,rfl⟩
              subst hwc
              unfold wpList
              refine⟨rfl,?_⟩
              refine hKK.out _ _ (HSS.out _ BL) (fun hH=> ?_)
              clear hKK KK
              try simp only[Act.put,hlA,hlB,hlC]
              have R8:True:=trivial
              obtain⟨a65,c65,rfl⟩:=rowf O65.out
              refine hlF 9 rfl hH ?_
              try simp only[Act.put,hlA,hlB,hlC]
          all_goals
           first
            | have hD:True:=(fun _ _ _ _=>trivial:True→True→True→True→True) R5 R7 R8 R11
              clear hD
              refine ξB (rs:=[13]) (by kernel_rfl) (by simp) ?_
              refine AllReadyL.cons rfl (fun KK hKK=> ?_) AllReadyL.nil
              go_simp
              obtain⟨b70,hb70⟩:∃bb,bb=wc.heap.size:=⟨_,rfl⟩
              have BA:Below wc.heap.size wc (wc.alloc (.cells #[.int .i64 nx] 3)):=(ξb _ _).alloc (ξr _) _
              have K70:=ξn wc (.cells #[.int .i64 nx] 3)
              rw[←hb70] at K70 ⊢
              have K70:=ξh K70
              skip
              have O65:=ξh (ξN O65.out BA)
              skip
              have O68:=ξh (ξN O68.out BA)
              have BL:=BL.trans (BA.mono BL.size)
              clear hb70 BA
              generalize wc.alloc (.cells #[.int .i64 nx] 3)=wn at *
              obtain⟨wc,hwc⟩:∃wc,wc=wn:=⟨_,rfl⟩
              subst hwc
              refine hKK.out _ _ (HSS.out _ BL) (fun hH=> ?_)
              clear hKK KK
              try simp only[Act.put,hlA,hlB,hlC]
              have R13:True:=trivial
            | have hD:True:=(fun _ _ _ _=>trivial:True→True→True→True→True) R5 R7 R8 R13
              clear hD
              refine ξB (rs:=[11]) (by kernel_rfl) (by simp) ?_
              refine AllReadyL.cons rfl (fun KK hKK=> ?_) AllReadyL.nil
              go_simp
              go_at_call 187
              refine(HOS.out _ (HRS2.belowAll BL)).mono ?_
              rintro e wn ⟨v68,rfl,o68,b68⟩
              have A68:∀g,(Value.slice a65 (fb.length+1) c65).ownBlock=some g→v68.ownBlock≠some g:=fun g hg e=>by have:=(o68.lt g e).1;have:=(O65.lt g hg).2;omega
              have O65:=ξh (ξN O65.out b68)
              have K70:=ξh (ξA K70.out b68)
              have L68:w2.heap.size≤wc.heap.size:=BL.size
              have BL:=BL.trans (b68.mono BL.size)
              have O68:=ξh (ξaB o68 L68)
              clear o68 b68 L68
              obtain⟨wc,hwc⟩:∃wc,wc=wn:=⟨_,rfl⟩
              subst hwc
              refine hKK.out _ _ (HSS.out _ BL) (fun hH=> ?_)
              clear hKK KK
              try simp only[Act.put,hlA,hlB,hlC]
              have R11:True:=trivial
          all_goals
           refine ξB (rs:=[14]) (by kernel_rfl) (by simp) ?_
           refine AllReadyL.cons rfl (fun KK hKK=> ?_) AllReadyL.nil
           refine step_of_list rfl ?_
           refine wpList_catG rfl (.tmp 68) (.tmp 70) 58 3 rfl Tryz.underlying58 (.int .i64 0) 1 8 Tryz.infoInt rfl (by decide) w2.heap.size v68 seen.length (ints seen) (by rfl) O68.out (some ⟨b70,0,none⟩) 1 1 [.int .i64 nx] (by rfl) rfl (fun e=>by cases e) (fun ad e j u hu=>by cases e;exact World.news_of_block K70.out j u hu) (fun u hu=>by simp at hu;subst hu;rfl) (by unfold maxLen;omega) (by omega) BL.size ?_
           intro v71 wn o71 g71 l71
           have O65:=ξh (rowX_kept O65.out fun g hg=>g71.block g (O65.lt g hg).2 (fun e=>A68 g hg e.symm))
           have BL:Below w2.heap.size w2 wn:=Below.grown BL g71 BL.size (fun q hq=>(O68.lt q hq).1)
           have O71:=ξh o71
           clear o71 g71 l71 K70 O68 A68
           obtain⟨wc,hwc⟩:∃wc,wc=wn:=⟨_,rfl⟩
           subst hwc
           unfold wpList
           refine⟨rfl,?_⟩
           refine hKK.out _ _ (HSS.out _ BL) (fun hH=> ?_)
           clear hKK KK
           try simp only[Act.put,hlA,hlB,hlC]
           have R14:True:=trivial
          all_goals
           refine ξG 15 rfl (by kernel_rfl) (by kernel_rfl) (fun KK hKK=> ?_)
           go_simp
           go_at_call 233
           have O65:=ξa4 (xs:=fb++[(k:Int)]) (by rw[show ints (fb++[(k:Int)])=ints fb++[.int .i64 (k:Int)] by simp[ints]];exact O65.out)
           have O71:=ξa4 (xs:=seen++[nx]) (by rw[show ints (seen++[nx])=ints seen++[.int .i64 nx] by simp[ints]];exact O71.out)
           have hz2:=HB2.size
           have hzw:=HMV.size
           have hql:=HQLT.out
           have HPC:SeX wA wc lo q st tn (.slice au mu cu) (.slice a2 m2 c2) n f nx (seen++[nx]) v71 (.slice a65 (fb.length+1) c65) (fb++[(k:Int)]) (.slice av z cv) ps':=
            {sta:=HS2.below BL
             bel:=HBW2.trans (BL.mono HBW2.size)
             rfb:=O65.rd
             apf:=fun g hg e=>by have:=(O65.lt g hg).1;omega
             rsn:=O71.rd
             aps:=fun g hg e=>by have:=(O71.lt g hg).1;omega
             lo:=ξs HP.lo (ξs hzw (ξs hz2 BL.size))
             fbl:=by have:=HP.fbl;rw[ξk,ξk];simp only[List.length_singleton];omega
             fue:=by have:=HP.fue;rw[ξk];simp only[List.length_singleton];omega
             nod:=List.nodup_append.2 ⟨HP.nod,by simp,fun x hx y hy e=>by rw[List.mem_singleton.1 hy] at e;exact HNM.out (e▸hx)⟩
             rng:=fun x hx=>by
              rcases List.mem_append.1 hx with hx | hx
              · exact HP.rng x hx
              · rw[List.mem_singleton.1 hx];have:=HT.out;omega
             lst:=by simp
             inn:=fun j hj=>by
              rw[ξk] at hj
              simp only[List.length_singleton] at hj
              by_cases h:j<fb.length
              · rw[List.getElem?_append_left h];exact HP.inn j h
              · obtain rfl:fb.length=j:=by omega
                rw[List.getElem?_append_right (ξr _)]
                simp
                have:=HN2.out
                omega
             cap:=by have:=HZ.out;omega
             els:=HEL.out}
           refine(HIH.out _ _ _ _ _ _ _ _ HPC).mono ?_
           rintro e w9 ⟨rfl,v9,ps9,s9,m9,mv9,e9⟩
           have H9:=ξh (show∃ps',SeS w9 lo q st tn (.slice au mu cu) (.slice a2 m2 c2) v9 ps'∧ps'.map Prod.fst=ξW n (ps.map Prod.fst) ((List.range (k+1)).flatMap (extI n tn f t seen fb))∧Mv (QQ q) (QQ q) w w9∧ ∀p∈ps',p.1.length≤1000∧ξa7 n p.1 from
            ⟨ps9,s9,by rw[m9,HMP.out,HFD.out,HEX.out],HMV2.trans ((Mv.of_below BL).trans mv9),e9⟩)
           have hx9:=ξA HX2.out BL
           have HX9:=ξh ((mv9.block bx (ξa hx9).1 (fun e=>by have:bx=q:=e;have:=HBX.out;omega)).trans hx9)
           clear s9 m9 mv9 e9 hx9 HPC O65 O71 hz2 hzw hql
           refine hKK.out _ _ ?_
           clear hKK KK
           try simp only[Act.put,hlA,hlB,hlC]
           refine ξS (by kernel_rfl) ?_ _
          all_goals
           clear BL
           go_wp2_with fail
           go_roundw
           case rel=>exact⟨k+1,v9,by omega,by go_num,H9,HX9⟩
           case measure=>simp[intOf];omega
      · have hod:decide (nx≥0)=false:=ξf ho
        have HEX:=ξh (HEI.trans (if_neg (fun hh=>ho hh.1)))
        go_wp2_with fail
        go_roundw
        case rel=>exact⟨k+1,_,by omega,by go_num,⟨ps',HS2.out,by rw[HMP.out,HFD.out,HEX.out,feedR_nil],HMV2.out,HEL.out⟩,HX2.out⟩
        case measure=>simp[intOf];omega
    · have hzI:¬(z:Int)≤200:=by omega
      have HFS:=ξh (feed_stop (n:=n) (g:=extI n tn f t seen fb) HL201.out hk (by rw[←HPL.out];omega))
      go_wp2_with fail
      rw[HNP.out]
      go_end0
      exact⟨rfl,_,ps',HS.out,by rw[HMP.out,HFS.out],HMV.out,HEL.out⟩
  · have hltI:¬(k:Int)<(m2:Int):=by omega
    obtain rfl:k=m2:=by omega
    go_wp2_with fail
    rw[HNP.out]
    go_end0
    exact⟨rfl,_,ps',HS.out,HMP.out,HMV.out,HEL.out⟩
theorem sex_any {wA:World} {lo q:Nat} {st tn:Int} {u1 u2:Value} {n:Net} (hA:SeA wA q u1 u2 n):∀(f:Nat) (t:Int) (seen:List Int) (vs vl:Value) (fb:List Int) (v:Value) (ps:List (List Int × Value)) (w:World),SeX wA w lo q st tn u1 u2 n f t seen vs vl fb v ps→Calls Tryz.prog 233 #[ptr q,.agg #[.int .i64 st,vl],vs] w (SeQ lo q st tn u1 u2 n (ξW n (ps.map Prod.fst) (extR n tn f t seen fb)) w)
 | 0,t,seen,vs,vl,fb,v,ps,w,h=>by
   have h1:=h.fue
   have h2:=ξbM n.ns.length h.nod h.rng
   omega
 | f+1,t,seen,vs,vl,fb,v,ps,w,h=>by
   by_cases ht:t=tn
   · rw[show extR n tn (f+1) t seen fb=[fb] by rw[extR,if_pos ht]]
     exact sexEnd_any hA h ht
   · exact sexGo_any hA (fun t seen vs vl fb v ps w h=>sex_any hA f t seen vs vl fb v ps w h) h ht
def AlsP (n:Net) (fr tn:Int) (w:World) (e:Ending) (w':World):Prop:=Below w.heap.size w w'∧
 ((200<(allR n fr tn).length∧ ∃v,e= .returned (.tuple #[v,.bool false]))∨
  ((allR n fr tn).length≤200∧ ∃a c ps,e= .returned (.tuple #[.slice a ps.length c,.bool true])∧w'.ownsRow w.heap.size 82 2 (.slice a ps.length c) ps.length (rcs fr ps)∧ps.map Prod.fst=allR n fr tn∧ ∀p∈ps,Rd w' p.2 p.1∧p.1.length≤1000∧ξa7 n p.1))
theorem rowX_src {w:World} {base m c size:Nat} {e:TypeId} {ao:Option Addr} {xs:List Value} (h:w.ownsRow base e size (.slice ao m c) m xs):
 (ao=none→m=0∧c=0)∧xs.length=m*size∧ ∀w',Below w.heap.size w w'→ ∀ad,ao=some ad→ ∀j u,xs[j]?= some u→w'.cell? (ad.add j)=some u:=by
 refine⟨(ξbi h).1,h.1,fun w' hb ad e j u hu=> ?_⟩
 subst e
 rcases h.2 with ⟨h1,h2⟩ | ⟨g,cap,cur,h1,h2,h3,_⟩
 · cases h1
 · cases h1
   have hc:=World.ownsRow.cells h (g:=g) rfl j u hu
   exact(hb.cell (ξd w _ hc)).trans hc
theorem rdX_grown {w w':World} {g:Nat} {v:Value} {xs:List Int} (h:Rd w v xs) (hg:w.grownBy w' (some g)) (hn:∀q,v.ownBlock=some q→q≠g):Rd w' v xs:=by
 rcases h with h | ⟨b,off,c',hv,k1,k2,k3,k4⟩
 · exact .inl h
 · exact .inr ⟨b,off,c',hv,k1,k2,ξq k3 hg.size,fun j hj=>by rw[World.cell?_of_block (hg.block b k3 (fun e=>hn b (by rw[hv];rfl) (ξo e)))];exact k4 j hj⟩
theorem l4All_any (u1 u2:Value) (n:Net) (fr tn:Int) (w:World) (hnet:Rdt w (flt 4 fibE n.fs) u2) (h1:∃a m c,u1= .slice a m c) (hn:ξL n=true) (hf:inB fr 0 ((n.ns.length:Int)-1)=true):
 Calls Tryz.prog 214 #[.agg #[u1,u2],.int .i64 fr,.int .i64 tn] w (AlsP n fr tn w):=by
 obtain⟨NP,hNP⟩:∃NP,NP=AlsP n fr tn w:=⟨_,rfl⟩
 rw[←hNP]
 have HNP:=ξh hNP
 have hA:∀q,w.heap.size≤q→SeA w q u1 u2 n:=fun q hq=>by
  obtain⟨hn2,hn8,hf14,-,hfb⟩:=ξM hn
  refine⟨hnet,h1,hf14,hn8,fun i hi=> ?_,lenOk_of hn,hq⟩
  have:=hfb i hi
  unfold fbOk at this
  simp only[Bool.and_eq_true] at this
  have:=ξaM this.1
  omega
 have HSE:=ξh (fun(lo q:Nat) (w1:World) (vs v:Value) (hq:w.heap.size≤q) (hb:Below w.heap.size w w1) (hlo:lo≤w1.heap.size) (hs:SeS w1 lo q fr tn u1 u2 v []) (hr:Rd w1 vs [fr]) (ha:∀g,vs.ownBlock=some g→g≠q)=>
  sex_any (lo:=lo) (st:=fr) (tn:=tn) (hA q hq) (n.ns.length+1) fr [fr] vs (.slice none 0 0) [] v [] w1
   {sta:=hs,bel:=hb,rfb:= .inl ⟨rfl,rfl⟩,apf:=fun g hg=>(by cases hg),rsn:=hr,aps:=ha,lo:=hlo,fbl:=rfl,fue:=by simp,nod:=by simp,rng:=fun s hs=>(by rw[List.mem_singleton.1 hs];have:=ξO hf;omega),lst:=rfl,inn:=fun k hk=>(by simp at hk),cap:=by simp,els:=fun p hp=>(by cases hp)})
 obtain⟨a1,m1,c1,rfl⟩:=h1
 obtain⟨a2,m2,c2,rfl,-,-,-,-⟩:=ξC (m:=4) (enc:=fibE) (fun _=>rfl) (by omega) nilB hnet
 have HB3:=ξh (ξal w (.cells #[.slice a1 m1 c1,.slice a2 m2 c2] 35) (.cells #[.slice a1 m1 c1,.slice a2 m2 c2,.int .i64 tn,.slice none 0 0] 248) (.cells #[.int .i64 fr] 3))
 clear hA hnet hn hf hNP
 go_enter Tryz.func214,Tryz.ntmps214
 go_wp2_with fail
 generalize ((w.alloc (.cells #[.slice a1 m1 c1,.slice a2 m2 c2] 35)).alloc (.cells #[.slice a1 m1 c1,.slice a2 m2 c2,.int .i64 tn,.slice none 0 0] 248)).alloc (.cells #[.int .i64 fr] 3)=w3 at *
 obtain⟨b3,g0,g1,g2,hz3⟩:=HB3.out
 refine(HSE.out w.heap.size (w.heap.size+1) w3 (.slice (some ⟨w.heap.size+1+1,0,none⟩) 1 1) (.slice none 0 0) (by omega) b3 b3.size ⟨g1,⟨by simp[rcs],.inl ⟨rfl,rfl⟩⟩,fun p hp=>(by cases hp),fun g hg=>(by cases hg)⟩ (.inr ⟨w.heap.size+1+1,0,1,rfl,ξr _,by unfold maxLen;omega,by omega,fun j hj=>(by have e:j=0:=(by simpa using hj);subst e;exact blkc g2 rfl)⟩) (fun g hg=>(by have:w.heap.size+1+1=g:=ξo hg;omega))).mono ?_
 rintro e w4 ⟨rfl,v4,ps,s4,m4,mv4,e4⟩
 obtain⟨a4,c4,rfl⟩:=rowf s4.row
 have HM4:=ξh (show ps.map Prod.fst=allR n fr tn from m4)
 have HS4:=ξh s4
 have HE4:=ξh e4
 have HB4:=ξh (mv4.below b3 b3.size (fun g hg=>by rw[hg];omega))
 have HLN:=ξh (show ps.length=(allR n fr tn).length from by rw[←HM4.out,List.length_map])
 have hps:ps.length≤201:=by
  rw[HLN.out,allR_len];omega
 have y3:=blkc s4.box (j:=3) (u:= .slice a4 ps.length c4) rfl
 generalize hz:ps.length=z at *
 have HZ:=ξh hz
 clear s4 m4 mv4 e4 b3 g0 g1 g2 hz3 hz
 by_cases hz200:z≤200
 · have hzI:¬(200:Int)<(z:Int):=by omega
   have HR4:=ξh (ξbi (by have:=HS4.row;rw[HZ.out] at this;exact this))
   obtain⟨k1,-,-,-,k5⟩:=HR4.out
   obtain⟨⟨-,k7,k8⟩,k9⟩:=k5 0 (ξu _)
   have HN1:=ξh k1
   have HRW:=ξh (rowX_src (by have:=HS4.row;rw[HZ.out] at this;exact this))
   have HON:=ξh (show∀u∈rcs fr ps,u.oneCell'=true from fun u hu=>by
    unfold rcs at hu
    obtain⟨p,hp,hpu⟩:=List.mem_flatMap.1 hu
    obtain⟨a,m,c,e⟩:=(HS4.els p hp).1.sl
    simp[e] at hpu
    rcases hpu with rfl | rfl <;> rfl)
   clear k1 k5 k7 k8 k9
   have HB5:=ξh ((ξb w4.heap.size w4).alloc (ξr _) (.cells #[] 82))
   have HK5:=ξh (ξn w4 (.cells #[] 82))
   have hzb:=HB4.size
   have HO5:=ξh (ξbx (size:=2) (base:=w.heap.size) HK5.out hzb)
   have hx5:=ξA HS4.box HB5.out
   have y4:=blkc hx5 (j:=3) (u:= .slice a4 z c4) rfl
   go_wp2_with (at_builtin;refine wpList_catG rfl (.tmp 26) (.tmp 30) 176 82 rfl Tryz.underlying176 (.agg #[.int .i64 0,.slice none 0 0]) 2 32 Tryz.infoRou rfl (by decide) w.heap.size (.slice (some ⟨w4.heap.size,0,none⟩) 0 0) 0 [] (by rfl) HO5.out a4 z c4 (rcs fr ps) (by rfl) HRW.2.1 HRW.1 (HRW.2.2 _ HB5.out) HON.out (by unfold maxLen;omega) (by omega) (ξs hzb HB5.size) ?_;intro v6 w6 o6 g6 l6;have O6:=ξh o6;have G6:=ξh g6;have HB6:=ξh (show Below w.heap.size w w6 from Below.grown (HB4.trans (HB5.mono hzb)) g6 (ξs hzb HB5.size) (fun q hq=>(HO5.lt q hq).1));obtain⟨a6,c6,rfl⟩:=rowf o6;clear o6 g6 l6)
   rw[HNP.out]
   refine⟨HB6.out,.inr ⟨by rw[←HLN.out];exact hz200,a6,c6,ps,by rw[HZ.out];simp,by have:=O6.out;rw[Nat.zero_add,List.nil_append] at this;rw[HZ.out];exact this,HM4.out,fun p hp=>⟨?_,HE4.out p hp⟩⟩⟩
   obtain⟨r1,-⟩:=HS4.els p hp
   exact rdX_grown (r1.belowAll HB5.out) (g:=w4.heap.size) G6.out (fun q hq=>by have h1:=r1.lt q hq;omega)
 · have hzI:(200:Int)<(z:Int):=by omega
   have HB5:=ξh (HB4.alloc HB4.size (.cells #[] 82))
   go_wp2_with fail
   rw[HNP.out]
   exact⟨HB5.out,.inl ⟨by rw[←HLN.out];omega,_,rfl⟩⟩
end Go.Proofs.YtofcicomhnkocaaGreat
