import Derived.Test.YtofcicomhnkocaaGreatBx24
set_option linter.unusedVariables false
namespace Go.Proofs.YtofcicomhnkocaaGreat
set_option maxHeartbeats 12800000
open Go.RowKit Go.Sort
set_option maxRecDepth 100000
def ScS (ls:List Lgt) (U:List (List Int × Int)) (k:Nat) (b c t:Int):Prop:=match scanS costU (okU ls) U k with
 | none=>b= -1∧c=0∧t=0
 | some (u,j)=>b=(j:Int)∧j<k∧c=costU u∧t=(((fitU ls u).headD 0:Nat):Int)∧U[j]?= some u
theorem ScS.yes {ls:List Lgt} {U:List (List Int × Int)} {k:Nat} {b c t:Int} {z:List Int × Int} (h:ScS ls U k b c t) (hz:U[k]?= some z) (ho:okU ls z=true) (hc:b<0∨costU z<c):ScS ls U (k+1) k (costU z) (((fitU ls z).headD 0:Nat):Int):=by
 unfold ScS at h ⊢
 rw[ξbp hz]
 cases hs:scanS costU (okU ls) U k with
 | none=>
   simp only
   rw[if_pos ho]
   exact⟨rfl,Nat.lt_succ_self k,rfl,rfl,hz⟩
 | some x=>
   obtain⟨u,j⟩:=x
   rw[hs] at h
   simp only at h ⊢
   have:costU z<costU u:=by
    rcases hc with hc | hc
    · omega
    · omega
   rw[if_pos (by rw[ho,ξt this];rfl)]
   exact⟨rfl,Nat.lt_succ_self k,rfl,rfl,hz⟩
theorem ScS.no {ls:List Lgt} {U:List (List Int × Int)} {k:Nat} {b c t:Int} {z:List Int × Int} (h:ScS ls U k b c t) (hz:U[k]?= some z) (ho:¬(okU ls z=true∧(b<0∨costU z<c))):ScS ls U (k+1) b c t:=by
 unfold ScS at h ⊢
 rw[ξbp hz]
 cases hs:scanS costU (okU ls) U k with
 | none=>
   rw[hs] at h
   simp only at h ⊢
   rw[if_neg (fun e=>ho ⟨e,.inl (by omega)⟩)]
   exact h
 | some x=>
   obtain⟨u,j⟩:=x
   rw[hs] at h
   simp only at h ⊢
   rw[if_neg (fun e=>by
    rw[Bool.and_eq_true,decide_eq_true_eq] at e
    exact ho ⟨e.1,.inr (by omega)⟩)]
   simp only
   exact⟨h.1,by omega,h.2.2⟩
def LitR (n:Net) (fs:List Fmt) (d:Dem) (ls:List Lgt) (id:Int) (lo:Nat) (w':World) (x0 x1:Int) (v:Value) (x3 x4:Int) (f o:Bool):Prop:=
 (failU n d=true∧o=false)∨(failU n d=false∧o=true∧match pickU n fs d ls with
   | none=>f=false
   | some (u,_)=>f=true∧lgtU ls id d.a u=⟨x0,x1,u.1,x3,x4⟩∧Rd w' v u.1∧ ∀q,v.ownBlock=some q→lo≤q)
def LitP (n:Net) (fs:List Fmt) (d:Dem) (ls:List Lgt) (id:Int) (w:World) (e:Ending) (w':World):Prop:=Below w.heap.size w w'∧
 ∃(x0 x1:Int) (ax:Option Addr) (nx cx:Nat) (x3 x4:Int) (f o:Bool),e= .returned (.tuple #[.agg #[.int .i64 x0,.int .i64 x1,.slice ax nx cx,.int .i64 x3,.int .i64 x4],.bool f,.bool o])∧LitR n fs d ls id w.heap.size w' x0 x1 (.slice ax nx cx) x3 x4 f o
theorem ξbs {w:World} {b:Nat} {T:TypeId} {x0 x1 x2 x3 x4:Value} (y0 y1 y2 y3 y4:Value) (h:w.heap[b]?= some (.cells #[x0,x1,x2,x3,x4] T (0,0))):
 (((((w.setCell ⟨b,0,none⟩ y0).setCell ⟨b,1,none⟩ y1).setCell ⟨b,2,none⟩ y2).setCell ⟨b,3,none⟩ y3).setCell ⟨b,4,none⟩ y4).heap[b]?= some (.cells #[y0,y1,y2,y3,y4] T (0,0))∧
 (∀k,k≠b→(((((w.setCell ⟨b,0,none⟩ y0).setCell ⟨b,1,none⟩ y1).setCell ⟨b,2,none⟩ y2).setCell ⟨b,3,none⟩ y3).setCell ⟨b,4,none⟩ y4).heap[k]?= w.heap[k]?)∧
 ∀(B:Nat) (u:World),B≤b→Below B u w→Below B u (((((w.setCell ⟨b,0,none⟩ y0).setCell ⟨b,1,none⟩ y1).setCell ⟨b,2,none⟩ y2).setCell ⟨b,3,none⟩ y3).setCell ⟨b,4,none⟩ y4):=by
 have q1:=ξe w b 0 _ T y0 h
 have q2:=ξe _ b 1 _ T y1 q1
 have q3:=ξe _ b 2 _ T y2 q2
 have q4:=ξe _ b 3 _ T y3 q3
 have q5:=ξe _ b 4 _ T y4 q4
 refine⟨by rw[q5];simp,fun k hk=> ?_,fun B u hB hb=> ?_⟩
 · rw[ξm _ ⟨b,4,none⟩ k _ hk,ξm _ ⟨b,3,none⟩ k _ hk,ξm _ ⟨b,2,none⟩ k _ hk,ξm _ ⟨b,1,none⟩ k _ hk,ξm _ ⟨b,0,none⟩ k _ hk]
 · exact((((hb.setCell (p:=⟨b,0,none⟩) hB y0).setCell (p:=⟨b,1,none⟩) hB y1).setCell (p:=⟨b,2,none⟩) hB y2).setCell (p:=⟨b,3,none⟩) hB y3).setCell (p:=⟨b,4,none⟩) hB y4
theorem l26Light_any (v vf:Value) (p:Pln) (fs:List Fmt) (d:Dem) (id:Int) (w:World) (h:PlnR w v p) (hfm:Rdt w (flt 2 fmE fs) vf) (hn:ξL p.n=true) (hfo:fmOk fs=true) (hd:demOk d p.n.ns.length=true) (hlo:∀x∈p.ls,LgO p.n.fs.length x):
 Calls Tryz.prog 105 #[v,vf,demV d,.int .i64 id] w (LitP p.n fs d p.ls id w):=by
 obtain⟨NP,hNP⟩:∃NP,NP=LitP p.n fs d p.ls id w:=⟨_,rfl⟩
 rw[←hNP]
 have HNP:=ξh hNP
 have HUL:=ξh (fun(fb:List Int) (hfb:∀f∈fb,0≤f)=>show ξP p.ls fb<16777216 from ξbg (fun i=>ξaA hlo i) _ 0 hfb (by decide))
 have HAL:=ξh (fun(vr:Value) (fb:List Int) w' (hb:Below w.heap.size w w') (hr:Rd w' vr fb) (hfb:∀f∈fb,0≤f)=>l9Along_any v vr p d.a fb w' (h.behind hb) hr hlo hfb)
 have HSB:=ξh (fun u (hu:u∈usaR p.n fs d)=>(usaR_mem hu).2)
 have HPK:=ξh (show∀b c t,ScS p.ls (usaR p.n fs d) (usaR p.n fs d).length b c t→(match pickU p.n fs d p.ls with | none=>b= -1 | some (u,_)=>∃j:Nat,b=(j:Int)∧t=(((fitU p.ls u).headD 0:Nat):Int)∧(usaR p.n fs d)[j]?= some u) from fun b c t hs=>by
  unfold ScS at hs
  unfold pickU
  cases hq:scanS costU (okU p.ls) (usaR p.n fs d) (usaR p.n fs d).length with
  | none=>rw[hq] at hs;exact hs.1
  | some x=>
    obtain⟨u,j⟩:=x
    rw[hq] at hs
    exact⟨j,hs.1,hs.2.2.2.1,hs.2.2.2.2⟩)
 obtain⟨u1,u2,u3,rfl,r1,r2,r3,hsm⟩:=h
 have hnet:NetR w (.agg #[u1,u2]) p.n:=⟨u1,u2,rfl,r1,r2,hsm⟩
 have HUR:=ξh (fun w' (hb:Below w.heap.size w w')=>ξcD u1 u2 vf p.n fs d w' (hnet.behind hb) (hfm.behind hb) hn hfo hd)
 obtain⟨⟨a1,m1,c1,rfl⟩,a2,m2,c2,rfl⟩:=ξF hnet
 obtain⟨a3,m3,c3,rfl,HN3,hc3,hm3,-⟩:=ξa1 r3
 obtain⟨af,mf,cf,rfl,-,-,-,-⟩:=ξC (m:=2) (enc:=fmE) (fun _=>rfl) (by omega) ξJ hfm
 have HB3:=ξh (ξal w (.cells #[.slice a1 m1 c1,.slice a2 m2 c2,.slice a3 m3 c3] 75) (.cells #[.int .i64 d.a,.int .i64 d.b,.int .i64 d.r,.int .i64 d.c] 53) (.cells #[.int .i64 0,.int .i64 0,.slice none 0 0,.int .i64 0,.int .i64 0] 86))
 clear r1 r2 r3 hsm hnet hlo hfm hn hfo hd hNP
 unfold demV at HUR ⊢
 go_enter Tryz.func105,Tryz.ntmps105
 go_upto_region 1 with fail
 generalize ((w.alloc (.cells #[.slice a1 m1 c1,.slice a2 m2 c2,.slice a3 m3 c3] 75)).alloc (.cells #[.int .i64 d.a,.int .i64 d.b,.int .i64 d.r,.int .i64 d.c] 53)).alloc (.cells #[.int .i64 0,.int .i64 0,.slice none 0 0,.int .i64 0,.int .i64 0] 86)=w3 at *
 obtain⟨b3,g0,g1,g2,hz3⟩:=HB3.out
 have HB:=ξh b3
 have HK0:=ξh g0
 have HK2:=ξh g2
 have y0:=blkc g0 (j:=0) (u:= .slice a1 m1 c1) rfl
 have y1:=blkc g0 (j:=1) (u:= .slice a2 m2 c2) rfl
 have z0:=blkc g1 (j:=0) (u:= .int .i64 d.a) rfl
 have z1:=blkc g1 (j:=1) (u:= .int .i64 d.b) rfl
 have z2:=blkc g1 (j:=2) (u:= .int .i64 d.r) rfl
 have z3:=blkc g1 (j:=3) (u:= .int .i64 d.c) rfl
 clear b3 g0 g1 g2
 go_wp2_with fail
 refine(HUR.out w3 HB.out).mono ?_
 rintro e w5 ⟨b5,hcase⟩
 have HB5:=ξh (HB.trans (b5.mono HB.size))
 have HK05:=ξh (ξA HK0.out b5)
 have HK25:=ξh (ξA HK2.out b5)
 have HZ5:=ξh (show w3.heap.size≤w5.heap.size∧w3.heap.size=w.heap.size+1+1+1 from⟨b5.size,hz3⟩)
 clear b5 y0 y1 z0 z1 z2 z3 hz3
 rcases hcase with ⟨hf,v1,v2,rfl⟩ | ⟨hf,a4,c4,a6,m,c6,qs,rfl,hql,hm200,hrow,hown,hmap,hels⟩
 · have HF:=ξh hf
   have x0:=blkc HK25.out (j:=0) (u:= .int .i64 0) rfl
   have x1:=blkc HK25.out (j:=1) (u:= .int .i64 0) rfl
   have x2:=blkc HK25.out (j:=2) (u:= .slice none 0 0) rfl
   have x3:=blkc HK25.out (j:=3) (u:= .int .i64 0) rfl
   have x4:=blkc HK25.out (j:=4) (u:= .int .i64 0) rfl
   have f0:w5.frozen? ⟨w.heap.size+1+1,0,none⟩=false:=ξz _ _ _ _ _ HK25.out
   have f1:w5.frozen? ⟨w.heap.size+1+1,1,none⟩=false:=ξz _ _ _ _ _ HK25.out
   have f2:w5.frozen? ⟨w.heap.size+1+1,2,none⟩=false:=ξz _ _ _ _ _ HK25.out
   have f3:w5.frozen? ⟨w.heap.size+1+1,3,none⟩=false:=ξz _ _ _ _ _ HK25.out
   have f4:w5.frozen? ⟨w.heap.size+1+1,4,none⟩=false:=ξz _ _ _ _ _ HK25.out
   obtain⟨q1,q2,q3⟩:=ξbs (.int .i64 0) (.int .i64 0) (.slice none 0 0) (.int .i64 0) (.int .i64 0) HK25.out
   have HQ1:=ξh q1
   have HQ3:=ξh (q3 w.heap.size w (by omega) HB5.out)
   clear hf q1 q2 q3
   go_wp2_with fail
   generalize ((((w5.setCell ⟨w.heap.size+1+1,0,none⟩ (.int .i64 0)).setCell ⟨w.heap.size+1+1,1,none⟩ (.int .i64 0)).setCell ⟨w.heap.size+1+1,2,none⟩ (.slice none 0 0)).setCell ⟨w.heap.size+1+1,3,none⟩ (.int .i64 0)).setCell ⟨w.heap.size+1+1,4,none⟩ (.int .i64 0)=w6 at *
   have t0:=blkc HQ1.out (j:=0) (u:= .int .i64 0) rfl
   have t1:=blkc HQ1.out (j:=1) (u:= .int .i64 0) rfl
   have t2:=blkc HQ1.out (j:=2) (u:= .slice none 0 0) rfl
   have t3:=blkc HQ1.out (j:=3) (u:= .int .i64 0) rfl
   have t4:=blkc HQ1.out (j:=4) (u:= .int .i64 0) rfl
   rw[HNP.out]
   exact bodyPost_ret (v:= .tuple #[.agg #[.int .i64 0,.int .i64 0,.slice none 0 0,.int .i64 0,.int .i64 0],.bool false,.bool false]) (by simp[results,Tryz.results105,go_sem,t0,t1,t2,t3,t4]) rfl ⟨HQ3.out,0,0,none,0,0,0,0,false,false,rfl,.inl ⟨HF.out,rfl⟩⟩
 · have HF:=ξh hf
   have hul:(usaR p.n fs d).length=m:=by
    have:=congrArg List.length hmap
    rw[List.length_map,List.length_map] at this
    omega
   have HCE:=ξh (row_cells2 hrow hql)
   obtain⟨-,-,-,-,hown'⟩:True∧True∧True∧True∧(0<m→ ∃h off,a6=some ⟨h,off,none⟩∧h<w5.heap.size∧ ∀i,i<m→w5.cell? ⟨h,off+i,none⟩=some (.int .i64 (((usaR p.n fs d).map Prod.snd)[i]?.getD 0))):=⟨trivial,trivial,trivial,trivial,fun h0=>by
    obtain⟨ao,co,mo,HMO,heo,-,-,ha⟩:=hown.rd.opn
    simp only[Value.slice.injEq] at heo
    obtain⟨rfl,rfl,rfl⟩:=heo
    exact ha h0⟩
   have HSC:=ξh hown'
   have HX:=ξh (fun i (hi:i<m)=>show(usaR p.n fs d)[i]?= some ((qs[i]?.getD ξZ).1,((usaR p.n fs d).map Prod.snd)[i]?.getD 0)∧Rd w5 (qs[i]?.getD ξZ).2 (qs[i]?.getD ξZ).1∧(qs[i]?.getD ξZ).1.length≤1000∧(∀f∈(qs[i]?.getD ξZ).1,0≤f)∧1≤((usaR p.n fs d).map Prod.snd)[i]?.getD 0∧((usaR p.n fs d).map Prod.snd)[i]?.getD 0≤24 from by
    have hi1:i<(usaR p.n fs d).length:=by omega
    have hi2:i<qs.length:=by omega
    have e1:(usaR p.n fs d)[i]?= some ((qs[i]?.getD ξZ).1,((usaR p.n fs d).map Prod.snd)[i]?.getD 0):=by
     have h1:=congrArg (fun L:List (List Int)=>L[i]?) hmap
     simp only[List.getElem?_map] at h1
     rw[List.getElem?_map,ξg hi1,ξg hi2] at *
     simp only[Option.map_some,Option.some.injEq,Option.getD_some] at h1 ⊢
     exact Prod.ext h1.symm rfl
    have h2:=HSB.out _ (List.mem_of_getElem? e1)
    obtain⟨r1,r2,r3⟩:=hels (qs[i]?.getD ξZ) (by rw[ξg hi2];exact ξj hi2)
    exact⟨e1,r1,r2,fun f hf=>by
     obtain⟨j,hj,rfl⟩:=List.getElem_of_mem hf
     have:=r3 j hj
     rw[ξg hj] at this
     exact this.1,h2⟩)
   have HPK1:=ξh (fun b c t=>HPK.out b c t)
   rw[hul] at HPK1
   have HS0:=ξh (show ScS p.ls (usaR p.n fs d) 0 (-1) 0 0 from⟨rfl,rfl,rfl⟩)
   have HRL:=ξh (fun g hg=>(hrow.lt g hg).2)
   clear hf hql hrow hown hown' hmap hels hul HPK HSB
   generalize usaR p.n fs d=U at *
   generalize hxs:U.map Prod.snd=xs at *
   clear hxs
   go_wp2_with fail
   go_loopw [14,15,16,17] (fun s14 s15 s16 i wr=>∃(k:Nat) (b c t:Int),k≤m∧i= .int .i64 k∧s14= .int .i64 b∧s15= .int .i64 c∧s16= .int .i64 t∧Hid (ScS p.ls U k b c t)∧Hid (Below w5.heap.size w5 wr)) (fun _ _ _ i _=>m-(intOf i).toNat)
   case atStart=>exact⟨0,-1,0,0,by omega,rfl,rfl,rfl,rfl,HS0.out,ξb _ _⟩
   case round=>
    obtain⟨k,b,c,t,hk,rfl,rfl,rfl,rfl,HSS,HB6⟩:=hrel
    have HBW:=ξh (HB5.trans (HB6.mono HB5.size))
    by_cases hlt:k<m
    · have hltI:(k:Int)<(m:Int):=by omega
      obtain⟨g,rfl,hgs,e0,e1⟩:=HCE.out k hlt
      obtain⟨h,off,rfl,hhs,hcs⟩:=HSC.out (by omega)
      have e2:=hcs k hlt
      obtain⟨k1,k2,k3,k4,k5,k6⟩:=HX.out k hlt
      generalize hfv:(qs[k]?.getD ξZ).2=fv at *
      generalize hfb:(qs[k]?.getD ξZ).1=fb at *
      generalize hsl:xs[k]?.getD 0=sl at *
      obtain⟨ax,cx,fl,HFL,rfl,-,-,-⟩:=k2.opn
      have HK1:=ξh k1
      have HR5:=ξh k2
      have HAX:=ξh (fun w' hb hr=>HAL.out (.slice ax fl cx) fb w' hb hr k4)
      have hal:=HUL.out fb k4
      obtain⟨cn,hcn⟩:=Int.eq_ofNat_of_zero_le (show 0≤sl by omega)
      subst hcn
      have HFT:=ξh (fun w'=>l8FitsE_any (ξP p.ls fb) cn w' hal (by omega) (by omega))
      have HFU:=ξh (show fitU p.ls (fb,(cn:Int))=fitsN (ξP p.ls fb) cn from by unfold fitU;simp)
      have HOK:=ξh (show okU p.ls (fb,(cn:Int))= !(fitsN (ξP p.ls fb) cn).isEmpty from by unfold okU;rw[HFU.out])
      have HCO:=ξh (show costU (fb,(cn:Int))=(cn:Int)*(fl:Int) from by unfold costU;rw[HFL.out])
      have hfl:fl≤1000:=by have:=HFL.out;omega
      rw[posI_fits] at HFT
      have HCL:=ξh (fun(w':World) (hb:Below wr.heap.size wr w')=>show w'.cell? ⟨w.heap.size,0,none⟩=some (.slice a1 m1 c1)∧w'.cell? ⟨w.heap.size,1,none⟩=some (.slice a2 m2 c2)∧w'.cell? ⟨w.heap.size,2,none⟩=some (.slice a3 m3 c3)∧w'.cell? ⟨g,k*2,none⟩=some (.int .i64 d.a)∧w'.cell? ⟨g,k*2+1,none⟩=some (.slice ax fl cx)∧w'.cell? ⟨h,off+k,none⟩=some (.int .i64 (cn:Int)) from
       have hb5:Below w5.heap.size w5 w':=HB6.trans (hb.mono HB6.size)
       ⟨blkc (ξA HK05.out hb5) rfl,blkc (ξA HK05.out hb5) rfl,blkc (ξA HK05.out hb5) rfl,(hb5.cell (p:=⟨g,k*2,none⟩) hgs).trans e0,(hb5.cell (p:=⟨g,k*2+1,none⟩) hgs).trans e1,(hb5.cell (p:=⟨h,off+k,none⟩) hhs).trans e2⟩)
      clear k1 k2 k3 k4 hfv hfb hsl hcs e0 e1 e2 hal
      generalize ξP p.ls fb=uu at *
      generalize fitsN uu cn=FT at *
      go_wp2_with fail
      refine ξH [0,1,2,3,4,5,6,7,8,9,10,11] (S:=fun w'=>w'.cell? ⟨w.heap.size,0,none⟩=some (.slice a1 m1 c1)∧w'.cell? ⟨w.heap.size,1,none⟩=some (.slice a2 m2 c2)∧w'.cell? ⟨w.heap.size,2,none⟩=some (.slice a3 m3 c3)∧w'.cell? ⟨g,k*2,none⟩=some (.int .i64 d.a)∧w'.cell? ⟨g,k*2+1,none⟩=some (.slice ax fl cx)∧w'.cell? ⟨h,off+k,none⟩=some (.int .i64 (cn:Int))) (by kernel_rfl) (HCL.out _ (ξb _ _).drew) (fun hH=> ?_)
      have BL:Below wr.heap.size wr wr.drew:=(ξb _ _).drew
      refine hlF 0 rfl hH ?_
      try simp only[Act.put,hlA,hlB,hlC]
      refine hlF 1 rfl hH ?_
      try simp only[Act.put,hlA,hlB,hlC]
      refine hlF 2 rfl hH ?_
      try simp only[Act.put,hlA,hlB,hlC]
      refine hlF 3 rfl hH ?_
      try simp only[Act.put,hlA,hlB,hlC]
      refine hlF 4 rfl hH ?_
      try simp only[Act.put,hlA,hlB,hlC]
      refine hlF 6 rfl hH ?_
      try simp only[Act.put,hlA,hlB,hlC]
      refine hlF 7 rfl hH ?_
      try simp only[Act.put,hlA,hlB,hlC]
      refine hlF 8 rfl hH ?_
      try simp only[Act.put,hlA,hlB,hlC]
      refine hlF 9 rfl hH ?_
      try simp only[Act.put,hlA,hlB,hlC]
      refine ξB (rs:=[5]) (by kernel_rfl) (by simp) ?_
      refine AllReadyL.cons rfl (fun KK hKK=> ?_) AllReadyL.nil
      go_simp
      go_at_call 151
      refine(HAX.out _ (HBW.trans (BL.mono HBW.size)) (HR5.belowAll (HB6.trans (BL.mono HB6.size)))).mono ?_
      rintro e w43 ⟨rfl,b43⟩
      have BL:=BL.trans (b43.mono BL.size)
      refine hKK.out _ _ (HCL.out _ BL) (fun hH=> ?_)
      clear hKK KK
      try simp only[Act.put,hlA,hlB,hlC]
      refine ξB (rs:=[10]) (by kernel_rfl) (by simp) ?_
      refine AllReadyL.cons rfl (fun KK hKK=> ?_) AllReadyL.nil
      go_simp
      go_at_call 150
      refine(HFT.out _).mono ?_
      rintro e w48 ⟨v48,rfl,o48,b48⟩
      have BL:=BL.trans (b48.mono BL.size)
      refine hKK.out _ _ (HCL.out _ BL) (fun hH=> ?_)
      clear hKK KK
      try simp only[Act.put,hlA,hlB,hlC]
      refine ξG 11 rfl (by kernel_rfl) (by kernel_rfl) (fun KK hKK=> ?_)
      go_simp
      refine hKK.out _ _ ?_
      clear hKK KK
      try simp only[Act.put,hlA,hlB,hlC]
      refine ξS (by kernel_rfl) ?_ _
      rotate_left 1
      obtain⟨a48,c48,n48,HN48,rfl,hc48,hn48,ha48⟩:=o48.rd.opn
      have HA48:=ξh ha48
      have HB48:=ξh (HB6.trans (BL.mono HB6.size))
      have hfn:FT.length=n48:=by have:=HN48.out;rwa [List.length_map] at this
      have HFN:=ξh hfn
      obtain⟨-,-,-,-,x4,x5⟩:=hH
      obtain⟨z,hz⟩:∃z:Int,z=(cn:Int)*(fl:Int):=⟨_,rfl⟩
      have hzb:0≤z∧z≤24000:=by
       have h1:cn*fl≤24*1000:=Nat.mul_le_mul (by omega) hfl
       have h2:z=((cn*fl:Nat):Int):=by rw[hz];simp
       omega
      have hw1:IntKind.i64.wrap ((cn:Int)*(fl:Int))=z:=by rw[←hz];exact ξi _ (by omega)
      have HCZ:=ξh (show costU (fb,(cn:Int))=z from by rw[HCO.out,hz])
      have HHD:=ξh (show n48>0→ ∃ba oa,a48=some ⟨ba,oa,none⟩∧ba<w48.heap.size∧w48.cell? ⟨ba,oa,none⟩=some (.int .i64 ((FT.headD 0:Nat):Int)) from fun h0=>by
       obtain⟨ba,oa,e,hb,hc⟩:=ha48 h0
       refine⟨ba,oa,e,hb,?_⟩
       have:=hc 0 h0
       rw[Nat.add_zero] at this
       rw[this]
       cases FT with
       | nil=>simp at hfn;omega
       | cons x l=>rfl)
      obtain⟨hd,hhd⟩:∃hd:Int,((FT.headD 0:Nat):Int)=hd:=⟨_,rfl⟩
      rw[hhd] at HHD
      have HHE:=ξh hhd
      clear ha48 o48 b48 b43 BL hz hfn hhd
      go_wp2_with fail
      go_quiet (fail)
      rename_i nq
      have HB9:=ξh (ξaJ HB48.out nq)
      have HHD9:=ξh (show n48>0→ ∃ba oa,a48=some ⟨ba,oa,none⟩∧(w48.drewN nq).cell? ⟨ba,oa,none⟩=some (.int .i64 hd) from fun h0=>by
       obtain⟨ba,oa,e,hb,hc⟩:=HHD.out h0
       exact⟨ba,oa,e,hc⟩)
      generalize w48.drewN nq=w9 at *
      clear x4 x5 hw1 HHD
      by_cases hn0:0<n48
      · have hn0I:(0:Int)<(n48:Int):=by omega
        have hn0d:decide ((n48:Int)>0)=true:=ξt hn0I
        have hn0D:decide (0<n48)=true:=ξt hn0
        have HO:=ξh (show okU p.ls (fb,(cn:Int))=true from by
         rw[HOK.out]
         cases FT with
         | nil=>have:=HFN.out;simp at this;omega
         | cons x l=>rfl)
        obtain⟨ba,oa,rfl,hca⟩:=HHD9.out hn0
        by_cases hb0:b<0
        · have hb0d:decide (b<0)=true:=ξt hb0
          have HS1:=ξh (HSS.yes HK1.out HO.out (.inl hb0))
          rw[HCZ.out,HFU.out,HHE.out] at HS1
          go_wp2_with fail
          go_roundw
          case rel=>exact⟨k+1,k,z,hd,by omega,by go_num,rfl,rfl,rfl,HS1.out,HB9.out⟩
          case measure=>simp[intOf];omega
        · have hb0d:decide (b<0)=false:=ξf hb0
          have hb0n:0≤b:=by omega
          by_cases hzc:z<c
          · have hzd:decide (z<c)=true:=ξt hzc
            have HS1:=ξh (HSS.yes HK1.out HO.out (.inr (by rw[HCZ.out];exact hzc)))
            rw[HCZ.out,HFU.out,HHE.out] at HS1
            go_wp2_with fail
            go_roundw
            case rel=>exact⟨k+1,k,z,hd,by omega,by go_num,rfl,rfl,rfl,HS1.out,HB9.out⟩
            case measure=>simp[intOf];omega
          · have hzd:decide (z<c)=false:=ξf hzc
            have hzn:c≤z:=by omega
            have HS1:=ξh (HSS.no HK1.out (fun e=>by have:=e.2;rw[HCZ.out] at this;omega))
            go_wp2_with fail
            go_roundw
            case rel=>exact⟨k+1,b,c,t,by omega,by go_num,rfl,rfl,rfl,HS1.out,HB9.out⟩
            case measure=>simp[intOf];omega
      · obtain rfl:n48=0:=by omega
        have HS1:=ξh (HSS.no HK1.out (fun e=>by
         have h1:=e.1
         rw[HOK.out] at h1
         have h2:=HFN.out
         rw[List.eq_nil_of_length_eq_zero h2] at h1
         simp at h1))
        clear hn0
        go_wp2_with fail
        go_roundw
        case rel=>exact⟨k+1,b,c,t,by omega,by go_num,rfl,rfl,rfl,HS1.out,HB9.out⟩
        case measure=>simp[intOf];omega
    · have hltI:¬(k:Int)<(m:Int):=by omega
      obtain rfl:k=m:=by omega
      have HPX:=ξh (HPK1.out b c t HSS.out)
      have hk2:=ξA HK25.out HB6.out
      cases hpk:pickU p.n fs d p.ls with
      | none=>
        have hb1:b= -1:=by have:=HPX.out;rw[hpk] at this;exact this
        have HPN:=ξh hpk
        subst hb1
        have x0:=blkc hk2 (j:=0) (u:= .int .i64 0) rfl
        have x1:=blkc hk2 (j:=1) (u:= .int .i64 0) rfl
        have x2:=blkc hk2 (j:=2) (u:= .slice none 0 0) rfl
        have x3:=blkc hk2 (j:=3) (u:= .int .i64 0) rfl
        have x4:=blkc hk2 (j:=4) (u:= .int .i64 0) rfl
        have f0:wr.frozen? ⟨w.heap.size+1+1,0,none⟩=false:=ξz _ _ _ _ _ hk2
        have f1:wr.frozen? ⟨w.heap.size+1+1,1,none⟩=false:=ξz _ _ _ _ _ hk2
        have f2:wr.frozen? ⟨w.heap.size+1+1,2,none⟩=false:=ξz _ _ _ _ _ hk2
        have f3:wr.frozen? ⟨w.heap.size+1+1,3,none⟩=false:=ξz _ _ _ _ _ hk2
        have f4:wr.frozen? ⟨w.heap.size+1+1,4,none⟩=false:=ξz _ _ _ _ _ hk2
        obtain⟨q1,q2,q3⟩:=ξbs (.int .i64 0) (.int .i64 0) (.slice none 0 0) (.int .i64 0) (.int .i64 0) hk2
        have HQ1:=ξh q1
        have HQ3:=ξh (q3 w.heap.size w (by omega) HBW.out)
        clear q1 q2 q3 hpk
        go_wp2_with fail
        generalize ((((wr.setCell ⟨w.heap.size+1+1,0,none⟩ (.int .i64 0)).setCell ⟨w.heap.size+1+1,1,none⟩ (.int .i64 0)).setCell ⟨w.heap.size+1+1,2,none⟩ (.slice none 0 0)).setCell ⟨w.heap.size+1+1,3,none⟩ (.int .i64 0)).setCell ⟨w.heap.size+1+1,4,none⟩ (.int .i64 0)=w6 at *
        have t0:=blkc HQ1.out (j:=0) (u:= .int .i64 0) rfl
        have t1:=blkc HQ1.out (j:=1) (u:= .int .i64 0) rfl
        have t2:=blkc HQ1.out (j:=2) (u:= .slice none 0 0) rfl
        have t3:=blkc HQ1.out (j:=3) (u:= .int .i64 0) rfl
        have t4:=blkc HQ1.out (j:=4) (u:= .int .i64 0) rfl
        rw[HNP.out]
        exact bodyPost_ret (v:= .tuple #[.agg #[.int .i64 0,.int .i64 0,.slice none 0 0,.int .i64 0,.int .i64 0],.bool false,.bool true]) (by simp[results,Tryz.results105,go_sem,t0,t1,t2,t3,t4]) rfl ⟨HQ3.out,0,0,none,0,0,0,0,false,true,rfl,.inr ⟨HF.out,rfl,by rw[HPN.out]⟩⟩
      | some ux=>
        obtain⟨u,ix⟩:=ux
        obtain⟨j,rfl,ht,huj⟩:∃j:Nat,b=(j:Int)∧t=(((fitU p.ls u).headD 0:Nat):Int)∧U[j]?= some u:=by have:=HPX.out;rw[hpk] at this;exact this
        have HPN:=ξh hpk
        have hjk:j<k:=by
         have:=HSS.out
         unfold ScS at this
         cases hq:scanS costU (okU p.ls) U k with
         | none=>rw[hq] at this;have:=this.1;omega
         | some x=>obtain⟨u',j'⟩:=x;rw[hq] at this;have h1:=this.1;have h2:=this.2.1;omega
        have hjI:(j:Int)<(k:Int):=by omega
        have hj0:(0:Int)≤(j:Int):=by omega
        have hjn:¬(j:Int)<0:=by omega
        obtain⟨g,rfl,hgs,e0,e1⟩:=HCE.out j hjk
        obtain⟨h,off,rfl,hhs,hcs⟩:=HSC.out (by omega)
        have e2:=hcs j hjk
        obtain⟨k1,k2,k3,k4,k5,k6⟩:=HX.out j hjk
        rw[huj] at k1
        simp only[Option.some.injEq] at k1
        rw[show(qs[j]?.getD ξZ).1=u.1 by rw[k1]] at k2 k3
        rw[show xs[j]?.getD 0=u.2 by rw[k1]] at e2
        generalize hfv:(qs[j]?.getD ξZ).2=fv at *
        obtain⟨ax,cx,fl,HFL,rfl,-,-,-⟩:=k2.opn
        have HOW:=ξh (fun w' (hb:Below w5.heap.size w5 w')=>l4Own_any d.a (.slice ax fl cx) u.1 w' (k2.belowAll hb) (by omega))
        have HT:=ξh ht
        have HCL:=ξh (fun(w':World) (hb:Below wr.heap.size wr w')=>show w'.cell? ⟨g,j*2,none⟩=some (.int .i64 d.a)∧w'.cell? ⟨g,j*2+1,none⟩=some (.slice ax fl cx)∧w'.cell? ⟨h,off+j,none⟩=some (.int .i64 u.2) from
         have hb5:Below w5.heap.size w5 w':=HB6.trans (hb.mono HB6.size)
         ⟨(hb5.cell (p:=⟨g,j*2,none⟩) hgs).trans e0,(hb5.cell (p:=⟨g,j*2+1,none⟩) hgs).trans e1,(hb5.cell (p:=⟨h,off+j,none⟩) hhs).trans e2⟩)
        have HX2:=ξh hk2
        clear k1 k2 k3 k4 k5 k6 hfv hcs e0 e1 e2 ht huj hpk hk2
        go_wp2_with fail
        refine ξH [0,1,2,3,4,5,6,7,8,9,10,11,12] (S:=fun w'=>w'.cell? ⟨g,j*2,none⟩=some (.int .i64 d.a)∧w'.cell? ⟨g,j*2+1,none⟩=some (.slice ax fl cx)∧w'.cell? ⟨h,off+j,none⟩=some (.int .i64 u.2)) (by kernel_rfl) (HCL.out _ (ξb _ _).drew) (fun hH=> ?_)
        have BL:Below wr.heap.size wr wr.drew:=(ξb _ _).drew
        refine hlF 0 rfl hH ?_
        try simp only[Act.put,hlA,hlB,hlC]
        refine hlF 1 rfl hH ?_
        try simp only[Act.put,hlA,hlB,hlC]
        refine hlF 2 rfl hH ?_
        try simp only[Act.put,hlA,hlB,hlC]
        refine hlF 3 rfl hH ?_
        try simp only[Act.put,hlA,hlB,hlC]
        refine hlF 4 rfl hH ?_
        try simp only[Act.put,hlA,hlB,hlC]
        refine hlF 6 rfl hH ?_
        try simp only[Act.put,hlA,hlB,hlC]
        refine hlF 7 rfl hH ?_
        try simp only[Act.put,hlA,hlB,hlC]
        refine hlF 8 rfl hH ?_
        try simp only[Act.put,hlA,hlB,hlC]
        refine hlF 9 rfl hH ?_
        try simp only[Act.put,hlA,hlB,hlC]
        refine hlF 10 rfl hH ?_
        try simp only[Act.put,hlA,hlB,hlC]
        refine hlF 11 rfl hH ?_
        try simp only[Act.put,hlA,hlB,hlC]
        refine ξB (rs:=[5]) (by kernel_rfl) (by simp) ?_
        refine AllReadyL.cons rfl (fun KK hKK=> ?_) AllReadyL.nil
        go_simp
        go_at_call 152
        refine(HOW.out _ (HB6.trans (BL.mono HB6.size))).mono ?_
        rintro e w85 ⟨v85,rfl,o85,b85⟩
        have BL:=BL.trans (b85.mono BL.size)
        refine hKK.out _ _ (HCL.out _ BL) (fun hH=> ?_)
        clear hKK KK
        try simp only[Act.put,hlA,hlB,hlC]
        obtain⟨a85,c85,rfl⟩:=rowf o85
        refine ξG 12 rfl (by kernel_rfl) (by kernel_rfl) (fun KK hKK=> ?_)
        go_simp
        refine hKK.out _ _ ?_
        clear hKK KK
        try simp only[Act.put,hlA,hlB,hlC]
        refine ξG 13 rfl (by kernel_rfl) (by kernel_rfl) (fun KK hKK=> ?_)
        have hk5:=ξA HX2.out BL
        have x0:=blkc hk5 (j:=0) (u:= .int .i64 0) rfl
        have x1:=blkc hk5 (j:=1) (u:= .int .i64 0) rfl
        have x2:=blkc hk5 (j:=2) (u:= .slice none 0 0) rfl
        have x3:=blkc hk5 (j:=3) (u:= .int .i64 0) rfl
        have x4:=blkc hk5 (j:=4) (u:= .int .i64 0) rfl
        have f0:w85.frozen? ⟨w.heap.size+1+1,0,none⟩=false:=ξz _ _ _ _ _ hk5
        have f1:w85.frozen? ⟨w.heap.size+1+1,1,none⟩=false:=ξz _ _ _ _ _ hk5
        have f2:w85.frozen? ⟨w.heap.size+1+1,2,none⟩=false:=ξz _ _ _ _ _ hk5
        have f3:w85.frozen? ⟨w.heap.size+1+1,3,none⟩=false:=ξz _ _ _ _ _ hk5
        have f4:w85.frozen? ⟨w.heap.size+1+1,4,none⟩=false:=ξz _ _ _ _ _ hk5
        go_simp
        refine hKK.out _ _ ?_
        clear hKK KK
        try simp only[Act.put,hlA,hlB,hlC]
        refine ξG 14 rfl (by kernel_rfl) (by kernel_rfl) (fun KK hKK=> ?_)
        go_simp
        refine hKK.out _ _ ?_
        clear hKK KK
        try simp only[Act.put,hlA,hlB,hlC]
        refine ξG 15 rfl (by kernel_rfl) (by kernel_rfl) (fun KK hKK=> ?_)
        go_simp
        refine hKK.out _ _ ?_
        clear hKK KK
        try simp only[Act.put,hlA,hlB,hlC]
        refine ξS (by kernel_rfl) ?_ _
        rotate_left 1
        obtain⟨q1,q2,q3⟩:=ξbs (.int .i64 id) (.int .i64 d.a) (.slice a85 u.1.length c85) (.int .i64 t) (.int .i64 u.2) hk5
        have HQ1:=ξh q1
        have HQ3:=ξh (q3 w.heap.size w (by omega) (HBW.trans (BL.mono HBW.size)))
        have HRF:=ξh (o85.own.kept fun k' hk'=>q2 k' (by have h1:wr.heap.size≤k':=(o85.own.lt k' hk').1;have:=HB6.size;have:=HZ5.out;omega)).rd
        have HFR:=ξh (show∀q,(Value.slice a85 u.1.length c85).ownBlock=some q→w.heap.size≤q from fun q hq=>by have h1:wr.heap.size≤q:=(o85.own.lt q hq).1;have:=HB6.size;have:=HZ5.out;omega)
        have HLG:=ξh (show lgtU p.ls id d.a u=⟨id,d.a,u.1,t,u.2⟩ from by rw[HT.out];rfl)
        clear q1 q2 q3 o85 b85 BL hk5 x0 x1 x2 x3 x4 f0 f1 f2 f3 f4 hH
        generalize ((((w85.setCell ⟨w.heap.size+1+1,0,none⟩ (.int .i64 id)).setCell ⟨w.heap.size+1+1,1,none⟩ (.int .i64 d.a)).setCell ⟨w.heap.size+1+1,2,none⟩ (.slice a85 u.1.length c85)).setCell ⟨w.heap.size+1+1,3,none⟩ (.int .i64 t)).setCell ⟨w.heap.size+1+1,4,none⟩ (.int .i64 u.2)=w6 at *
        have t0:=blkc HQ1.out (j:=0) (u:= .int .i64 id) rfl
        have t1:=blkc HQ1.out (j:=1) (u:= .int .i64 d.a) rfl
        have t2:=blkc HQ1.out (j:=2) (u:= .slice a85 u.1.length c85) rfl
        have t3:=blkc HQ1.out (j:=3) (u:= .int .i64 t) rfl
        have t4:=blkc HQ1.out (j:=4) (u:= .int .i64 u.2) rfl
        go_wp2_with fail
        rw[HNP.out]
        exact bodyPost_ret (v:= .tuple #[.agg #[.int .i64 id,.int .i64 d.a,.slice a85 u.1.length c85,.int .i64 t,.int .i64 u.2],.bool true,.bool true]) (by simp[results,Tryz.results105,go_sem,t0,t1,t2,t3,t4]) rfl ⟨HQ3.out,id,d.a,a85,u.1.length,c85,t,u.2,true,true,rfl,.inr ⟨HF.out,rfl,by rw[HPN.out];exact⟨rfl,HLG.out,HRF.out,HFR.out⟩⟩⟩
theorem slcL_head (a:Option Addr) (m c k:Nat) (hk:k≤m) (hm:m≤c) (hc:c≤9223372036854775807) (ha:∀x,a=some x→x.spot=none) (w:World):
 (Instr.sliceAt 73 (.slice a m c) none (some (.int .i64 (k:Int))) none).run Tryz.prog w= .ok (.slice a k c) w:=by
 have h1:(0:Int)≤(k:Int):=by omega
 have h2:(k:Int)≤(c:Int):=by omega
 have h3:¬(c:Int)<(k:Int):=by omega
 have h4:¬c<k:=by omega
 have h5:k≤c:=by omega
 go_simp
def slcT (a:Option Addr) (c k s:Nat):Option Addr:=if c=k then a else a.map (·.add (k*s))
theorem slcL_tail (a:Option Addr) (m c k:Nat) (hk:k≤m) (hm:m≤c) (hc:c≤9223372036854775807) (w:World):
 (Instr.sliceAt 73 (.slice a m c) (some (.int .i64 (k:Int))) none none).run Tryz.prog w= .ok (.slice (slcT a c k 5) (m-k) (c-k)) w:=by
 have h1:(0:Int)≤(k:Int):=by omega
 have h2:(k:Int)≤(m:Int):=by omega
 have h3:¬(m:Int)<(k:Int):=by omega
 have h4:¬m<k:=by omega
 have h5:k≤c:=by omega
 have h6:(m:Int)≤(c:Int):=by omega
 unfold slcT
 go_simp
theorem ξbt {P:Program} {ρ:Operand→Value} {o:Oper} {t:TypeId} {x:Operand} {lo hi:Option Operand} {v:Value} {w:World} (ho:o.op= .slice t x lo hi none) (h:(Instr.sliceAt t (ρ x) (lo.map ρ) (hi.map ρ) none).run P w= .ok v w):(execOp ρ o).run P w= .ok (.value v) w:=by
 unfold execOp
 simp only[ho]
 simp only[Option.map_none]
 simp[h,go_sem]
open Cpy
theorem ξc6 (v:Value) (p:Pln) (w:World) (h:PlnR w v p) (hn1:p.n.ns.length≤1048576) (hn2:p.n.fs.length≤1048576) (hl:p.ls.length≤1000) (hfb:∀x∈p.ls,x.fb.length≤900000):
 Calls Tryz.prog 108 #[v] w (MkpP p w):=by
 obtain⟨NP,hNP⟩:∃NP,NP=MkpP p w:=⟨_,rfl⟩
 rw[←hNP]
 have HCN:=ξh (fun u1 u2 w' (hb:Below w.heap.size w w') (hnet:NetR w (.agg #[u1,u2]) p.n)=>l2Own_any u1 u2 p.n w' (hnet.behind hb) hn1 hn2)
 obtain⟨u1,u2,u3,rfl,r1,r2,r3,hsm⟩:=h
 have hnet:NetR w (.agg #[u1,u2]) p.n:=⟨u1,u2,rfl,r1,r2,hsm⟩
 have HNT:=ξh hnet
 obtain⟨⟨a1,m1,c1,rfl⟩,a2,m2,c2,rfl⟩:=ξF hnet
 obtain⟨a3,m3,c3,rfl,HN3,hc3,hm3,ha3⟩:=ξa1 r3
 have HA:=ξh ha3
 have HFB:=ξh (fun k (hk:k<m3)=>show(p.ls[k]?.getD nilL).fb.length≤900000 from by
  have h1:k<p.ls.length:=by rw[HN3.out];exact hk
  rw[ξg h1];exact hfb _ (ξj h1))
 have HTK:=ξh (fun k (hk:k<m3)=>show(p.ls.take (k+1)).flatMap lgtD=(p.ls.take k).flatMap lgtD++lgtD (p.ls[k]?.getD nilL) from by
  have h1:k<p.ls.length:=by rw[HN3.out];exact hk
  rw[List.take_add_one,List.flatMap_append,ξg h1];simp)
 have HTA:=ξh (show(p.ls.take m3).flatMap lgtD=p.ls.flatMap lgtD from by rw[List.take_of_length_le (Nat.le_of_eq HN3.out)])
 have hl3:m3≤1000:=by rw[←HN3.out];exact hl
 have b1:=(ξb w.heap.size w).alloc (ξr _) (.cells #[.slice a1 m1 c1,.slice a2 m2 c2,.slice a3 m3 c3] 75)
 have b2:=b1.alloc b1.size (.cells #[.slice none 0 0,.slice none 0 0,.slice none 0 0] 75)
 have k0:=ξn w (.cells #[.slice a1 m1 c1,.slice a2 m2 c2,.slice a3 m3 c3] 75)
 have k0':=(heap_alloc_old _ (.cells #[.slice none 0 0,.slice none 0 0,.slice none 0 0] 75) (ξa k0).1).trans k0
 have k1:=ξn (w.alloc (.cells #[.slice a1 m1 c1,.slice a2 m2 c2,.slice a3 m3 c3] 75)) (.cells #[.slice none 0 0,.slice none 0 0,.slice none 0 0] 75)
 rw[show(w.alloc (.cells #[.slice a1 m1 c1,.slice a2 m2 c2,.slice a3 m3 c3] 75)).heap.size=w.heap.size+1 by simp] at k1
 have HZ:=ξh (show((w.alloc (.cells #[.slice a1 m1 c1,.slice a2 m2 c2,.slice a3 m3 c3] 75)).alloc (.cells #[.slice none 0 0,.slice none 0 0,.slice none 0 0] 75)).heap.size=w.heap.size+1+1 by simp)
 have HB2:=ξh b2
 have K0:=ξh k0'
 have K1:=ξh k1
 have HNP:=ξh hNP
 clear b1 b2 k0 k0' k1 r1 r2 r3 hsm hnet ha3 hfb hl hn1 hn2 hNP
 go_enter Tryz.func108,Tryz.ntmps108
 go_wp2_with fail
 generalize (w.alloc (.cells #[.slice a1 m1 c1,.slice a2 m2 c2,.slice a3 m3 c3] 75)).alloc (.cells #[.slice none 0 0,.slice none 0 0,.slice none 0 0] 75)=w2 at *
 refine(HCN.out _ _ w2 HB2.out HNT.out).mono ?_
 rintro e w3 ⟨v3,fp,rfl,ho,hn,hlt,b3⟩
 obtain⟨a5,n5,c5,a6,n6,c6,rfl⟩:=ho.form
 have HB3:=ξh (HB2.trans (b3.mono HB2.size))
 have HO:=ξh ho
 have HN:=ξh hn
 have HLT:=ξh hlt
 have K03:=ξh (ξA K0.out b3)
 have K13:=ξh (ξA K1.out b3)
 have HZ3:=ξh (show w.heap.size+1+1≤w3.heap.size by have:=b3.size;have:=HZ.out;omega)
 clear ho hn hlt b3
 go_upto_region 2 with fail
 have k2:=ξn w3 (.cells #[.slice a5 n5 c5,.slice a6 n6 c6,.slice none 0 0] 75)
 have bal:=(ξb w3.heap.size w3).alloc (ξr _) (.cells #[.slice a5 n5 c5,.slice a6 n6 c6,.slice none 0 0] 75)
 have hzz:(w3.alloc (.cells #[.slice a5 n5 c5,.slice a6 n6 c6,.slice none 0 0] 75)).heap.size=w3.heap.size+1:=by simp
 obtain⟨bx,hbx⟩:∃bx,bx=w3.heap.size:=⟨_,rfl⟩
 have HBX:=ξh hbx
 rw[←hbx] at k2 bal hzz HZ3 HLT ⊢
 have HO4:=ξh (HO.behind (hbx▸bal))
 have HBL:=ξh bal
 have HKB:=ξh k2
 have HZB:=ξh hzz
 clear k2 bal hzz hbx
 generalize w3.alloc (.cells #[.slice a5 n5 c5,.slice a6 n6 c6,.slice none 0 0] 75)=w4 at *
 go_wp2_with fail
 go_loopw [4] (fun i wr=>∃(k:Nat) (a7:Option Addr) (c7:Nat),k≤m3∧i= .int .i64 k∧Hid (wr.heap[bx]?= some (.cells #[.slice a5 n5 c5,.slice a6 n6 c6,.slice a7 k c7] 75))∧Hid (Grw wr (bx+1) 86 5 (.slice a7 k c7) k ((p.ls.take k).flatMap lgtD))∧Hid (Below bx w3 wr)∧Hid (bx+1≤wr.heap.size)) (fun i _=>m3-(intOf i).toNat)
 case atStart=>exact⟨0,none,0,by omega,rfl,HKB.out,grw_nil _ _ _ _,HBL.out,by rw[HZB.out];exact ξr _⟩
 case round=>
  obtain⟨k,a7,c7,hk,rfl,HK,HG,HB,HS⟩:=hrel
  have x03:wr.heap[w.heap.size]?= _:=(HB.block _ (by have:=HZ3.out;omega)).trans K03.out
  have K0R:=ξh x03
  have y03:=blkc x03 (j:=2) (u:= .slice a3 m3 c3) rfl
  clear x03
  by_cases hlt:k<m3
  · have hltI:(k:Int)<(m3:Int):=by omega
    obtain⟨b3,o3,rfl,hbl,hcs⟩:=HA.out (by omega)
    obtain⟨u,e0,e1,e2,e3,e4,hru⟩:=hcs k hlt
    have HWR:=ξh (HB3.trans ((HBX.out▸HB.out:Below w3.heap.size w3 wr).mono (by have:=HZ3.out;rw[←HBX.out];omega)))
    have mv:∀j,wr.cell? ⟨b3,j,none⟩=w.cell? ⟨b3,j,none⟩:=fun j=>HWR.cell (p:=⟨b3,j,none⟩) hbl
    rw[←mv] at e0 e1 e2 e3 e4
    have HRU:=ξh (fun(w':World) (hb:Below wr.heap.size wr w')=>show Rd w' u (p.ls[k]?.getD nilL).fb from(hru.belowAll (HWR.trans (hb.mono HWR.size))))
    obtain⟨au,nu,cu,rfl⟩:∃au nu cu,u= .slice au nu cu:=by
     obtain⟨au,cu,hv,-⟩:=ξaI hru
     exact⟨_,_,_,hv⟩
    have HX:=ξh (HFB.out k hlt)
    have HTX:=ξh (HTK.out k hlt)
    clear hcs mv hru hbl
    generalize p.ls[k]?.getD nilL=x at *
    have HSS:=ξh (fun(w':World) (hb:Below wr.heap.size wr w')=>show w'.cell? ⟨bx,2,none⟩=some (.slice a7 k c7)∧w'.cell? ⟨w.heap.size,2,none⟩=some (.slice (some ⟨b3,o3,none⟩) m3 c3)∧w'.cell? ⟨b3,o3+k*5,none⟩=some (.int .i64 x.id)∧w'.cell? ⟨b3,o3+k*5+1,none⟩=some (.int .i64 x.st)∧w'.cell? ⟨b3,o3+k*5+2,none⟩=some (.slice au nu cu)∧w'.cell? ⟨b3,o3+k*5+3,none⟩=some (.int .i64 x.fi)∧w'.cell? ⟨b3,o3+k*5+4,none⟩=some (.int .i64 x.ct) from
     have hz:∀j v,wr.cell? ⟨b3,j,none⟩=some v→w'.cell? ⟨b3,j,none⟩=some v:=fun j v h=>(hb.cell (p:=⟨_,j,none⟩) (ξd _ _ h)).trans h
     ⟨blkc (ξA HK.out hb) rfl,blkc (ξA K0R.out hb) rfl,hz _ _ e0,hz _ _ e1,hz _ _ e2,hz _ _ e3,hz _ _ e4⟩)
    have hs5:bx+1≤wr.heap.size:=HS.out
    clear e0 e1 e2 e3 e4
    go_wp2_with fail
    clear y03
    refine ξH [0,1,2,3,4,5,6,7,8,9] (S:=fun w'=>w'.cell? ⟨bx,2,none⟩=some (.slice a7 k c7)∧w'.cell? ⟨w.heap.size,2,none⟩=some (.slice (some ⟨b3,o3,none⟩) m3 c3)∧w'.cell? ⟨b3,o3+k*5,none⟩=some (.int .i64 x.id)∧w'.cell? ⟨b3,o3+k*5+1,none⟩=some (.int .i64 x.st)∧w'.cell? ⟨b3,o3+k*5+2,none⟩=some (.slice au nu cu)∧w'.cell? ⟨b3,o3+k*5+3,none⟩=some (.int .i64 x.fi)∧w'.cell? ⟨b3,o3+k*5+4,none⟩=some (.int .i64 x.ct)) (by kernel_rfl) (HSS.out _ (ξb _ _).drew) (fun hH=> ?_)
    refine hlF 0 rfl hH ?_
    try simp only[Act.put,hlA,hlB,hlC]
    refine hlF 1 rfl hH ?_
    try simp only[Act.put,hlA,hlB,hlC]
    refine hlF 2 rfl hH ?_
    try simp only[Act.put,hlA,hlB,hlC]
    refine hlF 3 rfl hH ?_
    try simp only[Act.put,hlA,hlB,hlC]
    refine hlF 4 rfl hH ?_
    try simp only[Act.put,hlA,hlB,hlC]
    refine hlF 5 rfl hH ?_
    try simp only[Act.put,hlA,hlB,hlC]
    refine hlF 6 rfl hH ?_
    try simp only[Act.put,hlA,hlB,hlC]
    refine ξB (rs:=[7]) (by kernel_rfl) (by simp) ?_
    refine AllReadyL.cons rfl (fun KK hKK=> ?_) AllReadyL.nil
    go_simp
    go_at_call 153
    refine(l9Copy_any x (.slice au nu cu) _ (HRU.out _ (ξb _ _).drew) HX.out).mono ?_
    rintro e w23 ⟨v23,rfl,o23,b23⟩
    have B23:Below wr.heap.size wr w23:=(ξb wr.heap.size wr).drew.trans b23
    have O23:=ξh o23.own
    have H23:=ξh (ownP_one o23.own)
    clear o23 b23
    refine hKK.out _ _ (HSS.out _ B23) (fun hH=> ?_)
    clear hKK KK
    try simp only[Act.put,hlA,hlB,hlC]
    refine ξB (rs:=[8]) (by kernel_rfl) (by simp) ?_
    refine AllReadyL.cons rfl (fun KK hKK=> ?_) AllReadyL.nil
    go_simp
    have B27:=B23.alloc B23.size (.cells #[.int .i64 x.id,.int .i64 x.st,v23,.int .i64 x.fi,.int .i64 x.ct] 86)
    refine hKK.out _ _ (HSS.out _ B27) (fun hH=> ?_)
    clear hKK KK
    try simp only[Act.put,hlA,hlB,hlC]
    refine ξG 9 rfl (by kernel_rfl) (by kernel_rfl) (fun KK hKK=> ?_)
    refine step_of_list rfl ?_
    refine ξcq rfl (.tmp 17) (.tmp 24) 73 86 rfl Tryz.underlying73 (.agg #[.int .i64 0,.int .i64 0,.slice none 0 0,.int .i64 0,.int .i64 0]) 5 56 Tryz.infoLgtI rfl (by decide) (by decide) (bx+1) k (.slice a7 k c7) _ (lgtD x) (by rfl) HG.out hs5 B23 [.int .i64 x.id,.int .i64 x.st,v23,.int .i64 x.fi,.int .i64 x.ct] (newLgt O23.out) rfl (fun z hz=>by simp only[List.mem_cons,List.not_mem_nil,or_false] at hz;rcases hz with e | e | e | e | e <;> rw[e] <;> first | rfl | exact H23.out) (by rfl) (by omega) ?_
    intro v28 w28 G28 g28 l28
    unfold wpList
    refine⟨rfl,?_⟩
    refine hKK.out _ _ ?_
    clear hKK KK
    try simp only[Act.put,hlA,hlB,hlC]
    obtain⟨-,a8,c8,rfl⟩:=G28.form
    have x8:=(g28.block bx (ξq (by omega) B23.size) (fun e=>by have:=(HG.own _ e.symm).1;omega)).trans (ξA HK.out B23)
    have f0:w28.frozen? ⟨bx,2,none⟩=false:=ξz _ _ _ _ _ x8
    have y0:=blkc x8 (j:=2) rfl
    refine ξG 10 rfl (by kernel_rfl) (by kernel_rfl) (fun KK hKK=> ?_)
    go_simp
    refine hKK.out _ _ ?_
    clear hKK KK
    try simp only[Act.put,hlA,hlB,hlC]
    refine ξG 11 rfl (by kernel_rfl) (by kernel_rfl) (fun KK hKK=> ?_)
    go_simp
    refine hKK.out _ _ ?_
    clear hKK KK
    try simp only[Act.put,hlA,hlB,hlC]
    refine ξS (by kernel_rfl) ?_ _
    rotate_left 1
    have q9:=ξe w28 bx 2 _ 75 (.slice a8 (k+1) c8) x8
    have o9:∀j,j≠bx→(w28.setCell ⟨bx,2,none⟩ (.slice a8 (k+1) c8)).heap[j]?= w28.heap[j]?:=fun j hj=>ξm _ ⟨bx,2,none⟩ j _ hj
    have HK9:=ξh (show(w28.setCell ⟨bx,2,none⟩ (.slice a8 (k+1) c8)).heap[bx]?= some (.cells #[.slice a5 n5 c5,.slice a6 n6 c6,.slice a8 (k+1) c8] 75) from by rw[q9];simp)
    have HG9:=ξh (show Grw (w28.setCell ⟨bx,2,none⟩ (.slice a8 (k+1) c8)) (bx+1) 86 5 (.slice a8 (k+1) c8) (k+1) ((p.ls.take (k+1)).flatMap lgtD) from by rw[HTX.out];exact G28.keepP fun j hj _=>o9 j (by omega))
    have hb28:Below bx w3 w28:=Below.grown (HB.trans (B23.mono (by omega))) g28 (by have:=B23.size;omega) (fun q hq=>by have:=(HG.own _ hq).1;omega)
    have HB9:=ξh (hb28.setCell (p:=⟨bx,2,none⟩) (ξr _) (.slice a8 (k+1) c8))
    have HS9:=ξh (show bx+1≤(w28.setCell ⟨bx,2,none⟩ (.slice a8 (k+1) c8)).heap.size from by have:=(ξa q9).1;omega)
    generalize w28.setCell ⟨bx,2,none⟩ (.slice a8 (k+1) c8)=w9 at *
    clear q9 o9 hb28 g28 l28 G28 x8 f0 y0 B23 B27
    go_wp2
    go_roundw
    case rel=>exact⟨k+1,a8,c8,by omega,by go_num,HK9.out,HG9.out,HB9.out,HS9.out⟩
    case measure=>simp[intOf];omega
  · have hltI:¬(k:Int)<(m3:Int):=by omega
    obtain rfl:m3=k:=by omega
    have HG0:=ξh (HTA.out▸HG.out)
    have HO9:=ξh (HO.keepP fun j hj=>by
     have h1:=HLT.out j hj
     exact HB.block j h1.2)
    have HK1:=ξh (show wr.heap[w.heap.size+1]?= some (.cells #[.slice none 0 0,.slice none 0 0,.slice none 0 0] 75) from(HB.block _ (by have:=HZ3.out;omega)).trans K13.out)
    have HBW:=ξh (show Below w.heap.size w wr from HB3.trans (HB.mono (by have:=HZ3.out;omega)))
    have y0:=blkc HK.out (j:=0) (u:= .slice a5 n5 c5) rfl
    have y1:=blkc HK.out (j:=1) (u:= .slice a6 n6 c6) rfl
    have y2:=blkc HK.out (j:=2) (u:= .slice a7 m3 c7) rfl
    clear K0 K03 K1 K13 HB2 HCN HNT HFB HTK
    have z0:=blkc HK1.out (j:=0) (u:= .slice none 0 0) rfl
    have z1:=blkc HK1.out (j:=1) (u:= .slice none 0 0) rfl
    have z2:=blkc HK1.out (j:=2) (u:= .slice none 0 0) rfl
    have f0:wr.frozen? ⟨w.heap.size+1,0,none⟩=false:=ξz _ _ _ _ _ HK1.out
    have f1:wr.frozen? ⟨w.heap.size+1,1,none⟩=false:=ξz _ _ _ _ _ HK1.out
    have f2:wr.frozen? ⟨w.heap.size+1,2,none⟩=false:=ξz _ _ _ _ _ HK1.out
    obtain⟨q9,o9,s9,b9⟩:=ξaq (.slice a5 n5 c5) (.slice a6 n6 c6) (.slice a7 m3 c7) HK1.out
    have HOT:=ξh o9
    have HZ8:=ξh s9
    have HB8:=ξh (b9 w.heap.size w (by omega) HBW.out)
    have HQ9:=ξh q9
    clear q9 o9 s9 b9
    go_wp2_with fail
    generalize ((wr.setCell ⟨w.heap.size+1,0,none⟩ (.slice a5 n5 c5)).setCell ⟨w.heap.size+1,1,none⟩ (.slice a6 n6 c6)).setCell ⟨w.heap.size+1,2,none⟩ (.slice a7 m3 c7)=w9 at *
    have t0:=blkc HQ9.out (j:=0) (u:= .slice a5 n5 c5) rfl
    have t1:=blkc HQ9.out (j:=1) (u:= .slice a6 n6 c6) rfl
    have t2:=blkc HQ9.out (j:=2) (u:= .slice a7 m3 c7) rfl
    rw[HNP.out]
    exact bodyPost_ret (v:= .agg #[.slice a5 n5 c5,.slice a6 n6 c6,.slice a7 m3 c7]) (by simp[results,Tryz.results108,go_sem,t0,t1,t2]) rfl ⟨_,_,_,bx+1,fp,rfl,⟨HO9.keepP fun j hj=>HOT.out j (by have:=HLT.out j hj;have:=HZ.out;omega),HN.out,fun j hj=>by have:=HLT.out j hj;have:=HZ.out;omega,⟨by have:=HZ3.out;omega,by have:=HZ8.out;have:=HS.out;omega⟩,by rw[HN3.out];exact HG0.keepP fun j hj _=>HOT.out j (by have:=HZ3.out;omega)⟩,HB8.out⟩
end Go.Proofs.YtofcicomhnkocaaGreat
