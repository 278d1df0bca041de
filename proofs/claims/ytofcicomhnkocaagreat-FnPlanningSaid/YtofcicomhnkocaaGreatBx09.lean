import Derived.Test.YtofcicomhnkocaaGreatBx08
set_option linter.unusedVariables false
namespace Go.Proofs.YtofcicomhnkocaaGreat
set_option maxHeartbeats 12800000
open Go.RowKit Go.Sort
set_option maxRecDepth 100000
open Cpy
theorem Grw.keepP {w w':World} {base size n:Nat} {T:TypeId} {v:Value} {ds:List Dt} (h:Grw w base T size v n ds) (hk:∀k,base≤k→k<w.heap.size→w'.heap[k]?= w.heap[k]?):Grw w' base T size v n ds:=by
 obtain⟨us,fs,h1,h2,h3,h4,h5,h6,h7⟩:=h
 have hlt:=Grw.flt h2 h3 h4
 refine⟨us,fs,⟨h1.1,h1.2.imp id fun⟨g,cap,cur,k1,k2,k3,k4⟩=>⟨g,cap,cur,k1,k2,by rw[hk g k2 (ξa k3).1];exact k3,k4⟩⟩,h2,h3,fun j d u f e1 e2 e3=> ?_,h5,h6,h7⟩
 refine(h4 j d u f e1 e2 e3).kept fun k hkf=> ?_
 have hm:k∈fs.flatten:=List.mem_flatten.2 ⟨f,List.mem_of_getElem? e3,hkf⟩
 exact hk k (h6 k hm) (hlt k hm)
theorem NetO.keepP {w w':World} {n:Net} {v:Value} {fp:List Nat} (h:NetO w n v fp) (hk:∀k∈fp,w'.heap[k]?= w.heap[k]?):NetO w' n v fp:=by
 obtain⟨x1,x2,f1,f2,e,h1,h2,rfl⟩:=h
 exact⟨x1,x2,f1,f2,e,h1.kept fun k h=>hk k (List.mem_append_left _ h),h2.kept fun k h=>hk k (List.mem_append_right _ h),rfl⟩
theorem ξaq {w:World} {b:Nat} {T:TypeId} {x0 y0 z0:Value} (x y z:Value) (h:w.heap[b]?= some (.cells #[x0,y0,z0] T (0,0))):
 (((w.setCell ⟨b,0,none⟩ x).setCell ⟨b,1,none⟩ y).setCell ⟨b,2,none⟩ z).heap[b]?= some (.cells #[x,y,z] T (0,0))∧
 (∀k,k≠b→(((w.setCell ⟨b,0,none⟩ x).setCell ⟨b,1,none⟩ y).setCell ⟨b,2,none⟩ z).heap[k]?= w.heap[k]?)∧
 (((w.setCell ⟨b,0,none⟩ x).setCell ⟨b,1,none⟩ y).setCell ⟨b,2,none⟩ z).heap.size=w.heap.size∧
 ∀(B:Nat) (u:World),B≤b→Below B u w→Below B u (((w.setCell ⟨b,0,none⟩ x).setCell ⟨b,1,none⟩ y).setCell ⟨b,2,none⟩ z):=by
 have q1:=ξe w b 0 _ T x h
 have q2:=ξe _ b 1 _ T y q1
 have q3:=ξe _ b 2 _ T z q2
 refine⟨by rw[q3];simp,fun k hk=> ?_,by simp,fun B u hB hb=> ?_⟩
 · rw[ξm _ ⟨b,2,none⟩ k _ hk,ξm _ ⟨b,1,none⟩ k _ hk,ξm _ ⟨b,0,none⟩ k _ hk]
 · exact((hb.setCell (p:=⟨b,0,none⟩) hB x).setCell (p:=⟨b,1,none⟩) hB y).setCell (p:=⟨b,2,none⟩) hB z
structure PlG (w:World) (base B:Nat) (u1 u2 u3:Value) (p:Pln) (fp:List Nat):Prop where
 net:NetO w p.n (.agg #[u1,u2]) fp
 nod:fp.Nodup
 fpr:∀k∈fp,base≤k∧k<B
 bas:base≤B∧B≤w.heap.size
 lig:Grw w B 86 5 u3 p.ls.length (p.ls.flatMap lgtD)
theorem PlG.o {w:World} {base B:Nat} {u1 u2 u3:Value} {p:Pln} {fp:List Nat} (h:PlG w base B u1 u2 u3 p fp):∃fq,PlnO w p (.agg #[u1,u2,u3]) fq∧fq.Nodup∧ ∀k∈fq,base≤k∧k<w.heap.size:=by
 obtain⟨x1,x2,f1,f2,e,h1,h2,rfl⟩:=h.net
 simp only[Value.agg.injEq,Array.mk.injEq,List.cons.injEq,and_true] at e
 obtain⟨rfl,rfl⟩:=e
 obtain⟨f3,h3,h4,h5⟩:=h.lig.ofr
 refine⟨(f1++f2)++f3,⟨u1,u2,u3,f1,f2,f3,rfl,h1,h2,h3,rfl⟩,List.nodup_append.2 ⟨h.nod,h4,fun x hx y hy e=> ?_⟩,fun k hk=> ?_⟩
 · have:=(h.fpr x hx).2
   have:=h5 y hy
   omega
 · have hb:=h.bas
   rcases List.mem_append.1 hk with hk | hk
   · have:=h.fpr k hk;omega
   · have:=h5 k hk
     exact⟨by omega,h3.lt k hk⟩
theorem PlG.rd {w:World} {base B:Nat} {u1 u2 u3:Value} {p:Pln} {fp:List Nat} (h:PlG w base B u1 u2 u3 p fp) (hs:NetSm p.n):PlnR w (.agg #[u1,u2,u3]) p:=by
 obtain⟨fq,ho,-⟩:=h.o
 exact ho.rd hs
def MkpP (p:Pln) (w:World) (e:Ending) (w':World):Prop:=∃u1 u2 u3 B fp,e= .returned (.agg #[u1,u2,u3])∧PlG w' w.heap.size B u1 u2 u3 p fp∧Below w.heap.size w w'
theorem grw_nil (w:World) (base:Nat) (T:TypeId) (size:Nat):Grw w base T size (.slice none 0 0) 0 []:=
 ⟨[],[],⟨by simp,.inl ⟨rfl,rfl⟩⟩,rfl,rfl,(fun j d u f h=>by simp at h),List.nodup_nil,(fun k hk=>by simp at hk),(fun g _ hk=>by simp at hk)⟩
theorem ownP_one {w:World} {lo:Nat} {v:Value} {fb:List Int} (h:Own w lo v fb):v.oneCell'=true:=by
 rcases h with h1 | ⟨g,off,cap,cur,h1,-⟩
 · rw[h1.1];rfl
 · rw[h1];rfl
theorem newLgt {w:World} {lo:Nat} {x:Lgt} {v:Value} (h:Own w lo v x.fb):Newd w lo [.int .i64 x.id,.int .i64 x.st,v,.int .i64 x.fi,.int .i64 x.ct] (lgtD x):=by
 have h0:Newd w lo [v] [inD x.fb]:=Newd.one h.ofr
 obtain⟨fs,h1,h2,h3,h4,h5⟩:=h0
 refine⟨[[],[],fs[0]?.getD [],[],[]],rfl,rfl,fun j d u f e1 e2 e3=> ?_,?_,fun k hk=> ?_⟩
 · match j with
   | 0=>cases e1;cases e2;cases e3;exact .leaf _
   | 1=>cases e1;cases e2;cases e3;exact .leaf _
   | 2=>
     cases e1;cases e2;cases e3
     match fs,h2 with
     | [f],_=>exact h3 0 _ _ _ rfl rfl rfl
   | 3=>cases e1;cases e2;cases e3;exact .leaf _
   | 4=>cases e1;cases e2;cases e3;exact .leaf _
   | j+5=>simp[lgtD] at e1
 · match fs,h2 with
   | [f],_=>simpa using h4
 · match fs,h2 with
   | [f],_=>exact h5 k (by simpa using hk)
theorem ξbB (v:Value) (p:Pln) (w:World) (h:PlnR w v p) (hn1:p.n.ns.length≤1048576) (hn2:p.n.fs.length≤1048576) (hl:p.ls.length≤1000) (hfb:∀x∈p.ls,x.fb.length≤1000000):
 Calls Tryz.prog 116 #[v] w (MkpP p w):=by
 obtain⟨NP,hNP⟩:∃NP,NP=MkpP p w:=⟨_,rfl⟩
 rw[←hNP]
 have HCN:=ξh (fun u1 u2 w' (hb:Below w.heap.size w w') (hnet:NetR w (.agg #[u1,u2]) p.n)=>ξcG u1 u2 p.n w' (hnet.behind hb) hn1 hn2)
 obtain⟨u1,u2,u3,rfl,r1,r2,r3,hsm⟩:=h
 have hnet:NetR w (.agg #[u1,u2]) p.n:=⟨u1,u2,rfl,r1,r2,hsm⟩
 have HNT:=ξh hnet
 obtain⟨⟨a1,m1,c1,rfl⟩,a2,m2,c2,rfl⟩:=ξF hnet
 obtain⟨a3,m3,c3,rfl,HN3,hc3,hm3,ha3⟩:=ξa1 r3
 have HA:=ξh ha3
 have HFB:=ξh (fun k (hk:k<m3)=>show(p.ls[k]?.getD nilL).fb.length≤1000000 from by
  have h1:k<p.ls.length:=by rw[HN3.out];exact hk
  rw[ξg h1];exact hfb _ (ξj h1))
 have HTK:=ξh (fun k (hk:k<m3)=>show(p.ls.take (k+1)).flatMap lgtD=(p.ls.take k).flatMap lgtD++lgtD (p.ls[k]?.getD nilL) from by
  have h1:k<p.ls.length:=by rw[HN3.out];exact hk
  rw[List.take_add_one,List.flatMap_append,ξg h1];simp)
 have HTA:=ξh (show(p.ls.take m3).flatMap lgtD=p.ls.flatMap lgtD from by rw[List.take_of_length_le (Nat.le_of_eq HN3.out)])
 have hl3:m3≤1000:=by rw[←HN3.out];exact hl
 have b1:=(ξb w.heap.size w).alloc (ξr _) (.cells #[.slice a1 m1 c1,.slice a2 m2 c2,.slice a3 m3 c3] 75)
 have b2:=b1.alloc b1.size (.cells #[.slice none 0 0,.slice none 0 0,.slice none 0 0] 75)
 have k0:=ξn w (.cells #[.slice a1 m1 c1,.slice a2 m2 c2,.slice a3 m3 c3] 75)
 have k0':=(heap_alloc_old _ (.cells #[.slice none 0 0,.slice none 0 0,.slice none 0 0] 75) (ξa k0).1).trans k0
 have k1:=ξn (w.alloc (.cells #[.slice a1 m1 c1,.slice a2 m2 c2,.slice a3 m3 c3] 75)) (.cells #[.slice none 0 0,.slice none 0 0,.slice none 0 0] 75)
 rw[show(w.alloc (.cells #[.slice a1 m1 c1,.slice a2 m2 c2,.slice a3 m3 c3] 75)).heap.size=w.heap.size+1 by simp] at k1
 have HZ:=ξh (show((w.alloc (.cells #[.slice a1 m1 c1,.slice a2 m2 c2,.slice a3 m3 c3] 75)).alloc (.cells #[.slice none 0 0,.slice none 0 0,.slice none 0 0] 75)).heap.size=w.heap.size+1+1 by simp)
 have HB2:=ξh b2
 have K0:=ξh k0'
 have K1:=ξh k1
 have HNP:=ξh hNP
 clear b1 b2 k0 k0' k1 r1 r2 r3 hsm hnet ha3 hfb hl hn1 hn2 hNP
 go_enter Tryz.func116,Tryz.ntmps116
 go_wp2_with fail
 generalize (w.alloc (.cells #[.slice a1 m1 c1,.slice a2 m2 c2,.slice a3 m3 c3] 75)).alloc (.cells #[.slice none 0 0,.slice none 0 0,.slice none 0 0] 75)=w2 at *
 refine(HCN.out _ _ w2 HB2.out HNT.out).mono ?_
 rintro e w3 ⟨v3,fp,rfl,ho,hn,hlt,b3⟩
 obtain⟨a5,n5,c5,a6,n6,c6,rfl⟩:=ho.form
 have HB3:=ξh (HB2.trans (b3.mono HB2.size))
 have HO:=ξh ho
 have HN:=ξh hn
 have HLT:=ξh hlt
 have K03:=ξh (ξA K0.out b3)
 have K13:=ξh (ξA K1.out b3)
 have HZ3:=ξh (show w.heap.size+1+1≤w3.heap.size by have:=b3.size;have:=HZ.out;omega)
 clear ho hn hlt b3
 go_upto_region 2 with fail
 have k2:=ξn w3 (.cells #[.slice a5 n5 c5,.slice a6 n6 c6,.slice none 0 0] 75)
 have bal:=(ξb w3.heap.size w3).alloc (ξr _) (.cells #[.slice a5 n5 c5,.slice a6 n6 c6,.slice none 0 0] 75)
 have hzz:(w3.alloc (.cells #[.slice a5 n5 c5,.slice a6 n6 c6,.slice none 0 0] 75)).heap.size=w3.heap.size+1:=by simp
 obtain⟨bx,hbx⟩:∃bx,bx=w3.heap.size:=⟨_,rfl⟩
 have HBX:=ξh hbx
 rw[←hbx] at k2 bal hzz HZ3 HLT ⊢
 have HO4:=ξh (HO.behind (hbx▸bal))
 have HBL:=ξh bal
 have HKB:=ξh k2
 have HZB:=ξh hzz
 clear k2 bal hzz hbx
 generalize w3.alloc (.cells #[.slice a5 n5 c5,.slice a6 n6 c6,.slice none 0 0] 75)=w4 at *
 have y2:=blkc (ξA K03.out (HBX.out▸HBL.out:Below w3.heap.size w3 w4)) (j:=2) (u:= .slice a3 m3 c3) rfl
 go_wp2_with fail
 clear y2
 go_loopw [5,13] (fun _ i wr=>∃(k:Nat) (a7:Option Addr) (c7:Nat),k≤m3∧i= .int .i64 k∧Hid (wr.heap[bx]?= some (.cells #[.slice a5 n5 c5,.slice a6 n6 c6,.slice a7 k c7] 75))∧Hid (Grw wr (bx+1) 86 5 (.slice a7 k c7) k ((p.ls.take k).flatMap lgtD))∧Hid (Below bx w3 wr)∧Hid (bx+1≤wr.heap.size)) (fun _ i _=>m3-(intOf i).toNat)
 case atStart=>exact⟨0,none,0,by omega,rfl,HKB.out,grw_nil _ _ _ _,HBL.out,by rw[HZB.out];exact ξr _⟩
 case round=>
  obtain⟨k,a7,c7,hk,rfl,HK,HG,HB,HS⟩:=hrel
  by_cases hlt:k<m3
  · have hltI:(k:Int)<(m3:Int):=by omega
    obtain⟨b3,o3,rfl,hbl,hcs⟩:=HA.out (by omega)
    obtain⟨u,e0,e1,e2,e3,e4,hru⟩:=hcs k hlt
    have HWR:=ξh (HB3.trans ((HBX.out▸HB.out:Below w3.heap.size w3 wr).mono (by have:=HZ3.out;rw[←HBX.out];omega)))
    have mv:∀j,wr.cell? ⟨b3,j,none⟩=w.cell? ⟨b3,j,none⟩:=fun j=>HWR.cell (p:=⟨b3,j,none⟩) hbl
    rw[←mv] at e0 e1 e2 e3 e4
    have HRU:=ξh (fun(w':World) (hb:Below wr.heap.size wr w')=>show Rd w' u (p.ls[k]?.getD nilL).fb from(hru.belowAll (HWR.trans (hb.mono HWR.size))))
    obtain⟨au,nu,cu,rfl⟩:∃au nu cu,u= .slice au nu cu:=by
     obtain⟨au,cu,hv,-⟩:=ξaI hru
     exact⟨_,_,_,hv⟩
    have HX:=ξh (HFB.out k hlt)
    have HTX:=ξh (HTK.out k hlt)
    clear hcs mv hru hbl
    generalize p.ls[k]?.getD nilL=x at *
    go_upto_region 5 with fail
    have n2:=ξn wr (.cells #[.int .i64 x.id,.int .i64 x.st,.slice au nu cu,.int .i64 x.fi,.int .i64 x.ct] 86)
    have HB5:=ξh ((ξb wr.heap.size wr).alloc (ξr _) (.cells #[.int .i64 x.id,.int .i64 x.st,.slice au nu cu,.int .i64 x.fi,.int .i64 x.ct] 86))
    generalize wr.alloc (.cells #[.int .i64 x.id,.int .i64 x.st,.slice au nu cu,.int .i64 x.fi,.int .i64 x.ct] 86)=w5 at *
    have t0:=blkc n2 (j:=0) (u:= .int .i64 x.id) rfl
    have t1:=blkc n2 (j:=1) (u:= .int .i64 x.st) rfl
    have t2:=blkc n2 (j:=2) (u:= .slice au nu cu) rfl
    have t3:=blkc n2 (j:=3) (u:= .int .i64 x.fi) rfl
    have t4:=blkc n2 (j:=4) (u:= .int .i64 x.ct) rfl
    have HSS:=ξh (fun(w':World) (hb:Below w5.heap.size w5 w')=>show w'.cell? ⟨bx,2,none⟩=some (.slice a7 k c7)∧w'.cell? ⟨wr.heap.size,0,none⟩=some (.int .i64 x.id)∧w'.cell? ⟨wr.heap.size,1,none⟩=some (.int .i64 x.st)∧w'.cell? ⟨wr.heap.size,2,none⟩=some (.slice au nu cu)∧w'.cell? ⟨wr.heap.size,3,none⟩=some (.int .i64 x.fi)∧w'.cell? ⟨wr.heap.size,4,none⟩=some (.int .i64 x.ct) from
     have hz:∀j v,w5.cell? ⟨wr.heap.size,j,none⟩=some v→w'.cell? ⟨wr.heap.size,j,none⟩=some v:=fun j v h=>(hb.cell (p:=⟨_,j,none⟩) (by have:=(ξa n2).1;exact this)).trans h
     ⟨blkc (ξA (ξA HK.out HB5.out) hb) rfl,hz _ _ t0,hz _ _ t1,hz _ _ t2,hz _ _ t3,hz _ _ t4⟩)
    have HK5:=ξh (ξA HK.out HB5.out)
    have HG5:=ξh (HG.below HB5.out)
    have hs5:bx+1≤w5.heap.size:=ξs HS.out HB5.size
    have HRU5:=ξh (fun(w':World) (hb:Below w5.heap.size w5 w')=>HRU.out w' (HB5.trans (hb.mono HB5.size)))
    have HBW:=ξh (HB.trans (HB5.mono (ξs (Nat.le_succ _) HS.out)))
    clear t0 t1 t2 t3 t4 n2 e0 e1 e2 e3 e4
    refine ξH [0,1,2,3,4,5,6,7,8,9,10,11] (S:=fun w'=>w'.cell? ⟨bx,2,none⟩=some (.slice a7 k c7)∧w'.cell? ⟨wr.heap.size,0,none⟩=some (.int .i64 x.id)∧w'.cell? ⟨wr.heap.size,1,none⟩=some (.int .i64 x.st)∧w'.cell? ⟨wr.heap.size,2,none⟩=some (.slice au nu cu)∧w'.cell? ⟨wr.heap.size,3,none⟩=some (.int .i64 x.fi)∧w'.cell? ⟨wr.heap.size,4,none⟩=some (.int .i64 x.ct)) (by kernel_rfl) (HSS.out _ (ξb _ _).drew) (fun hH=> ?_)
    refine hlF 0 rfl hH ?_
    try simp only[Act.put,hlA,hlB,hlC]
    refine hlF 1 rfl hH ?_
    try simp only[Act.put,hlA,hlB,hlC]
    refine hlF 2 rfl hH ?_
    try simp only[Act.put,hlA,hlB,hlC]
    refine hlF 3 rfl hH ?_
    try simp only[Act.put,hlA,hlB,hlC]
    refine hlF 4 rfl hH ?_
    try simp only[Act.put,hlA,hlB,hlC]
    refine hlF 5 rfl hH ?_
    try simp only[Act.put,hlA,hlB,hlC]
    refine hlF 7 rfl hH ?_
    try simp only[Act.put,hlA,hlB,hlC]
    refine hlF 8 rfl hH ?_
    try simp only[Act.put,hlA,hlB,hlC]
    refine ξB (rs:=[6]) (by kernel_rfl) (by simp) ?_
    refine AllReadyL.cons rfl (fun KK hKK=> ?_) AllReadyL.nil
    go_simp
    go_at_call 160
    refine(ξca (.slice au nu cu) x.st x.fb _ (HRU5.out _ (ξb _ _).drew) HX.out).mono ?_
    rintro e w23 ⟨v23,rfl,o23,b23⟩
    have B23:Below w5.heap.size w5 w23:=(ξb w5.heap.size w5).drew.trans b23
    have O23:=ξh o23
    have H23:=ξh (ownP_one o23)
    clear o23 b23
    refine hKK.out _ _ (HSS.out _ B23) (fun hH=> ?_)
    clear hKK KK
    try simp only[Act.put,hlA,hlB,hlC]
    refine hlF 9 rfl hH ?_
    try simp only[Act.put,hlA,hlB,hlC]
    refine ξB (rs:=[10]) (by kernel_rfl) (by simp) ?_
    refine AllReadyL.cons rfl (fun KK hKK=> ?_) AllReadyL.nil
    go_simp
    have B27:=B23.alloc B23.size (.cells #[.int .i64 x.id,.int .i64 x.st,v23,.int .i64 x.fi,.int .i64 x.ct] 86)
    refine hKK.out _ _ (HSS.out _ B27) (fun hH=> ?_)
    clear hKK KK
    try simp only[Act.put,hlA,hlB,hlC]
    refine ξG 11 rfl (by kernel_rfl) (by kernel_rfl) (fun KK hKK=> ?_)
    refine step_of_list rfl ?_
    refine ξcq rfl (.tmp 18) (.tmp 27) 73 86 rfl Tryz.underlying73 (.agg #[.int .i64 0,.int .i64 0,.slice none 0 0,.int .i64 0,.int .i64 0]) 5 56 Tryz.infoLgtI rfl (by decide) (by decide) (bx+1) k (.slice a7 k c7) _ (lgtD x) (by rfl) HG5.out hs5 B23 [.int .i64 x.id,.int .i64 x.st,v23,.int .i64 x.fi,.int .i64 x.ct] (newLgt O23.out) rfl (fun z hz=>by simp only[List.mem_cons,List.not_mem_nil,or_false] at hz;rcases hz with e | e | e | e | e <;> rw[e] <;> first | rfl | exact H23.out) (by rfl) (by omega) ?_
    intro v28 w28 G28 g28 l28
    unfold wpList
    refine⟨rfl,?_⟩
    refine hKK.out _ _ ?_
    clear hKK KK
    try simp only[Act.put,hlA,hlB,hlC]
    obtain⟨-,a8,c8,rfl⟩:=G28.form
    have x8:=(g28.block bx (ξq (by omega) B23.size) (fun e=>by have:=(HG5.own _ e.symm).1;omega)).trans (ξA HK5.out B23)
    have f0:w28.frozen? ⟨bx,2,none⟩=false:=ξz _ _ _ _ _ x8
    have y0:=blkc x8 (j:=2) rfl
    refine ξG 12 rfl (by kernel_rfl) (by kernel_rfl) (fun KK hKK=> ?_)
    go_simp
    refine hKK.out _ _ ?_
    clear hKK KK
    try simp only[Act.put,hlA,hlB,hlC]
    refine ξG 13 rfl (by kernel_rfl) (by kernel_rfl) (fun KK hKK=> ?_)
    go_simp
    refine hKK.out _ _ ?_
    clear hKK KK
    try simp only[Act.put,hlA,hlB,hlC]
    refine ξS (by kernel_rfl) ?_ _
    rotate_left 1
    have q9:=ξe w28 bx 2 _ 75 (.slice a8 (k+1) c8) x8
    have o9:∀j,j≠bx→(w28.setCell ⟨bx,2,none⟩ (.slice a8 (k+1) c8)).heap[j]?= w28.heap[j]?:=fun j hj=>ξm _ ⟨bx,2,none⟩ j _ hj
    have HK9:=ξh (show(w28.setCell ⟨bx,2,none⟩ (.slice a8 (k+1) c8)).heap[bx]?= some (.cells #[.slice a5 n5 c5,.slice a6 n6 c6,.slice a8 (k+1) c8] 75) from by rw[q9];simp)
    have HG9:=ξh (show Grw (w28.setCell ⟨bx,2,none⟩ (.slice a8 (k+1) c8)) (bx+1) 86 5 (.slice a8 (k+1) c8) (k+1) ((p.ls.take (k+1)).flatMap lgtD) from by rw[HTX.out];exact G28.keepP fun j hj _=>o9 j (by omega))
    have hb28:Below bx w3 w28:=Below.grown (HBW.trans (B23.mono (by omega))) g28 (by have:=B23.size;omega) (fun q hq=>by have:=(HG5.own _ hq).1;omega)
    have HB9:=ξh (hb28.setCell (p:=⟨bx,2,none⟩) (ξr _) (.slice a8 (k+1) c8))
    have HS9:=ξh (show bx+1≤(w28.setCell ⟨bx,2,none⟩ (.slice a8 (k+1) c8)).heap.size from by have:=(ξa q9).1;omega)
    generalize w28.setCell ⟨bx,2,none⟩ (.slice a8 (k+1) c8)=w9 at *
    clear q9 o9 hb28 g28 l28 G28 x8 f0 y0 B23 B27
    go_wp2
    go_roundw
    exact⟨k+1,a8,c8,by omega,by simp,HK9.out,HG9.out,HB9.out,HS9.out⟩
    simp[intOf];omega
  · have hltI:¬(k:Int)<(m3:Int):=by omega
    obtain rfl:m3=k:=by omega
    have HG0:=ξh (HTA.out▸HG.out)
    have HO9:=ξh (HO.keepP fun j hj=>by
     have h1:=HLT.out j hj
     exact HB.block j h1.2)
    have HK1:=ξh (show wr.heap[w.heap.size+1]?= some (.cells #[.slice none 0 0,.slice none 0 0,.slice none 0 0] 75) from(HB.block _ (by have:=HZ3.out;omega)).trans K13.out)
    have HBW:=ξh (show Below w.heap.size w wr from HB3.trans (HB.mono (by have:=HZ3.out;omega)))
    have y0:=blkc HK.out (j:=0) (u:= .slice a5 n5 c5) rfl
    have y1:=blkc HK.out (j:=1) (u:= .slice a6 n6 c6) rfl
    have y2:=blkc HK.out (j:=2) (u:= .slice a7 m3 c7) rfl
    clear K0 K03 K1 K13 HB2 HCN HNT HFB HTK
    have z0:=blkc HK1.out (j:=0) (u:= .slice none 0 0) rfl
    have z1:=blkc HK1.out (j:=1) (u:= .slice none 0 0) rfl
    have z2:=blkc HK1.out (j:=2) (u:= .slice none 0 0) rfl
    have f0:wr.frozen? ⟨w.heap.size+1,0,none⟩=false:=ξz _ _ _ _ _ HK1.out
    have f1:wr.frozen? ⟨w.heap.size+1,1,none⟩=false:=ξz _ _ _ _ _ HK1.out
    have f2:wr.frozen? ⟨w.heap.size+1,2,none⟩=false:=ξz _ _ _ _ _ HK1.out
    obtain⟨q9,o9,s9,b9⟩:=ξaq (.slice a5 n5 c5) (.slice a6 n6 c6) (.slice a7 m3 c7) HK1.out
    have HOT:=ξh o9
    have HZ8:=ξh s9
    have HB8:=ξh (b9 w.heap.size w (by omega) HBW.out)
    have HQ9:=ξh q9
    clear q9 o9 s9 b9
    go_wp2_with fail
    generalize ((wr.setCell ⟨w.heap.size+1,0,none⟩ (.slice a5 n5 c5)).setCell ⟨w.heap.size+1,1,none⟩ (.slice a6 n6 c6)).setCell ⟨w.heap.size+1,2,none⟩ (.slice a7 m3 c7)=w9 at *
    have t0:=blkc HQ9.out (j:=0) (u:= .slice a5 n5 c5) rfl
    have t1:=blkc HQ9.out (j:=1) (u:= .slice a6 n6 c6) rfl
    have t2:=blkc HQ9.out (j:=2) (u:= .slice a7 m3 c7) rfl
    rw[HNP.out]
    exact bodyPost_ret (v:= .agg #[.slice a5 n5 c5,.slice a6 n6 c6,.slice a7 m3 c7]) (by simp[results,Tryz.results116,go_sem,t0,t1,t2]) rfl ⟨_,_,_,bx+1,fp,rfl,⟨HO9.keepP fun j hj=>HOT.out j (by have:=HLT.out j hj;have:=HZ.out;omega),HN.out,fun j hj=>by have:=HLT.out j hj;have:=HZ.out;omega,⟨by have:=HZ3.out;omega,by have:=HZ8.out;have:=HS.out;omega⟩,by rw[HN3.out];exact HG0.keepP fun j hj _=>HOT.out j (by have:=HZ3.out;omega)⟩,HB8.out⟩
theorem lgs_take (ls:List Lgt) (k:Nat):(ls.flatMap lgtD).take (k*5)=(ls.take k).flatMap lgtD:=by
 induction ls generalizing k with
 | nil=>simp
 | cons a t ih=>
   cases k with
   | zero=>simp
   | succ k=>
     rw[List.flatMap_cons,List.take_succ_cons,List.flatMap_cons,List.take_append,←ih k]
     have h5:(lgtD a).length=5:=rfl
     rw[List.take_of_length_le (by rw[h5];omega),h5,show(k+1)*5-5=k*5 by omega]
theorem lgs_drop (ls:List Lgt) (k:Nat):(ls.flatMap lgtD).drop (k*5)=(ls.drop k).flatMap lgtD:=by
 induction ls generalizing k with
 | nil=>simp
 | cons a t ih=>
   cases k with
   | zero=>simp
   | succ k=>
     rw[List.flatMap_cons,List.drop_succ_cons,List.drop_append,←ih k]
     have h5:(lgtD a).length=5:=rfl
     rw[List.drop_of_length_le (by rw[h5];omega),h5,show(k+1)*5-5=k*5 by omega,List.nil_append]
theorem putL_at (x:Lgt):∀(ls:List Lgt) (k:Nat),k≤ls.length→(∀j,j<k→(ls[j]?.getD nilL).id<x.id)→(k<ls.length→ ¬(ls[k]?.getD nilL).id<x.id)→putL ls x=ls.take k++x::ls.drop k:=by
 intro ls
 induction ls with
 | nil=>intro k hk _ _;have:k=0:=by simpa using hk
        subst this;simp[putL]
 | cons a t ih=>
   intro k hk h1 h2
   cases k with
   | zero=>
     have h:=h2 (by simp)
     simp only[List.getElem?_cons_zero,Option.getD_some] at h
     unfold putL
     rw[List.takeWhile_cons_of_neg (by simpa using h),List.dropWhile_cons_of_neg (by simpa using h)]
     simp
   | succ k=>
     have h:=h1 0 (by omega)
     simp only[List.getElem?_cons_zero,Option.getD_some] at h
     have hr:=ih k (by simpa using hk) (fun j hj=>by have:=h1 (j+1) (by omega);simpa using this) (fun hlt=>by have:=h2 (by simpa using hlt);simpa using this)
     unfold putL at hr ⊢
     rw[List.takeWhile_cons_of_pos (by simpa using h),List.dropWhile_cons_of_pos (by simpa using h),List.cons_append,hr]
     simp
theorem putL_flat {ls:List Lgt} {x:Lgt} {k:Nat} (hk:k≤ls.length) (h1:∀j,j<k→(ls[j]?.getD nilL).id<x.id) (h2:k<ls.length→ ¬(ls[k]?.getD nilL).id<x.id):
 (putL ls x).flatMap lgtD=(ls.flatMap lgtD).take (k*5)++(lgtD x++(ls.flatMap lgtD).drop (k*5))∧(putL ls x).length=ls.length+1:=by
 rw[putL_at x ls k hk h1 h2,lgs_take,lgs_drop]
 refine⟨by simp,by simp;omega⟩
theorem get3 {α:Type} (a b c:List α) (m:Nat):(a++(b++c))[m]?= if m<a.length then a[m]? else if m<a.length+b.length then b[m-a.length]? else c[m-a.length-b.length]?:=by
 rw[List.getElem?_append]
 split
 · rfl
 · rw[List.getElem?_append]
   split
   · rw[if_pos (by omega)]
   · rw[if_neg (by omega)]
theorem lgt_one {w:World} {ls:List Lgt} {us:List Value} {fs:List (List Nat)} (h2:us.length=(ls.flatMap lgtD).length) (h3:fs.length=(ls.flatMap lgtD).length) (h4:∀(j:Nat) (d:Dt) (u:Value) (f:List Nat),(ls.flatMap lgtD)[j]?= some d→us[j]?= some u→fs[j]?= some f→Odt w d u f):∀u∈us,u.oneCell'=true:=by
 intro u hu
 obtain⟨j,hj⟩:=List.mem_iff_getElem?.1 hu
 have hl:j<us.length:=(ξl hj).1
 have hd:=ξg (show j<(ls.flatMap lgtD).length by omega)
 have ho:=h4 j _ u _ hd hj (ξg (show j<fs.length by omega))
 obtain⟨x,-,hx⟩:=List.mem_flatMap.1 (ξj (show j<(ls.flatMap lgtD).length by omega))
 generalize (ls.flatMap lgtD)[j]=d at *
 simp only[lgtD,List.mem_cons,List.not_mem_nil,or_false] at hx
 rcases hx with rfl | rfl | rfl | rfl | rfl
 · rw[ξaC ho.rd];rfl
 · rw[ξaC ho.rd];rfl
 · obtain⟨a,n,cap,rfl,-⟩:=ho.rd.opn
   rfl
 · rw[ξaC ho.rd];rfl
 · rw[ξaC ho.rd];rfl
structure GrP (w:World) (base:Nat) (v:Value) (us:List Value) (fs:List (List Nat)) (ds:List Dt):Prop where
 ul:us.length=ds.length
 fl:fs.length=ds.length
 el:∀(j:Nat) (d:Dt) (u:Value) (f:List Nat),ds[j]?= some d→us[j]?= some u→fs[j]?= some f→Odt w d u f
 nd:fs.flatten.Nodup
 lo:∀k∈fs.flatten,base≤k
 ow:∀g,v.ownBlock=some g→g ∉ fs.flatten
theorem GrP.lt {w:World} {base:Nat} {v:Value} {us:List Value} {fs:List (List Nat)} {ds:List Dt} (h:GrP w base v us fs ds):∀k∈fs.flatten,k<w.heap.size:=Grw.flt h.ul h.fl h.el
theorem Grw.parts {w:World} {base size n:Nat} {T:TypeId} {v:Value} {ds:List Dt} (h:Grw w base T size v n ds):∃us fs,w.ownsRow base T size v n us∧GrP w base v us fs ds:=by
 obtain⟨us,fs,r1,r2,r3,r4,r5,r6,r7⟩:=h
 exact⟨us,fs,r1,⟨r2,r3,r4,r5,r6,r7⟩⟩
theorem ξaD {w w':World} {base:Nat} {e:TypeId} {size:Nat} {v:Value} {n:Nat} {xs:List Value} (h:w.ownsRow base e size v n xs) (hk:∀g,v.ownBlock=some g→w'.heap[g]?= w.heap[g]?):w'.ownsRow base e size v n xs:=by
 refine⟨h.1,?_⟩
 rcases h.2 with h2 | ⟨g,cap,cur,rfl,q1,q2,q3⟩
 · exact .inl h2
 · exact .inr ⟨g,cap,cur,rfl,q1,by rw[hk g rfl];exact q2,q3⟩
theorem GrP.ins {w w2 w3:World} {base lo size n' p:Nat} {T:TypeId} {v v':Value} {ds ds':List Dt} {news us:List Value} {fs:List (List Nat)} (h:GrP w base v us fs ds)
 (hv:∀g,v.ownBlock=some g→g<w.heap.size) (hbb:w.heap.size≤lo) (hbl:base≤lo) (hls:lo≤w2.heap.size)
 (hN:Newd w2 lo news ds') (hr:w3.ownsRow base T size v' n' (us.take p++(news++us.drop p))) (hp:p≤ds.length)
 (hk1:∀k,base≤k→k<w.heap.size→v.ownBlock≠some k→w3.heap[k]?= w.heap[k]?) (hk2:∀k,lo≤k→k<w2.heap.size→w3.heap[k]?= w2.heap[k]?) (hgg:v'.ownBlock=v.ownBlock∨ ∃g,v'.ownBlock=some g∧w2.heap.size≤g):
 Grw w3 base T size v' n' (ds.take p++(ds'++ds.drop p)):=by
 obtain⟨h2,h3,h4,h5,h6,h7⟩:=h
 obtain⟨fs',k1,k2,k3,k4,k5⟩:=hN
 have hlt:∀k∈fs.flatten,k<w.heap.size:=Grw.flt h2 h3 h4
 have hlt':∀k∈fs'.flatten,k<w2.heap.size:=Grw.flt k1 k2 k3
 have hkold:∀k∈fs.flatten,w3.heap[k]?= w.heap[k]?:=fun k hk=>hk1 k (h6 k hk) (hlt k hk) (fun e=>h7 k e hk)
 have hknew:∀k∈fs'.flatten,w3.heap[k]?= w2.heap[k]?:=fun k hk=>hk2 k (k5 k hk) (hlt' k hk)
 have hperm:(fs.take p++(fs'++fs.drop p)).flatten.Perm (fs++fs').flatten:=by
  refine List.Perm.flatten ?_
  have e:fs++fs'=fs.take p++(fs.drop p++fs'):=by rw[←List.append_assoc,List.take_append_drop]
  rw[e]
  exact List.Perm.append_left _ List.perm_append_comm
 have hold:∀(j:Nat) (d:Dt) (u:Value) (f:List Nat),ds[j]?= some d→us[j]?= some u→fs[j]?= some f→Odt w3 d u f:=fun j d u f e1 e2 e3=>
  (h4 j d u f e1 e2 e3).kept fun k hk=>hkold k (List.mem_flatten.2 ⟨f,List.mem_of_getElem? e3,hk⟩)
 refine⟨us.take p++(news++us.drop p),fs.take p++(fs'++fs.drop p),hr,by simp[h2,k1],by simp[h3,k2],fun j d u f e1 e2 e3=> ?_,?_,fun k hk=> ?_,fun k hk hm=> ?_⟩
 · rw[get3] at e1 e2 e3
   have l1:(ds.take p).length=p:=by simp;omega
   have l2:(us.take p).length=p:=by simp;omega
   have l3:(fs.take p).length=p:=by simp;omega
   rw[l1] at e1;rw[l2,k1] at e2;rw[l3,k2] at e3
   split at e1
   · rename_i hj
     rw[if_pos hj] at e2 e3
     rw[List.getElem?_take_of_lt hj] at e1 e2 e3
     exact hold j d u f e1 e2 e3
   · rename_i hj
     rw[if_neg hj] at e2 e3
     split at e1
     · rename_i hj2
       rw[if_pos hj2] at e2 e3
       exact(k3 _ d u f e1 e2 e3).kept fun k hk=>hknew k (List.mem_flatten.2 ⟨f,List.mem_of_getElem? e3,hk⟩)
     · rename_i hj2
       rw[if_neg hj2] at e2 e3
       rw[List.getElem?_drop] at e1 e2 e3
       exact hold _ d u f e1 e2 e3
 · refine hperm.nodup_iff.2 ?_
   rw[List.flatten_append,List.nodup_append]
   exact⟨h5,k4,fun a ha b hb e=>by have:=hlt a ha;have:=k5 b hb;omega⟩
 · have hk:=hperm.mem_iff.1 hk
   rw[List.flatten_append,List.mem_append] at hk
   rcases hk with hk | hk
   · exact h6 k hk
   · have:=k5 k hk;omega
 · have hm:=hperm.mem_iff.1 hm
   rw[List.flatten_append,List.mem_append] at hm
   rcases hgg with e | ⟨g,e,hle⟩
   · rw[e] at hk
     rcases hm with hm | hm
     · exact h7 k hk hm
     · have:=hv k hk;have:=k5 k hm;omega
   · rw[e] at hk
     obtain rfl:=ξo hk
     rcases hm with hm | hm
     · have:=hlt g hm;omega
     · have:=hlt' g hm;omega
theorem GrP.del {w w3:World} {base size n n' p q:Nat} {T:TypeId} {v v':Value} {ds:List Dt} {us:List Value} {fs:List (List Nat)} (h:GrP w base v us fs ds)
 (hr:w3.ownsRow base T size v' n' (us.take p++us.drop q)) (hp:p≤q) (hq:q≤ds.length) (hk1:∀k,base≤k→k<w.heap.size→v.ownBlock≠some k→w3.heap[k]?= w.heap[k]?) (hgg:v'.ownBlock=v.ownBlock):
 Grw w3 base T size v' n' (ds.take p++ds.drop q):=by
 obtain⟨h2,h3,h4,h5,h6,h7⟩:=h
 have hlt:∀k∈fs.flatten,k<w.heap.size:=Grw.flt h2 h3 h4
 have hold:∀(j:Nat) (d:Dt) (u:Value) (f:List Nat),ds[j]?= some d→us[j]?= some u→fs[j]?= some f→Odt w3 d u f:=fun j d u f e1 e2 e3=>
  (h4 j d u f e1 e2 e3).kept fun k hk=>by
    have hm:=List.mem_flatten.2 ⟨f,List.mem_of_getElem? e3,hk⟩
    exact hk1 k (h6 k hm) (hlt k hm) (fun e=>h7 k e hm)
 have hsub:(fs.take p++fs.drop q).Sublist fs:=by
  conv=>rhs;rw[←List.take_append_drop p fs]
  refine List.Sublist.append_left ?_ _
  rw[show q=p+(q-p) by omega,←List.drop_drop]
  exact List.drop_sublist _ _
 have hsf:(fs.take p++fs.drop q).flatten.Sublist fs.flatten:=by
  rw[List.flatten_append]
  conv=>rhs;rw[←List.take_append_drop p fs,List.flatten_append]
  refine List.Sublist.append_left ?_ _
  conv=>rhs;rw[←List.take_append_drop (q-p) (fs.drop p),List.drop_drop,show p+(q-p)=q by omega,List.flatten_append]
  exact List.sublist_append_right _ _
 refine⟨us.take p++us.drop q,fs.take p++fs.drop q,hr,by simp[h2],by simp[h3],fun j d u f e1 e2 e3=> ?_,hsf.nodup h5,fun k hk=>h6 k (hsf.subset hk),fun k hk hm=>h7 k (by rw[←hgg];exact hk) (hsf.subset hm)⟩
 rw[List.getElem?_append] at e1 e2 e3
 have l1:(ds.take p).length=p:=by simp;omega
 have l2:(us.take p).length=p:=by simp;omega
 have l3:(fs.take p).length=p:=by simp;omega
 rw[l1] at e1;rw[l2] at e2;rw[l3] at e3
 split at e1
 · rename_i hj
   rw[if_pos hj] at e2 e3
   rw[List.getElem?_take_of_lt hj] at e1 e2 e3
   exact hold j d u f e1 e2 e3
 · rename_i hj
   rw[if_neg hj] at e2 e3
   rw[List.getElem?_drop] at e1 e2 e3
   exact hold _ d u f e1 e2 e3
theorem ξaJ {B:Nat} {a w:World} (h:Below B a w) (n:Nat):Below B a (w.drewN n):=⟨h.os,h.tape,h.output,h.size,h.block⟩
theorem ownP_slice {w:World} {lo:Nat} {v:Value} {fb:List Int} (h:Own w lo v fb):∃a n c,v= .slice a n c:=by
 rcases h with h1 | ⟨g,off,cap,cur,h1,-⟩
 · exact⟨_,_,_,h1.1⟩
 · exact⟨_,_,_,h1⟩
theorem own_keep {w w':World} {lo:Nat} {v:Value} {fb:List Int} (h:Own w lo v fb) (hk:∀k,lo≤k→k<w.heap.size→w'.heap[k]?= w.heap[k]?):Own w' lo v fb:=by
 rcases h with h1 | ⟨g,off,cap,cur,h1,h2,⟨T,h3⟩,h4⟩
 · exact .inl h1
 · exact .inr ⟨g,off,cap,cur,h1,h2,⟨T,by rw[hk g h2 (ξa h3).1];exact h3⟩,h4⟩
theorem set2_facts {w:World} {b:Nat} {T:TypeId} {x0 x1 x2 x3 x4:Value} (x y:Value) (h:w.heap[b]?= some (.cells #[x0,x1,x2,x3,x4] T (0,0))):
 ((w.setCell ⟨b,1,none⟩ x).setCell ⟨b,2,none⟩ y).heap[b]?= some (.cells #[x0,x,y,x3,x4] T (0,0))∧
 (∀k,k≠b→((w.setCell ⟨b,1,none⟩ x).setCell ⟨b,2,none⟩ y).heap[k]?= w.heap[k]?)∧
 ((w.setCell ⟨b,1,none⟩ x).setCell ⟨b,2,none⟩ y).heap.size=w.heap.size∧
 ∀(B:Nat) (u:World),B≤b→Below B u w→Below B u ((w.setCell ⟨b,1,none⟩ x).setCell ⟨b,2,none⟩ y):=by
 have q1:=ξe w b 1 _ T x h
 have q2:=ξe _ b 2 _ T y q1
 refine⟨by rw[q2];simp,fun k hk=> ?_,by simp,fun B u hB hb=> ?_⟩
 · rw[ξm _ ⟨b,2,none⟩ k _ hk,ξm _ ⟨b,1,none⟩ k _ hk]
 · exact(hb.setCell (p:=⟨b,1,none⟩) hB x).setCell (p:=⟨b,2,none⟩) hB y
def lgtV (x:Lgt) (fv:Value):Value:= .agg #[.int .i64 x.id,.int .i64 x.st,fv,.int .i64 x.fi,.int .i64 x.ct]
theorem withLight_any (v fv:Value) (p:Pln) (x:Lgt) (w:World) (h:PlnR w v p) (hx:Rd w fv x.fb) (hxl:x.fb.length≤1000000) (hn1:p.n.ns.length≤1048576) (hn2:p.n.fs.length≤1048576) (hl:p.ls.length≤1000) (hfb:∀x∈p.ls,x.fb.length≤1000000):
 Calls Tryz.prog 115 #[v,lgtV x fv] w (MkpP ⟨p.n,putL p.ls x⟩ w):=by
 obtain⟨NP,hNP⟩:∃NP,NP=MkpP ⟨p.n,putL p.ls x⟩ w:=⟨_,rfl⟩
 rw[←hNP]
 have HPU:=ξh (fun k (h0:k≤p.ls.length) h1 h2=>@putL_flat p.ls x k h0 h1 h2)
 have HCN:=ξh (fun w' (hb:Below w.heap.size w w')=>ξbB v p w' (h.behind hb) hn1 hn2 hl hfb)
 obtain⟨u1,u2,u3,rfl,r1,r2,r3,hsm⟩:=h
 have hnet:NetR w (.agg #[u1,u2]) p.n:=⟨u1,u2,rfl,r1,r2,hsm⟩
 obtain⟨⟨a1,m1,c1,rfl⟩,a2,m2,c2,rfl⟩:=ξF hnet
 obtain⟨a3,m3,c3,rfl,HN3,hc3,hm3,ha3⟩:=ξa1 r3
 have HA:=ξh ha3
 have HRX:=ξh (fun(w':World) (hb:Below w.heap.size w w')=>show Rd w' fv x.fb from hx.belowAll hb)
 have HXL:=ξh hxl
 obtain⟨ax,nx,cx,rfl⟩:∃au nu cu,fv= .slice au nu cu:=by
  obtain⟨au,cu,hv,-⟩:=ξaI hx
  exact⟨_,_,_,hv⟩
 have hl3:m3≤1000:=by rw[←HN3.out];exact hl
 obtain⟨n,ls⟩:=p
 obtain⟨xi,xs,xf,xa,xc⟩:=x
 dsimp only[lgtV] at *
 have HB3:=ξh (ξal w (.cells #[.slice a1 m1 c1,.slice a2 m2 c2,.slice a3 m3 c3] 75) (.cells #[.int .i64 xi,.int .i64 xs,.slice ax nx cx,.int .i64 xa,.int .i64 xc] 86) (.cells #[.slice none 0 0,.slice none 0 0,.slice none 0 0] 75))
 have HNP:=ξh hNP
 clear r1 r2 r3 hsm hnet ha3 hfb hl hn1 hn2 hNP hx hxl
 go_enter Tryz.func115,Tryz.ntmps115
 go_wp2_with fail
 generalize ((w.alloc (.cells #[.slice a1 m1 c1,.slice a2 m2 c2,.slice a3 m3 c3] 75)).alloc (.cells #[.int .i64 xi,.int .i64 xs,.slice ax nx cx,.int .i64 xa,.int .i64 xc] 86)).alloc (.cells #[.slice none 0 0,.slice none 0 0,.slice none 0 0] 75)=w3 at *
 refine(HCN.out w3 HB3.1).mono ?_
 rintro e w4 ⟨u1,u2,u3,B,fp,rfl,hG,b4⟩
 obtain⟨b3,g0,g1,g2,hz3⟩:=HB3.out
 have K0:=ξh (ξA g0 b4)
 have K1:=ξh (ξA g1 b4)
 have K2:=ξh (ξA g2 b4)
 have HB4:=ξh (b3.trans (b4.mono b3.size))
 have HZ3:=ξh hz3
 obtain⟨a5,n5,c5,a6,n6,c6,e⟩:=hG.net.form
 simp only[Value.agg.injEq,Array.mk.injEq,List.cons.injEq,and_true] at e
 obtain⟨rfl,rfl⟩:=e
 obtain⟨-,a7,c7,e⟩:=hG.lig.form
 dsimp only at e
 rw[HN3.out] at e
 subst e
 have HG:=ξh hG
 have HBB:=ξh hG.bas
 clear hG b4 b3 g0 g1 g2 hz3
 go_wp2_with fail
 have k5:=ξn w4 (.cells #[.slice a5 n5 c5,.slice a6 n6 c6,.slice a7 m3 c7] 75)
 have b5:=(ξb w4.heap.size w4).alloc (ξr _) (.cells #[.slice a5 n5 c5,.slice a6 n6 c6,.slice a7 m3 c7] 75)
 have hz5:(w4.alloc (.cells #[.slice a5 n5 c5,.slice a6 n6 c6,.slice a7 m3 c7] 75)).heap.size=w4.heap.size+1:=by simp
 have HK5:=ξh k5
 have HB5:=ξh b5
 have HZ5:=ξh hz5
 clear k5 b5 hz5
 generalize w4.alloc (.cells #[.slice a5 n5 c5,.slice a6 n6 c6,.slice a7 m3 c7] 75)=w5 at *
 go_loopw [6] (fun i wr=>∃k:Nat,k≤m3∧i= .int .i64 k∧Hid (∀j,j<k→(ls[j]?.getD nilL).id<xi)∧Hid (Below w5.heap.size w5 wr)) (fun i _=>m3-(intOf i).toNat)
 case atStart=>exact⟨0,ξu _,rfl,fun j hj=>absurd hj (Nat.not_lt_zero j),ξb _ _⟩
 case round=>
  obtain⟨k,hk,rfl,HT,HB⟩:=hrel
  have HBW:=ξh (HB4.trans ((HB5.trans (HB.mono HB5.size)).mono HB4.size))
  have x0:wr.heap[w.heap.size]?= _:=(HB.block _ (by have:=HZ5.out;have:=HB4.size;omega)).trans (ξA K0.out HB5.out)
  have x1:wr.heap[w.heap.size+1]?= _:=(HB.block _ (by have:=(ξa K1.out).1;have:=HZ5.out;omega)).trans (ξA K1.out HB5.out)
  have y02:=blkc x0 (j:=2) (u:= .slice a3 m3 c3) rfl
  have y10:=blkc x1 (j:=0) (u:= .int .i64 xi) rfl
  clear x0 x1
  by_cases hlt:k<m3
  case' pos=>
   have hltI:(k:Int)<(m3:Int):=by omega
   obtain⟨b3,o3,rfl,hbl,hcs⟩:=HA.out (by omega)
   obtain⟨u,e0,-⟩:=hcs k hlt
   have e0:=(HBW.cell (p:=⟨b3,o3+k*5,none⟩) hbl).trans e0
   clear hcs hbl
   by_cases hd:(ls[k]?.getD nilL).id<xi
   · have HD:=ξh (show∀j,j<k+1→(ls[j]?.getD nilL).id<xi from fun j hj=>by
      rcases Nat.lt_succ_iff_lt_or_eq.1 hj with h | rfl
      · exact HT.out j h
      · exact hd)
     generalize (ls[k]?.getD nilL).id=yi at *
     go_wp2
     go_quiet (fail)
     go_wp2
     go_roundw
     exact⟨k+1,by omega,by simp,HD.out,ξaJ HB.out _⟩
     simp[intOf];omega
   have HPK:=ξh (HPU.out k (by rw[HN3.out];exact hk) HT.out (fun _=>by first | exact hd | exact Int.not_lt.1 hd))
   generalize (ls[k]?.getD nilL).id=yi at *
   go_wp2
   go_quiet (fail)
   rename_i nq
   have HB6:=ξh (ξaJ HB.out nq)
   generalize wr.drewN nq=w6 at *
   go_upto_region 4 with fail
   clear e0 hd
  case' neg=>
   have HPK:=ξh (HPU.out k (by rw[HN3.out];exact hk) HT.out (fun h=>absurd (by rw[HN3.out] at h;exact h) hlt))
   have hltI:¬(k:Int)<(m3:Int):=by omega
   go_wp2
   go_quiet (fail)
   rename_i nq
   have HB6:=ξh (ξaJ HB.out nq)
   generalize wr.drewN nq=w6 at *
   go_upto_region 4 with fail
  all_goals
   have HZL:=ξh (show w.heap.size+1+1+1≤w4.heap.size from by have:=HBB.out;have:=HZ3.out;omega)
   have HBX:=ξh (show Below w4.heap.size w4 w6 from HB5.trans (HB6.mono HB5.size))
   have HBW6:=ξh (HB4.trans (HBX.mono HB4.size))
   have hx1:w6.heap[w.heap.size+1]?= _:=ξA K1.out HBX.out
   have y10:=blkc hx1 (j:=0) (u:= .int .i64 xi) rfl
   have y11:=blkc hx1 (j:=1) (u:= .int .i64 xs) rfl
   have y12:=blkc hx1 (j:=2) (u:= .slice ax nx cx) rfl
   clear HB HBW HCN HA y02 hltI
   go_wp2_with fail
   refine(ξca _ xs xf w6 (HRX.out _ HBW6.out) HXL.out).mono ?_
   rintro e w7 ⟨v9,rfl,o7,b7⟩
   obtain⟨a9,n9,c9,rfl⟩:=ownP_slice o7
   have h7l:=ξA hx1 b7
   obtain⟨q8,o8,s8,b8⟩:=set2_facts (.int .i64 xs) (.slice a9 n9 c9) h7l
   have z1:=blkc h7l (j:=1) (u:= .int .i64 xs) rfl
   have z2:=blkc h7l (j:=2) (u:= .slice ax nx cx) rfl
   have f1:w7.frozen? ⟨w.heap.size+1,1,none⟩=false:=ξz _ _ _ _ _ h7l
   have f2:w7.frozen? ⟨w.heap.size+1,2,none⟩=false:=ξz _ _ _ _ _ h7l
   have HB7:=ξh b7
   have HS7:=ξh (b7.size)
   have HO7:=ξh o7
   have HQ8:=ξh q8
   have HO8:=ξh o8
   have HS8:=ξh s8
   have HB8:=ξh (b8 w.heap.size w (Nat.le_succ _) (HBW6.trans (b7.mono HBW6.size)))
   clear b7 o7 h7l q8 o8 s8 b8 hx1 y10 y11 y12
   go_upto_region 5 with fail
   generalize (w7.setCell ⟨w.heap.size+1,1,none⟩ (.int .i64 xs)).setCell ⟨w.heap.size+1,2,none⟩ (.slice a9 n9 c9)=w8 at *
   clear z1 z2 f1 f2
   have HK8:=ξh (show∀j,j≠w.heap.size+1→j<w6.heap.size→w8.heap[j]?= w6.heap[j]? from fun j h1 h2=>(HO8.out j h1).trans (HB7.block j h2))
   have hbx:w8.heap[w4.heap.size]?= _:=(HK8.out _ (by have:=HZL.out;omega) (by have:=HB6.size;have:=HZ5.out;omega)).trans (ξA HK5.out HB6.out)
   have HX8:=ξh hbx
   have y2:=blkc hbx (j:=2) (u:= .slice a7 m3 c7) rfl
   have z0:=blkc HQ8.out (j:=0) (u:= .int .i64 xi) rfl
   have z1:=blkc HQ8.out (j:=1) (u:= .int .i64 xs) rfl
   have z2:=blkc HQ8.out (j:=2) (u:= .slice a9 n9 c9) rfl
   have z3:=blkc HQ8.out (j:=3) (u:= .int .i64 xa) rfl
   have z4:=blkc HQ8.out (j:=4) (u:= .int .i64 xc) rfl
   clear hbx
   go_wp2_with fail
   have HV9:=ξh (ξn w8 (.cells #[.int .i64 xi,.int .i64 xs,.slice a9 n9 c9,.int .i64 xa,.int .i64 xc] 86))
   have HL9:=ξh (fun j (hj:j<w8.heap.size)=>heap_alloc_old w8 (.cells #[.int .i64 xi,.int .i64 xs,.slice a9 n9 c9,.int .i64 xa,.int .i64 xc] 86) hj)
   have HB9:=ξh (HB8.alloc HB8.size (.cells #[.int .i64 xi,.int .i64 xs,.slice a9 n9 c9,.int .i64 xa,.int .i64 xc] 86))
   have HS9:=ξh (show(w8.alloc (.cells #[.int .i64 xi,.int .i64 xs,.slice a9 n9 c9,.int .i64 xa,.int .i64 xc] 86)).heap.size=w8.heap.size+1 from by simp)
   clear y2 z0 z1 z2 z3 z4
   generalize hvb:w8.heap.size=vb at HV9 HS9 ⊢
   have HVB:=ξh hvb
   clear hvb
   generalize w8.alloc (.cells #[.int .i64 xi,.int .i64 xs,.slice a9 n9 c9,.int .i64 xa,.int .i64 xc] 86)=w9 at *
   obtain⟨us,fs,r4,gp⟩:=Grw.parts HG.lig
   dsimp only at r4 gp
   rw[HN3.out] at r4
   have hsz:w4.heap.size<w6.heap.size∧w6.heap.size≤w7.heap.size:=⟨by have:=HB6.size;have:=HZ5.out;omega,HS7.out⟩
   have hv7:∀g,(Value.slice a7 m3 c7).ownBlock=some g→B≤g∧g<w4.heap.size:=fun g hg=>r4.lt g hg
   have hk9:∀j,j≠w.heap.size+1→j<w6.heap.size→w9.heap[j]?= w6.heap[j]?:=fun j h1 h2=>(HL9.out j (by have:=HS8.out;omega)).trans (HK8.out j h1 h2)
   have hk4:∀j,j≠w.heap.size+1→j<w4.heap.size→w9.heap[j]?= w4.heap[j]?:=fun j h1 h2=>(hk9 j h1 (by omega)).trans (HBX.block j h2)
   have hzl:=HZL.out
   have hz3:=HZ3.out
   have hbb:=HBB.out
   have hs8:=HS8.out
   have hs9:=HS9.out
   have hvb:=HVB.out
   have r9:w9.ownsRow B 86 5 (.slice a7 m3 c7) m3 us:=ξaD r4 fun g hg=>hk4 g (by have:=hv7 g hg;omega) (hv7 g hg).2
   have hdl:(ls.flatMap lgtD).length=m3*5:=by rw[←gp.ul];exact r4.1
   have HGP:=ξh gp
   refine(insertL_any w9 B m3 k vb (.slice a7 m3 c7) us [.int .i64 xi,.int .i64 xs,.slice a9 n9 c9,.int .i64 xa,.int .i64 xc] r9 (by omega) hl3 hk rfl HV9.out (fun g hg=>by have:=hv7 g hg;omega) (fun z hz=>by simp only[List.mem_cons,List.not_mem_nil,or_false] at hz;rcases hz with e | e | e | e | e <;> rw[e] <;> rfl) (lgt_one gp.ul gp.fl gp.el)).mono ?_
   rintro e w10 ⟨v10,rfl,o10,g10,l10⟩
   obtain⟨a10,c10,rfl⟩:=rowf o10
   have hbx10:w10.heap[w4.heap.size]?= _:=(g10.block _ (by omega) (fun e=>by have:=hv7 _ e.symm;omega)).trans ((hk9 _ (by omega) hsz.1).trans (ξA HK5.out HB6.out))
   have hr10:w10.heap[w.heap.size+1+1]?= _:=(g10.block _ (by omega) (fun e=>by have:=hv7 _ e.symm;omega)).trans ((hk4 _ (by omega) (by omega)).trans K2.out)
   have q11:=ξe w10 w4.heap.size 2 _ 75 (.slice a10 (m3+1) c10) hbx10
   have o11:∀j,j≠w4.heap.size→(w10.setCell ⟨w4.heap.size,2,none⟩ (.slice a10 (m3+1) c10)).heap[j]?= w10.heap[j]?:=fun j hj=>ξm _ ⟨w4.heap.size,2,none⟩ j _ hj
   have s11:(w10.setCell ⟨w4.heap.size,2,none⟩ (.slice a10 (m3+1) c10)).heap.size=w10.heap.size:=by simp
   have b10:Below w.heap.size w w10:=Below.grown HB9.out g10 HB9.size (fun q hq=>by have:=hv7 q hq;omega)
   have HB11:=ξh (b10.setCell (p:=⟨w4.heap.size,2,none⟩) (by show w.heap.size≤w4.heap.size;omega) (.slice a10 (m3+1) c10))
   have f2:w10.frozen? ⟨w4.heap.size,2,none⟩=false:=ξz _ _ _ _ _ hbx10
   have y2:=blkc hbx10 (j:=2) (u:= .slice a7 m3 c7) rfl
   have HR10:=ξh hr10
   have HO11:=ξh o11
   have HQ11:=ξh (show(w10.setCell ⟨w4.heap.size,2,none⟩ (.slice a10 (m3+1) c10)).heap[w4.heap.size]?= some (.cells #[.slice a5 n5 c5,.slice a6 n6 c6,.slice a10 (m3+1) c10] 75) from by rw[q11];simp)
   have HS11:=ξh s11
   have HS10:=ξh g10.size
   have HG10:=ξh g10
   have HO10:=ξh o10
   have HL10:=ξh l10
   have HSZ:=ξh hsz
   have HV7:=ξh hv7
   have HKK9:=ξh hk9
   have HK4:=ξh hk4
   have HDL:=ξh hdl
   clear r4 gp hsz hv7 hk9 hk4 hzl hz3 hbb hs8 hs9 hvb r9 hdl o10 g10 l10 hbx10 hr10 q11 o11 s11 b10
   go_upto_region 6 with fail
   generalize w10.setCell ⟨w4.heap.size,2,none⟩ (.slice a10 (m3+1) c10)=w11 at *
   clear f2 y2
   have hr11:=(HO11.out _ (by have:=HZL.out;omega)).trans HR10.out
   obtain⟨q12,o12,s12,b12⟩:=ξaq (.slice a5 n5 c5) (.slice a6 n6 c6) (.slice a10 (m3+1) c10) hr11
   have y0:=blkc HQ11.out (j:=0) (u:= .slice a5 n5 c5) rfl
   have y1:=blkc HQ11.out (j:=1) (u:= .slice a6 n6 c6) rfl
   have y2:=blkc HQ11.out (j:=2) (u:= .slice a10 (m3+1) c10) rfl
   have z0:=blkc hr11 (j:=0) (u:= .slice none 0 0) rfl
   have z1:=blkc hr11 (j:=1) (u:= .slice none 0 0) rfl
   have z2:=blkc hr11 (j:=2) (u:= .slice none 0 0) rfl
   have f0:w11.frozen? ⟨w.heap.size+1+1,0,none⟩=false:=ξz _ _ _ _ _ hr11
   have f1:w11.frozen? ⟨w.heap.size+1+1,1,none⟩=false:=ξz _ _ _ _ _ hr11
   have f2:w11.frozen? ⟨w.heap.size+1+1,2,none⟩=false:=ξz _ _ _ _ _ hr11
   have HQ12:=ξh q12
   have HO12:=ξh o12
   have HS12:=ξh s12
   have HB12:=ξh (b12 w.heap.size w (by omega) HB11.out)
   clear hr11 q12 o12 s12 b12
   go_wp2_with fail
   generalize ((w11.setCell ⟨w.heap.size+1+1,0,none⟩ (.slice a5 n5 c5)).setCell ⟨w.heap.size+1+1,1,none⟩ (.slice a6 n6 c6)).setCell ⟨w.heap.size+1+1,2,none⟩ (.slice a10 (m3+1) c10)=w12 at *
   clear y0 y1 y2 z0 z1 z2 f0 f1 f2
   have t0:=blkc HQ12.out (j:=0) (u:= .slice a5 n5 c5) rfl
   have t1:=blkc HQ12.out (j:=1) (u:= .slice a6 n6 c6) rfl
   have t2:=blkc HQ12.out (j:=2) (u:= .slice a10 (m3+1) c10) rfl
   have hFIN:∀j,j≠w.heap.size+1+1→j≠w4.heap.size→w12.heap[j]?= w10.heap[j]?:=fun j h1 h2=>(HO12.out j h1).trans (HO11.out j h2)
   have hzl:=HZL.out
   have hz3:=HZ3.out
   have hbb:=HBB.out
   have hs8:=HS8.out
   have hs9:=HS9.out
   have hvb:=HVB.out
   have hsz:=HSZ.out
   have hs10:=HS10.out
   have hs11:=HS11.out
   have hs12:=HS12.out
   have hK12:∀j,B≤j∨(w3.heap.size≤j∧j<B)→j<w4.heap.size→(Value.slice a7 m3 c7).ownBlock≠some j→w12.heap[j]?= w4.heap[j]?:=fun j h0 h1 h2=>
    (hFIN j (by omega) (by omega)).trans ((HG10.block j (by omega) (fun e=>h2 e.symm)).trans (HK4.out j (by omega) h1))
   obtain⟨hp1,hp2⟩:=HPK.out
   have hlig:Grw w12 B 86 5 (.slice a10 (m3+1) c10) (m3+1) ((putL ls ⟨xi,xs,xf,xa,xc⟩).flatMap lgtD):=by
    rw[hp1]
    refine GrP.ins (w:=w4) (w2:=w9) (lo:=w6.heap.size) HGP.out (fun g hg=>(HV7.out g hg).2) (by omega) (by omega) (by omega) (newLgt (x:=⟨xi,xs,xf,xa,xc⟩) (own_keep HO7.out fun j h1 h2=>(HL9.out j (by omega)).trans (HO8.out j (by omega)))) (ξaD HO10.out fun g hg=> ?_) (by rw[HDL.out];omega) (fun j h0 h1 h2=>hK12 j (.inl h0) h1 h2) (fun j h0 h1=>(hFIN j (by omega) (by omega)).trans (HG10.block j h1 (fun e=>by have:=HV7.out _ e.symm;omega))) HL10.out
    rcases HL10.out with e | ⟨g',e,h⟩
    · rw[e] at hg
      have:=HV7.out g hg
      exact hFIN g (by omega) (by omega)
    · rw[e] at hg
      obtain rfl:=ξo hg
      exact hFIN _ (by omega) (by omega)
   rw[HNP.out]
   exact bodyPost_ret (v:= .agg #[.slice a5 n5 c5,.slice a6 n6 c6,.slice a10 (m3+1) c10]) (by simp[results,Tryz.results115,go_sem,t0,t1,t2]) rfl ⟨_,_,_,B,fp,rfl,⟨HG.net.keepP fun j hj=>by have:=HG.fpr j hj;exact hK12 j (.inr ⟨this.1,this.2⟩) (by omega) (fun e=>by have:=HV7.out j e;omega),HG.nod,fun j hj=>by have:=HG.fpr j hj;omega,⟨by omega,by omega⟩,by(try dsimp only);rw[hp2,HN3.out];exact hlig⟩,HB12.out⟩
end Go.Proofs.YtofcicomhnkocaaGreat
