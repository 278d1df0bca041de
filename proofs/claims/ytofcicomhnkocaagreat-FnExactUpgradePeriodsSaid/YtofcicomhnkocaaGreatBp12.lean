/- Joined: XCpq XStaP XBstP XPlgP XWlp. -/
import Derived.Test.YtofcicomhnkocaaGreatBp11
import Derived.Test.YtofcicomhnkocaaGreatBp01
import Derived.Test.YtofcicomhnkocaaGreatBp07
import Derived.Test.YtofcicomhnkocaaGreatBp06
import Derived.Test.YtofcicomhnkocaaGreatBp05
set_option linter.unusedVariables false
namespace Go.Proofs.YtofcicomhnkocaaGreat
set_option maxHeartbeats 12800000
open Go.RowKit Go.Sort
set_option maxRecDepth 100000
open Cpy
theorem Grw.keepP {w w':World} {base size n:Nat} {T:TypeId} {v:Value} {ds:List Dt} (h:Grw w base T size v n ds) (hk:∀k,base≤k→k<w.heap.size→w'.heap[k]?= w.heap[k]?):Grw w' base T size v n ds:=by
 obtain⟨us,fs,h1,h2,h3,h4,h5,h6,h7⟩:=h
 have hlt:=Grw.flt h2 h3 h4
 refine⟨us,fs,⟨h1.1,h1.2.imp id fun⟨g,cap,cur,k1,k2,k3,k4⟩=>⟨g,cap,cur,k1,k2,by rw[hk g k2 (Array.getElem?_eq_some_iff.1 k3).1];exact k3,k4⟩⟩,h2,h3,fun j d u f e1 e2 e3=> ?_,h5,h6,h7⟩
 refine(h4 j d u f e1 e2 e3).kept fun k hkf=> ?_
 have hm:k∈fs.flatten:=List.mem_flatten.2 ⟨f,List.mem_of_getElem? e3,hkf⟩
 exact hk k (h6 k hm) (hlt k hm)
theorem NetO.keepP {w w':World} {n:Net} {v:Value} {fp:List Nat} (h:NetO w n v fp) (hk:∀k∈fp,w'.heap[k]?= w.heap[k]?):NetO w' n v fp:=by
 obtain⟨x1,x2,f1,f2,e,h1,h2,rfl⟩:=h
 exact⟨x1,x2,f1,f2,e,h1.kept fun k h=>hk k (List.mem_append_left _ h),h2.kept fun k h=>hk k (List.mem_append_right _ h),rfl⟩
theorem set3_facts {w:World} {b:Nat} {T:TypeId} {x0 y0 z0:Value} (x y z:Value) (h:w.heap[b]?= some (.cells #[x0,y0,z0] T (0,0))):
 (((w.setCell ⟨b,0,none⟩ x).setCell ⟨b,1,none⟩ y).setCell ⟨b,2,none⟩ z).heap[b]?= some (.cells #[x,y,z] T (0,0))∧
 (∀k,k≠b→(((w.setCell ⟨b,0,none⟩ x).setCell ⟨b,1,none⟩ y).setCell ⟨b,2,none⟩ z).heap[k]?= w.heap[k]?)∧
 (((w.setCell ⟨b,0,none⟩ x).setCell ⟨b,1,none⟩ y).setCell ⟨b,2,none⟩ z).heap.size=w.heap.size∧
 ∀(B:Nat) (u:World),B≤b→Below B u w→Below B u (((w.setCell ⟨b,0,none⟩ x).setCell ⟨b,1,none⟩ y).setCell ⟨b,2,none⟩ z):=by
 have q1:=heap_setCell_same w b 0 _ T x h
 have q2:=heap_setCell_same _ b 1 _ T y q1
 have q3:=heap_setCell_same _ b 2 _ T z q2
 refine⟨by rw[q3];simp,fun k hk=> ?_,by simp,fun B u hB hb=> ?_⟩
 · rw[heap_setCell_other _ ⟨b,2,none⟩ k _ hk,heap_setCell_other _ ⟨b,1,none⟩ k _ hk,heap_setCell_other _ ⟨b,0,none⟩ k _ hk]
 · exact((hb.setCell (p:=⟨b,0,none⟩) hB x).setCell (p:=⟨b,1,none⟩) hB y).setCell (p:=⟨b,2,none⟩) hB z
structure PlG (w:World) (base B:Nat) (u1 u2 u3:Value) (p:Pln) (fp:List Nat):Prop where
 net:NetO w p.n (.agg #[u1,u2]) fp
 nod:fp.Nodup
 fpr:∀k∈fp,base≤k∧k<B
 bas:base≤B∧B≤w.heap.size
 lig:Grw w B 86 5 u3 p.ls.length (p.ls.flatMap lgtD)
theorem PlG.o {w:World} {base B:Nat} {u1 u2 u3:Value} {p:Pln} {fp:List Nat} (h:PlG w base B u1 u2 u3 p fp):∃fq,PlnO w p (.agg #[u1,u2,u3]) fq∧fq.Nodup∧ ∀k∈fq,base≤k∧k<w.heap.size:=by
 obtain⟨x1,x2,f1,f2,e,h1,h2,rfl⟩:=h.net
 simp only[Value.agg.injEq,Array.mk.injEq,List.cons.injEq,and_true] at e
 obtain⟨rfl,rfl⟩:=e
 obtain⟨f3,h3,h4,h5⟩:=h.lig.ofr
 refine⟨(f1++f2)++f3,⟨u1,u2,u3,f1,f2,f3,rfl,h1,h2,h3,rfl⟩,List.nodup_append.2 ⟨h.nod,h4,fun x hx y hy e=> ?_⟩,fun k hk=> ?_⟩
 · have:=(h.fpr x hx).2
   have:=h5 y hy
   omega
 · have hb:=h.bas
   rcases List.mem_append.1 hk with hk | hk
   · have:=h.fpr k hk;omega
   · have:=h5 k hk
     exact⟨by omega,h3.lt k hk⟩
theorem PlG.rd {w:World} {base B:Nat} {u1 u2 u3:Value} {p:Pln} {fp:List Nat} (h:PlG w base B u1 u2 u3 p fp) (hs:NetSm p.n):PlnR w (.agg #[u1,u2,u3]) p:=by
 obtain⟨fq,ho,-⟩:=h.o
 exact ho.rd hs
def MkpP (p:Pln) (w:World) (e:Ending) (w':World):Prop:=∃u1 u2 u3 B fp,e= .returned (.agg #[u1,u2,u3])∧PlG w' w.heap.size B u1 u2 u3 p fp∧Below w.heap.size w w'
theorem grw_nil (w:World) (base:Nat) (T:TypeId) (size:Nat):Grw w base T size (.slice none 0 0) 0 []:=
 ⟨[],[],⟨by simp,.inl ⟨rfl,rfl⟩⟩,rfl,rfl,(fun j d u f h=>by simp at h),List.nodup_nil,(fun k hk=>by simp at hk),(fun g _ hk=>by simp at hk)⟩
theorem ownP_one {w:World} {lo:Nat} {v:Value} {fb:List Int} (h:Own w lo v fb):v.oneCell'=true:=by
 rcases h with h1 | ⟨g,off,cap,cur,h1,-⟩
 · rw[h1.1];rfl
 · rw[h1];rfl
theorem newLgt {w:World} {lo:Nat} {x:Lgt} {v:Value} (h:Own w lo v x.fb):Newd w lo [.int .i64 x.id,.int .i64 x.st,v,.int .i64 x.fi,.int .i64 x.ct] (lgtD x):=by
 have h0:Newd w lo [v] [inD x.fb]:=Newd.one h.ofr
 obtain⟨fs,h1,h2,h3,h4,h5⟩:=h0
 refine⟨[[],[],fs[0]?.getD [],[],[]],rfl,rfl,fun j d u f e1 e2 e3=> ?_,?_,fun k hk=> ?_⟩
 · match j with
   | 0=>cases e1;cases e2;cases e3;exact .leaf _
   | 1=>cases e1;cases e2;cases e3;exact .leaf _
   | 2=>
     cases e1;cases e2;cases e3
     match fs,h2 with
     | [f],_=>exact h3 0 _ _ _ rfl rfl rfl
   | 3=>cases e1;cases e2;cases e3;exact .leaf _
   | 4=>cases e1;cases e2;cases e3;exact .leaf _
   | j+5=>simp[lgtD] at e1
 · match fs,h2 with
   | [f],_=>simpa using h4
 · match fs,h2 with
   | [f],_=>exact h5 k (by simpa using hk)
theorem copyPlan_any (v:Value) (p:Pln) (w:World) (h:PlnR w v p) (hn1:p.n.ns.length≤1048576) (hn2:p.n.fs.length≤1048576) (hl:p.ls.length≤1000) (hfb:∀x∈p.ls,x.fb.length≤1000000):
 Calls Tryz.prog 116 #[v] w (MkpP p w):=by
 obtain⟨NP,hNP⟩:∃NP,NP=MkpP p w:=⟨_,rfl⟩
 rw[←hNP]
 have HCN:=Lib.hid (fun u1 u2 w' (hb:Below w.heap.size w w') (hnet:NetR w (.agg #[u1,u2]) p.n)=>copyNetwork_any u1 u2 p.n w' (hnet.behind hb) hn1 hn2)
 obtain⟨u1,u2,u3,rfl,r1,r2,r3,hsm⟩:=h
 have hnet:NetR w (.agg #[u1,u2]) p.n:=⟨u1,u2,rfl,r1,r2,hsm⟩
 have HNT:=Lib.hid hnet
 obtain⟨⟨a1,m1,c1,rfl⟩,a2,m2,c2,rfl⟩:=slice_of_net hnet
 obtain⟨a3,m3,c3,rfl,HN3,hc3,hm3,ha3⟩:=lgt_opn r3
 have HA:=Lib.hid ha3
 have HFB:=Lib.hid (fun k (hk:k<m3)=>show(p.ls[k]?.getD nilL).fb.length≤1000000 from by
  have h1:k<p.ls.length:=by rw[HN3.out];exact hk
  rw[List.getElem?_eq_getElem h1];exact hfb _ (List.getElem_mem h1))
 have HTK:=Lib.hid (fun k (hk:k<m3)=>show(p.ls.take (k+1)).flatMap lgtD=(p.ls.take k).flatMap lgtD++lgtD (p.ls[k]?.getD nilL) from by
  have h1:k<p.ls.length:=by rw[HN3.out];exact hk
  rw[List.take_add_one,List.flatMap_append,List.getElem?_eq_getElem h1];simp)
 have HTA:=Lib.hid (show(p.ls.take m3).flatMap lgtD=p.ls.flatMap lgtD from by rw[List.take_of_length_le (Nat.le_of_eq HN3.out)])
 have hl3:m3≤1000:=by rw[←HN3.out];exact hl
 have b1:=(Below.refl w.heap.size w).alloc (Nat.le_refl _) (.cells #[.slice a1 m1 c1,.slice a2 m2 c2,.slice a3 m3 c3] 75)
 have b2:=b1.alloc b1.size (.cells #[.slice none 0 0,.slice none 0 0,.slice none 0 0] 75)
 have k0:=heap_alloc_new w (.cells #[.slice a1 m1 c1,.slice a2 m2 c2,.slice a3 m3 c3] 75)
 have k0':=(heap_alloc_old _ (.cells #[.slice none 0 0,.slice none 0 0,.slice none 0 0] 75) (Array.getElem?_eq_some_iff.1 k0).1).trans k0
 have k1:=heap_alloc_new (w.alloc (.cells #[.slice a1 m1 c1,.slice a2 m2 c2,.slice a3 m3 c3] 75)) (.cells #[.slice none 0 0,.slice none 0 0,.slice none 0 0] 75)
 rw[show(w.alloc (.cells #[.slice a1 m1 c1,.slice a2 m2 c2,.slice a3 m3 c3] 75)).heap.size=w.heap.size+1 by simp] at k1
 have HZ:=Lib.hid (show((w.alloc (.cells #[.slice a1 m1 c1,.slice a2 m2 c2,.slice a3 m3 c3] 75)).alloc (.cells #[.slice none 0 0,.slice none 0 0,.slice none 0 0] 75)).heap.size=w.heap.size+1+1 by simp)
 have HB2:=Lib.hid b2
 have K0:=Lib.hid k0'
 have K1:=Lib.hid k1
 have HNP:=Lib.hid hNP
 clear b1 b2 k0 k0' k1 r1 r2 r3 hsm hnet ha3 hfb hl hn1 hn2 hNP
 go_enter Tryz.func116,Tryz.ntmps116
 go_wp2_with fail
 generalize (w.alloc (.cells #[.slice a1 m1 c1,.slice a2 m2 c2,.slice a3 m3 c3] 75)).alloc (.cells #[.slice none 0 0,.slice none 0 0,.slice none 0 0] 75)=w2 at *
 refine(HCN.out _ _ w2 HB2.out HNT.out).mono ?_
 rintro e w3 ⟨v3,fp,rfl,ho,hn,hlt,b3⟩
 obtain⟨a5,n5,c5,a6,n6,c6,rfl⟩:=ho.form
 have HB3:=Lib.hid (HB2.out.trans (b3.mono HB2.out.size))
 have HO:=Lib.hid ho
 have HN:=Lib.hid hn
 have HLT:=Lib.hid hlt
 have K03:=Lib.hid (kept_o' K0.out b3)
 have K13:=Lib.hid (kept_o' K1.out b3)
 have HZ3:=Lib.hid (show w.heap.size+1+1≤w3.heap.size by have:=b3.size;have:=HZ.out;omega)
 clear ho hn hlt b3
 go_upto_region 2 with fail
 have k2:=heap_alloc_new w3 (.cells #[.slice a5 n5 c5,.slice a6 n6 c6,.slice none 0 0] 75)
 have bal:=(Below.refl w3.heap.size w3).alloc (Nat.le_refl _) (.cells #[.slice a5 n5 c5,.slice a6 n6 c6,.slice none 0 0] 75)
 have hzz:(w3.alloc (.cells #[.slice a5 n5 c5,.slice a6 n6 c6,.slice none 0 0] 75)).heap.size=w3.heap.size+1:=by simp
 obtain⟨bx,hbx⟩:∃bx,bx=w3.heap.size:=⟨_,rfl⟩
 have HBX:=Lib.hid hbx
 rw[←hbx] at k2 bal hzz HZ3 HLT ⊢
 have HO4:=Lib.hid (HO.out.behind (hbx▸bal))
 have HBL:=Lib.hid bal
 have HKB:=Lib.hid k2
 have HZB:=Lib.hid hzz
 clear k2 bal hzz hbx
 generalize w3.alloc (.cells #[.slice a5 n5 c5,.slice a6 n6 c6,.slice none 0 0] 75)=w4 at *
 have y2:=blkc (kept_o' K03.out (HBX.out▸HBL.out:Below w3.heap.size w3 w4)) (j:=2) (u:= .slice a3 m3 c3) rfl
 go_wp2_with fail
 clear y2
 go_loopw [5,13] (fun _ i wr=>∃(k:Nat) (a7:Option Addr) (c7:Nat),k≤m3∧i= .int .i64 k∧Hid (wr.heap[bx]?= some (.cells #[.slice a5 n5 c5,.slice a6 n6 c6,.slice a7 k c7] 75))∧Hid (Grw wr (bx+1) 86 5 (.slice a7 k c7) k ((p.ls.take k).flatMap lgtD))∧Hid (Below bx w3 wr)∧Hid (bx+1≤wr.heap.size)) (fun _ i _=>m3-(intOf i).toNat)
 case atStart=>exact⟨0,none,0,by omega,rfl,HKB.out,grw_nil _ _ _ _,HBL.out,by rw[HZB.out];exact Nat.le_refl _⟩
 case round=>
  obtain⟨k,a7,c7,hk,rfl,HK,HG,HB,HS⟩:=hrel
  by_cases hlt:k<m3
  · have hltI:(k:Int)<(m3:Int):=by omega
    obtain⟨b3,o3,rfl,hbl,hcs⟩:=HA.out (by omega)
    obtain⟨u,e0,e1,e2,e3,e4,hru⟩:=hcs k hlt
    have HWR:=Lib.hid (HB3.out.trans ((HBX.out▸HB.out:Below w3.heap.size w3 wr).mono (by have:=HZ3.out;rw[←HBX.out];omega)))
    have mv:∀j,wr.cell? ⟨b3,j,none⟩=w.cell? ⟨b3,j,none⟩:=fun j=>HWR.out.cell (p:=⟨b3,j,none⟩) hbl
    rw[←mv] at e0 e1 e2 e3 e4
    have HRU:=Lib.hid (fun(w':World) (hb:Below wr.heap.size wr w')=>show Rd w' u (p.ls[k]?.getD nilL).fb from(hru.belowAll (HWR.out.trans (hb.mono HWR.out.size))))
    obtain⟨au,nu,cu,rfl⟩:∃au nu cu,u= .slice au nu cu:=by
     obtain⟨au,cu,hv,-⟩:=full_ok hru
     exact⟨_,_,_,hv⟩
    have HX:=Lib.hid (HFB.out k hlt)
    have HTX:=Lib.hid (HTK.out k hlt)
    clear hcs mv hru hbl
    generalize p.ls[k]?.getD nilL=x at *
    go_upto_region 5 with fail
    have n2:=heap_alloc_new wr (.cells #[.int .i64 x.id,.int .i64 x.st,.slice au nu cu,.int .i64 x.fi,.int .i64 x.ct] 86)
    have HB5:=Lib.hid ((Below.refl wr.heap.size wr).alloc (Nat.le_refl _) (.cells #[.int .i64 x.id,.int .i64 x.st,.slice au nu cu,.int .i64 x.fi,.int .i64 x.ct] 86))
    generalize wr.alloc (.cells #[.int .i64 x.id,.int .i64 x.st,.slice au nu cu,.int .i64 x.fi,.int .i64 x.ct] 86)=w5 at *
    have t0:=blkc n2 (j:=0) (u:= .int .i64 x.id) rfl
    have t1:=blkc n2 (j:=1) (u:= .int .i64 x.st) rfl
    have t2:=blkc n2 (j:=2) (u:= .slice au nu cu) rfl
    have t3:=blkc n2 (j:=3) (u:= .int .i64 x.fi) rfl
    have t4:=blkc n2 (j:=4) (u:= .int .i64 x.ct) rfl
    have HSS:=Lib.hid (fun(w':World) (hb:Below w5.heap.size w5 w')=>show w'.cell? ⟨bx,2,none⟩=some (.slice a7 k c7)∧w'.cell? ⟨wr.heap.size,0,none⟩=some (.int .i64 x.id)∧w'.cell? ⟨wr.heap.size,1,none⟩=some (.int .i64 x.st)∧w'.cell? ⟨wr.heap.size,2,none⟩=some (.slice au nu cu)∧w'.cell? ⟨wr.heap.size,3,none⟩=some (.int .i64 x.fi)∧w'.cell? ⟨wr.heap.size,4,none⟩=some (.int .i64 x.ct) from
     have hz:∀j v,w5.cell? ⟨wr.heap.size,j,none⟩=some v→w'.cell? ⟨wr.heap.size,j,none⟩=some v:=fun j v h=>(hb.cell (p:=⟨_,j,none⟩) (by have:=(Array.getElem?_eq_some_iff.1 n2).1;exact this)).trans h
     ⟨blkc (kept_o' (kept_o' HK.out HB5.out) hb) rfl,hz _ _ t0,hz _ _ t1,hz _ _ t2,hz _ _ t3,hz _ _ t4⟩)
    have HK5:=Lib.hid (kept_o' HK.out HB5.out)
    have HG5:=Lib.hid (HG.out.below HB5.out)
    have hs5:bx+1≤w5.heap.size:=Nat.le_trans HS.out HB5.out.size
    have HRU5:=Lib.hid (fun(w':World) (hb:Below w5.heap.size w5 w')=>HRU.out w' (HB5.out.trans (hb.mono HB5.out.size)))
    have HBW:=Lib.hid (HB.out.trans (HB5.out.mono (Nat.le_trans (Nat.le_succ _) HS.out)))
    clear t0 t1 t2 t3 t4 n2 e0 e1 e2 e3 e4
    refine wp_region_L [0,1,2,3,4,5,6,7,8,9,10,11] (S:=fun w'=>w'.cell? ⟨bx,2,none⟩=some (.slice a7 k c7)∧w'.cell? ⟨wr.heap.size,0,none⟩=some (.int .i64 x.id)∧w'.cell? ⟨wr.heap.size,1,none⟩=some (.int .i64 x.st)∧w'.cell? ⟨wr.heap.size,2,none⟩=some (.slice au nu cu)∧w'.cell? ⟨wr.heap.size,3,none⟩=some (.int .i64 x.fi)∧w'.cell? ⟨wr.heap.size,4,none⟩=some (.int .i64 x.ct)) (by kernel_rfl) (HSS.out _ (Below.refl _ _).drew) (fun hH=> ?_)
    refine hlE 0 rfl hH ⟨_,by intro w hSw;(try dsimp only at hSw);go_simp;try with_reducible rfl,?_⟩
    try simp only[Act.put,hlA,hlB,hlC]
    refine hlE 1 rfl hH ⟨_,by intro w hSw;(try dsimp only at hSw);go_simp;try with_reducible rfl,?_⟩
    try simp only[Act.put,hlA,hlB,hlC]
    refine hlE 2 rfl hH ⟨_,by intro w hSw;(try dsimp only at hSw);go_simp;try with_reducible rfl,?_⟩
    try simp only[Act.put,hlA,hlB,hlC]
    refine hlE 3 rfl hH ⟨_,by intro w hSw;(try dsimp only at hSw);go_simp;try with_reducible rfl,?_⟩
    try simp only[Act.put,hlA,hlB,hlC]
    refine hlE 4 rfl hH ⟨_,by intro w hSw;(try dsimp only at hSw);go_simp;try with_reducible rfl,?_⟩
    try simp only[Act.put,hlA,hlB,hlC]
    refine hlE 5 rfl hH ⟨_,by intro w hSw;(try dsimp only at hSw);go_simp;try with_reducible rfl,?_⟩
    try simp only[Act.put,hlA,hlB,hlC]
    refine hlE 7 rfl hH ⟨_,by intro w hSw;(try dsimp only at hSw);go_simp;try with_reducible rfl,?_⟩
    try simp only[Act.put,hlA,hlB,hlC]
    refine hlE 8 rfl hH ⟨_,by intro w hSw;(try dsimp only at hSw);go_simp;try with_reducible rfl,?_⟩
    try simp only[Act.put,hlA,hlB,hlC]
    refine hlReady (rs:=[6]) (by kernel_rfl) (by simp) ?_
    refine AllReadyL.cons rfl (fun KK hKK=> ?_) AllReadyL.nil
    go_simp
    go_at_call 160
    refine(copyRoute_any (.slice au nu cu) x.st x.fb _ (HRU5.out _ (Below.refl _ _).drew) HX.out).mono ?_
    rintro e w23 ⟨v23,rfl,o23,b23⟩
    have B23:Below w5.heap.size w5 w23:=(Below.refl w5.heap.size w5).drew.trans b23
    have O23:=Lib.hid o23
    have H23:=Lib.hid (ownP_one o23)
    clear o23 b23
    refine hKK.out _ _ (HSS.out _ B23) (fun hH=> ?_)
    clear hKK KK
    try simp only[Act.put,hlA,hlB,hlC]
    refine hlE 9 rfl hH ⟨_,by intro w hSw;(try dsimp only at hSw);go_simp;try with_reducible rfl,?_⟩
    try simp only[Act.put,hlA,hlB,hlC]
    refine hlReady (rs:=[10]) (by kernel_rfl) (by simp) ?_
    refine AllReadyL.cons rfl (fun KK hKK=> ?_) AllReadyL.nil
    go_simp
    have B27:=B23.alloc B23.size (.cells #[.int .i64 x.id,.int .i64 x.st,v23,.int .i64 x.fi,.int .i64 x.ct] 86)
    refine hKK.out _ _ (HSS.out _ B27) (fun hH=> ?_)
    clear hKK KK
    try simp only[Act.put,hlA,hlB,hlC]
    refine hlStep 11 rfl (by kernel_rfl) (by kernel_rfl) (fun KK hKK=> ?_)
    refine step_of_list rfl ?_
    refine wpList_grow rfl (.tmp 18) (.tmp 27) 73 86 rfl Tryz.underlying73 (.agg #[.int .i64 0,.int .i64 0,.slice none 0 0,.int .i64 0,.int .i64 0]) 5 56 Tryz.infoLgtI rfl (by decide) (by decide) (bx+1) k (.slice a7 k c7) _ (lgtD x) (by rfl) HG5.out hs5 B23 [.int .i64 x.id,.int .i64 x.st,v23,.int .i64 x.fi,.int .i64 x.ct] (newLgt O23.out) rfl (fun z hz=>by simp only[List.mem_cons,List.not_mem_nil,or_false] at hz;rcases hz with e | e | e | e | e <;> rw[e] <;> first | rfl | exact H23.out) (by rfl) (by omega) ?_
    intro v28 w28 G28 g28 l28
    unfold wpList
    refine⟨rfl,?_⟩
    refine hKK.out _ _ ?_
    clear hKK KK
    try simp only[Act.put,hlA,hlB,hlC]
    obtain⟨-,a8,c8,rfl⟩:=G28.form
    have x8:=(g28.block bx (Nat.lt_of_lt_of_le (by omega) B23.size) (fun e=>by have:=(HG5.out.own _ e.symm).1;omega)).trans (kept_o' HK5.out B23)
    have f0:w28.frozen? ⟨bx,2,none⟩=false:=frozen_of_row _ _ _ _ _ x8
    have y0:=blkc x8 (j:=2) rfl
    refine hlStep 12 rfl (by kernel_rfl) (by kernel_rfl) (fun KK hKK=> ?_)
    go_simp
    refine hKK.out _ _ ?_
    clear hKK KK
    try simp only[Act.put,hlA,hlB,hlC]
    refine hlStep 13 rfl (by kernel_rfl) (by kernel_rfl) (fun KK hKK=> ?_)
    go_simp
    refine hKK.out _ _ ?_
    clear hKK KK
    try simp only[Act.put,hlA,hlB,hlC]
    refine hlDone (by kernel_rfl) ?_ _
    rotate_left 1
    have q9:=heap_setCell_same w28 bx 2 _ 75 (.slice a8 (k+1) c8) x8
    have o9:∀j,j≠bx→(w28.setCell ⟨bx,2,none⟩ (.slice a8 (k+1) c8)).heap[j]?= w28.heap[j]?:=fun j hj=>heap_setCell_other _ ⟨bx,2,none⟩ j _ hj
    have HK9:=Lib.hid (show(w28.setCell ⟨bx,2,none⟩ (.slice a8 (k+1) c8)).heap[bx]?= some (.cells #[.slice a5 n5 c5,.slice a6 n6 c6,.slice a8 (k+1) c8] 75) from by rw[q9];simp)
    have HG9:=Lib.hid (show Grw (w28.setCell ⟨bx,2,none⟩ (.slice a8 (k+1) c8)) (bx+1) 86 5 (.slice a8 (k+1) c8) (k+1) ((p.ls.take (k+1)).flatMap lgtD) from by rw[HTX.out];exact G28.keepP fun j hj _=>o9 j (by omega))
    have hb28:Below bx w3 w28:=Below.grown (HBW.out.trans (B23.mono (by omega))) g28 (by have:=B23.size;omega) (fun q hq=>by have:=(HG5.out.own _ hq).1;omega)
    have HB9:=Lib.hid (hb28.setCell (p:=⟨bx,2,none⟩) (Nat.le_refl _) (.slice a8 (k+1) c8))
    have HS9:=Lib.hid (show bx+1≤(w28.setCell ⟨bx,2,none⟩ (.slice a8 (k+1) c8)).heap.size from by have:=(Array.getElem?_eq_some_iff.1 q9).1;omega)
    generalize w28.setCell ⟨bx,2,none⟩ (.slice a8 (k+1) c8)=w9 at *
    clear q9 o9 hb28 g28 l28 G28 x8 f0 y0 B23 B27
    go_wp2
    go_roundw
    exact⟨k+1,a8,c8,by omega,by simp,HK9.out,HG9.out,HB9.out,HS9.out⟩
    simp[intOf];omega
  · have hltI:¬(k:Int)<(m3:Int):=by omega
    obtain rfl:m3=k:=by omega
    have HG0:=Lib.hid (HTA.out▸HG.out)
    have HO9:=Lib.hid (HO.out.keepP fun j hj=>by
     have h1:=HLT.out j hj
     exact HB.out.block j h1.2)
    have HK1:=Lib.hid (show wr.heap[w.heap.size+1]?= some (.cells #[.slice none 0 0,.slice none 0 0,.slice none 0 0] 75) from(HB.out.block _ (by have:=HZ3.out;omega)).trans K13.out)
    have HBW:=Lib.hid (show Below w.heap.size w wr from HB3.out.trans (HB.out.mono (by have:=HZ3.out;omega)))
    have y0:=blkc HK.out (j:=0) (u:= .slice a5 n5 c5) rfl
    have y1:=blkc HK.out (j:=1) (u:= .slice a6 n6 c6) rfl
    have y2:=blkc HK.out (j:=2) (u:= .slice a7 m3 c7) rfl
    clear K0 K03 K1 K13 HB2 HCN HNT HFB HTK
    have z0:=blkc HK1.out (j:=0) (u:= .slice none 0 0) rfl
    have z1:=blkc HK1.out (j:=1) (u:= .slice none 0 0) rfl
    have z2:=blkc HK1.out (j:=2) (u:= .slice none 0 0) rfl
    have f0:wr.frozen? ⟨w.heap.size+1,0,none⟩=false:=frozen_of_row _ _ _ _ _ HK1.out
    have f1:wr.frozen? ⟨w.heap.size+1,1,none⟩=false:=frozen_of_row _ _ _ _ _ HK1.out
    have f2:wr.frozen? ⟨w.heap.size+1,2,none⟩=false:=frozen_of_row _ _ _ _ _ HK1.out
    obtain⟨q9,o9,s9,b9⟩:=set3_facts (.slice a5 n5 c5) (.slice a6 n6 c6) (.slice a7 m3 c7) HK1.out
    have HOT:=Lib.hid o9
    have HZ8:=Lib.hid s9
    have HB8:=Lib.hid (b9 w.heap.size w (by omega) HBW.out)
    have HQ9:=Lib.hid q9
    clear q9 o9 s9 b9
    go_wp2_with fail
    generalize ((wr.setCell ⟨w.heap.size+1,0,none⟩ (.slice a5 n5 c5)).setCell ⟨w.heap.size+1,1,none⟩ (.slice a6 n6 c6)).setCell ⟨w.heap.size+1,2,none⟩ (.slice a7 m3 c7)=w9 at *
    have t0:=blkc HQ9.out (j:=0) (u:= .slice a5 n5 c5) rfl
    have t1:=blkc HQ9.out (j:=1) (u:= .slice a6 n6 c6) rfl
    have t2:=blkc HQ9.out (j:=2) (u:= .slice a7 m3 c7) rfl
    rw[HNP.out]
    exact bodyPost_ret (v:= .agg #[.slice a5 n5 c5,.slice a6 n6 c6,.slice a7 m3 c7]) (by simp[results,Tryz.results116,go_sem,t0,t1,t2]) rfl ⟨_,_,_,bx+1,fp,rfl,⟨HO9.out.keepP fun j hj=>HOT.out j (by have:=HLT.out j hj;have:=HZ.out;omega),HN.out,fun j hj=>by have:=HLT.out j hj;have:=HZ.out;omega,⟨by have:=HZ3.out;omega,by have:=HZ8.out;have:=HS.out;omega⟩,by rw[HN3.out];exact HG0.out.keepP fun j hj _=>HOT.out j (by have:=HZ3.out;omega)⟩,HB8.out⟩
open Go.RowKit
section
variable {α : Type} {k : α → Int}
def ltS (k:α→Int) (x y:α × Nat):Prop:=k x.1<k y.1∨(k x.1=k y.1∧x.2<y.2)
theorem ltS_asym {x y:α × Nat} (h:ltS k x y):¬ltS k y x:=fun h2=>by unfold ltS at h h2;omega
theorem ltS_trans {x y z:α × Nat} (h:ltS k x y) (h2:ltS k y z):ltS k x z:=by unfold ltS at h h2 ⊢;omega
theorem ltS_cross {x y:α × Nat} (h:x.2<y.2):ltS k y x↔k y.1<k x.1:=by unfold ltS;omega
theorem ltS_cross' {x y:α × Nat} (h:x.2<y.2):ltS k x y↔ ¬k y.1<k x.1:=by unfold ltS;omega
def srtS (k:α→Int) (L:List (α × Nat)):Prop:=L.Pairwise (ltS k)
def crsS (X Y:List (α × Nat)):Prop:=∀x∈X,∀y∈Y,x.2<y.2
theorem srtS_at {L:List (α × Nat)} (h:srtS k L) {i j:Nat} (hij:i<j) (hj:j<L.length):ltS k L[i] L[j]:=List.pairwise_iff_getElem.1 h i j (by omega) hj hij
theorem srtS_join {L R:List (α × Nat)} (h1:srtS k L) (h2:srtS k R) (h:∀x∈L,∀y∈R,ltS k x y):srtS k (L++R):=List.pairwise_append.2 ⟨h1,h2,h⟩
theorem srtS_ins {L:List (α × Nat)} {x:α × Nat} {i:Nat} (h:srtS k L) (hi:i≤L.length) (h1:∀hi0:0<i,ltS k (L[i-1]'(by omega)) x) (h2:∀hl:i<L.length,ltS k x L[i]):srtS k (L.take i++x::L.drop i):=by
 refine srtS_join (List.Pairwise.sublist (List.take_sublist i L) h) (List.pairwise_cons.2 ⟨fun y hy=> ?_,List.Pairwise.sublist (List.drop_sublist i L) h⟩) fun a ha b hb=> ?_
 · obtain⟨j,hj,e⟩:=List.getElem_of_mem hy
   rw[List.length_drop] at hj
   rw[List.getElem_drop] at e
   rw[←e]
   have hx:=h2 (by omega)
   rcases Nat.eq_zero_or_pos j with rfl | hj0
   · exact hx
   · exact ltS_trans hx (srtS_at h (by omega) (by omega))
 · obtain⟨j,hj,e⟩:=List.getElem_of_mem ha
   rw[List.length_take] at hj
   rw[List.getElem_take] at e
   have hax:ltS k a x:=by
    rw[←e]
    have hx:=h1 (by omega)
    by_cases hji:j=i-1
    · subst hji;exact hx
    · exact ltS_trans (srtS_at h (by omega) (by omega)) hx
   rcases List.mem_cons.1 hb with rfl | hb
   · exact hax
   · obtain⟨j2,hj2,e2⟩:=List.getElem_of_mem hb
     rw[List.length_drop] at hj2
     rw[List.getElem_drop] at e2
     rw[←e,←e2]
     exact srtS_at h (by omega) (by omega)
theorem cutS {X Y:List (α × Nat)} (hx:srtS k X) (hy:srtS k Y) {s e:Nat} (hs:s≤X.length) (he:e≤Y.length)
 (c1:∀(h1:0<s) (h2:e<Y.length),ltS k (X[s-1]'(by omega)) Y[e]) (c2:∀(h1:0<e) (h2:s<X.length),ltS k (Y[e-1]'(by omega)) X[s]):
 ∀x∈X.take s++Y.take e,∀y∈X.drop s++Y.drop e,ltS k x y:=by
 intro x hx1 y hy1
 rcases List.mem_append.1 hx1 with h | h
 · obtain⟨i,hi,ei⟩:=List.getElem_of_mem h
   rw[List.length_take] at hi
   rw[List.getElem_take] at ei
   rcases List.mem_append.1 hy1 with g | g
   · obtain⟨j,hj,ej⟩:=List.getElem_of_mem g
     rw[List.length_drop] at hj
     rw[List.getElem_drop] at ej
     rw[←ei,←ej];exact srtS_at hx (by omega) (by omega)
   · obtain⟨j,hj,ej⟩:=List.getElem_of_mem g
     rw[List.length_drop] at hj
     rw[List.getElem_drop] at ej
     have hc:=c1 (by omega) (by omega)
     have h1:X[i]=X[s-1]∨ltS k X[i] X[s-1]:=by
      by_cases e1:i=s-1
      · subst e1;exact .inl rfl
      · exact .inr (srtS_at hx (by omega) (by omega))
     have h2:Y[e+j]=Y[e]∨ltS k Y[e] Y[e+j]:=by
      rcases Nat.eq_zero_or_pos j with rfl | hj0
      · exact .inl rfl
      · exact .inr (srtS_at hy (by omega) (by omega))
     rw[←ei,←ej]
     have h3:ltS k X[i] Y[e]:=by
      rcases h1 with h1 | h1
      · rw[h1];exact hc
      · exact ltS_trans h1 hc
     rcases h2 with h2 | h2
     · rw[h2];exact h3
     · exact ltS_trans h3 h2
 · obtain⟨i,hi,ei⟩:=List.getElem_of_mem h
   rw[List.length_take] at hi
   rw[List.getElem_take] at ei
   rcases List.mem_append.1 hy1 with g | g
   · obtain⟨j,hj,ej⟩:=List.getElem_of_mem g
     rw[List.length_drop] at hj
     rw[List.getElem_drop] at ej
     have hc:=c2 (by omega) (by omega)
     have h1:Y[i]=Y[e-1]∨ltS k Y[i] Y[e-1]:=by
      by_cases e1:i=e-1
      · subst e1;exact .inl rfl
      · exact .inr (srtS_at hy (by omega) (by omega))
     have h2:X[s+j]=X[s]∨ltS k X[s] X[s+j]:=by
      rcases Nat.eq_zero_or_pos j with rfl | hj0
      · exact .inl rfl
      · exact .inr (srtS_at hx (by omega) (by omega))
     rw[←ei,←ej]
     have h3:ltS k Y[i] X[s]:=by
      rcases h1 with h1 | h1
      · rw[h1];exact hc
      · exact ltS_trans h1 hc
     rcases h2 with h2 | h2
     · rw[h2];exact h3
     · exact ltS_trans h3 h2
   · obtain⟨j,hj,ej⟩:=List.getElem_of_mem g
     rw[List.length_drop] at hj
     rw[List.getElem_drop] at ej
     rw[←ei,←ej];exact srtS_at hy (by omega) (by omega)
theorem mrgS {X Y L R:List (α × Nat)} (hx:srtS k X) (hy:srtS k Y) {s e:Nat} (hs:s≤X.length) (he:e≤Y.length)
 (c1:∀(h1:0<s) (h2:e<Y.length),ltS k (X[s-1]'(by omega)) Y[e]) (c2:∀(h1:0<e) (h2:s<X.length),ltS k (Y[e-1]'(by omega)) X[s])
 (hL:srtS k L) (hLp:L.Perm (X.take s++Y.take e)) (hR:srtS k R) (hRp:R.Perm (X.drop s++Y.drop e)):srtS k (L++R)∧(L++R).Perm (X++Y):=by
 refine⟨srtS_join hL hR fun x h1 y h2=>cutS hx hy hs he c1 c2 x (hLp.mem_iff.1 h1) y (hRp.mem_iff.1 h2),?_⟩
 have h1:(L++R).Perm ((X.take s++Y.take e)++(X.drop s++Y.drop e)):=hLp.append hRp
 have h2:((X.take s++Y.take e)++(X.drop s++Y.drop e)).Perm ((X.take s++X.drop s)++(Y.take e++Y.drop e)):=by
  rw[List.append_assoc,List.append_assoc]
  refine List.Perm.append_left _ ?_
  rw[←List.append_assoc,←List.append_assoc]
  exact List.Perm.append_right _ List.perm_append_comm
 rw[List.take_append_drop,List.take_append_drop] at h2
 exact h1.trans h2
def tagS (zs:List α):List (α × Nat):=zs.zipIdx
theorem tagS_fst (zs:List α):(tagS zs).map Prod.fst=zs:=by unfold tagS;simp
end
section
variable {α : Type} {k : α → Int} {p : α → Bool}
def isBest (k:α→Int) (p:α→Bool) (L:List (α × Nat)) (x:α × Nat):Prop:=x∈L∧p x.1=true∧ ∀y∈L,p y.1=true→y=x∨ltS k x y
theorem isBest_one {L:List (α × Nat)} {x y:α × Nat} (hx:isBest k p L x) (hy:isBest k p L y):x=y:=by
 rcases hx.2.2 y hy.1 hy.2.1 with h | h
 · exact h.symm
 · rcases hy.2.2 x hx.1 hx.2.1 with g | g
   · exact g
   · exact absurd g (ltS_asym h)
theorem head_best {S L:List (α × Nat)} (hs:srtS k S) (hp:S.Perm L) {x:α × Nat} {T:List (α × Nat)} (h:S.filter (fun y=>p y.1)=x::T):isBest k p L x:=by
 have hx:x∈S.filter (fun y=>p y.1):=by rw[h];exact List.mem_cons_self
 obtain⟨h1,h2⟩:=List.mem_filter.1 hx
 refine⟨hp.mem_iff.1 h1,h2,fun y hy hpy=> ?_⟩
 have hy2:y∈S.filter (fun y=>p y.1):=List.mem_filter.2 ⟨hp.mem_iff.2 hy,hpy⟩
 rw[h] at hy2
 rcases List.mem_cons.1 hy2 with e | e
 · exact .inl e
 · have hs2:srtS k (x::T):=by rw[←h];exact List.Pairwise.sublist List.filter_sublist hs
   exact .inr ((List.pairwise_cons.1 hs2).1 y e)
theorem head_none {S L:List (α × Nat)} (hp:S.Perm L) (h:S.filter (fun y=>p y.1)=[]):∀y∈L,p y.1=false:=fun y hy=>by
 have:=List.filter_eq_nil_iff.1 h y (hp.mem_iff.2 hy)
 simpa using this
def scanS (k:α→Int) (p:α→Bool) (zs:List α):Nat→Option (α × Nat)
 | 0=>none
 | i+1=>match zs[i]?,scanS k p zs i with
   | none,o=>o
   | some z,none=>if p z then some (z,i) else none
   | some z,some b=>if p z&&decide (k z<k b.1) then some (z,i) else some b
theorem tag_take {zs:List α} {i:Nat} {x:α × Nat} :x∈(tagS zs).take i↔x.2<i∧zs[x.2]?= some x.1:=by
 constructor
 · intro h
   obtain⟨j,hj,e⟩:=List.getElem_of_mem h
   rw[List.length_take] at hj
   rw[List.getElem_take] at e
   unfold tagS at e hj
   rw[List.length_zipIdx] at hj
   rw[List.getElem_zipIdx] at e
   subst e
   refine⟨by simp;omega,?_⟩
   simp only[Nat.zero_add]
   exact List.getElem?_eq_getElem (by omega)
 · rintro⟨h1,h2⟩
   obtain⟨hl,e⟩:=List.getElem?_eq_some_iff.1 h2
   refine List.mem_of_getElem? (i:=x.2) ?_
   rw[List.getElem?_take_of_lt h1]
   unfold tagS
   rw[List.getElem?_zipIdx,h2]
   simp
theorem scanS_step {zs:List α} {i:Nat} {z:α} (hz:zs[i]?= some z):scanS k p zs (i+1)=match scanS k p zs i with
 | none=>if p z then some (z,i) else none
 | some b=>if p z&&decide (k z<k b.1) then some (z,i) else some b:=by
 rw[scanS,hz]
 cases scanS k p zs i <;> rfl
theorem scanS_some {zs:List α} :∀{i:Nat} {x:α × Nat},i≤zs.length→scanS k p zs i=some x→isBest k p ((tagS zs).take i) x
 | 0,x,_,h=>by simp[scanS] at h
 | i+1,x,hi,h=>by
   have hz:zs[i]?= some zs[i]:=List.getElem?_eq_getElem (by omega)
   have hmem:∀y:α × Nat,y∈(tagS zs).take (i+1)↔y∈(tagS zs).take i∨y=(zs[i],i):=fun y=>by
    rw[tag_take,tag_take]
    constructor
    · rintro⟨h1,h2⟩
      by_cases e:y.2=i
      · right
        rw[e,hz] at h2
        exact Prod.ext (Option.some.inj h2).symm e
      · exact .inl ⟨by omega,h2⟩
    · rintro(⟨h1,h2⟩ | rfl)
      · exact⟨by omega,h2⟩
      · exact⟨by simp,hz⟩
   rw[scanS_step hz] at h
   cases ho:scanS k p zs i with
   | none=>
     rw[ho] at h
     simp only at h
     split at h
     · rename_i hpz
       cases h
       refine⟨(hmem _).2 (.inr rfl),hpz,fun y hy hpy=> ?_⟩
       rcases(hmem y).1 hy with e | e
       · exact absurd hpy (by rw[scanS_none (by omega) ho y e];simp)
       · exact .inl e
     · cases h
   | some b=>
     rw[ho] at h
     simp only at h
     have hb:=scanS_some (by omega) ho
     have hbi:=(tag_take.1 hb.1).1
     split at h
     · rename_i hc
       simp only[Bool.and_eq_true,decide_eq_true_eq] at hc
       cases h
       refine⟨(hmem _).2 (.inr rfl),hc.1,fun y hy hpy=> ?_⟩
       rcases(hmem y).1 hy with e | e
       · right
         have hlt:ltS k (zs[i],i) b:= .inl hc.2
         rcases hb.2.2 y e hpy with e2 | e2
         · rw[e2];exact hlt
         · exact ltS_trans hlt e2
       · exact .inl e
     · rename_i hc
       cases h
       refine⟨(hmem _).2 (.inl hb.1),hb.2.1,fun y hy hpy=> ?_⟩
       rcases(hmem y).1 hy with e | e
       · exact hb.2.2 y e hpy
       · right
         subst e
         simp only at hpy
         rw[hpy] at hc
         simp only[Bool.true_and,decide_eq_true_eq] at hc
         exact(ltS_cross' (y:=(zs[i],i)) hbi).2 hc
where
 scanS_none {zs:List α} :∀{i:Nat},i≤zs.length→scanS k p zs i=none→ ∀y∈(tagS zs).take i,p y.1=false
 | 0,_,_,y,hy=>by simp at hy
 | i+1,hi,h,y,hy=>by
   have hz:zs[i]?= some zs[i]:=List.getElem?_eq_getElem (by omega)
   rw[scanS_step hz] at h
   cases ho:scanS k p zs i with
   | none=>
     rw[ho] at h
     simp only at h
     obtain⟨h1,h2⟩:=tag_take.1 hy
     by_cases e:y.2=i
     · rw[e,hz] at h2
       rw[←Option.some.inj h2]
       cases hp:p zs[i]
       · rfl
       · rw[hp] at h;simp at h
     · exact scanS_none (by omega) ho y (tag_take.2 ⟨by omega,h2⟩)
   | some b=>
     rw[ho] at h
     simp only at h
     split at h <;> cases h
end
/-! ### Slots that a route needs -/
def bstI (fs:List Fmt) (len:Int):Nat→Int
 | 0=> -1
 | k+1=>if len≤(fs[k]?.getD nilFm).c then(k:Int) else bstI fs len k
theorem bstI_rng (fs:List Fmt) (len:Int):∀k:Nat,-1≤bstI fs len k∧bstI fs len k<k
 | 0=>by simp[bstI]
 | k+1=>by
   have:=bstI_rng fs len k
   rw[bstI];split <;> omega
def slI (fs:List Fmt) (len rate:Int):Int:=
 if bstI fs len fs.length<0 then 0 else
  if 24<(rate+(fs[(bstI fs len fs.length).toNat]?.getD nilFm).r-1)/(fs[(bstI fs len fs.length).toNat]?.getD nilFm).r then 0
  else(rate+(fs[(bstI fs len fs.length).toNat]?.getD nilFm).r-1)/(fs[(bstI fs len fs.length).toNat]?.getD nilFm).r
theorem slI_le (fs:List Fmt) (len rate:Int):slI fs len rate≤24:=by
 unfold slI;split
 · omega
 · split <;> omega
/-! ### What lights occupy -/
def usedN (ls:List Lgt) (i:Int):Nat:=ls.foldl (fun m x=>if x.fb.contains i then m ||| mskN x.fi.toNat x.ct.toNat else m) 0
def alongN (ls:List Lgt) (fb:List Int):Nat:=fb.foldl (fun m i=>m ||| usedN ls i) 0
def fitsN (m c:Nat):List Nat:=(List.range (25-c)).filter fun s=>m &&& mskN s c==0
theorem used_bit (i:Int) (b:Nat):∀(ls:List Lgt) (m:Nat),(ls.foldl (fun m x=>if x.fb.contains i then m ||| mskN x.fi.toNat x.ct.toNat else m) m).testBit b=(m.testBit b || ls.any fun x=>x.fb.contains i&&(mskN x.fi.toNat x.ct.toNat).testBit b)
 | [],m=>by simp
 | x::ls,m=>by
   rw[List.foldl_cons,used_bit i b ls,List.any_cons]
   cases h:x.fb.contains i
   · simp
   · simp[Nat.testBit_or,Bool.or_assoc]
theorem usedN_bit (ls:List Lgt) (i:Int) (b:Nat):(usedN ls i).testBit b=ls.any fun x=>x.fb.contains i&&(mskN x.fi.toNat x.ct.toNat).testBit b:=by
 unfold usedN;rw[used_bit];simp
theorem along_bit (ls:List Lgt) (b:Nat):∀(fb:List Int) (m:Nat),(fb.foldl (fun m i=>m ||| usedN ls i) m).testBit b=(m.testBit b || fb.any fun i=>(usedN ls i).testBit b)
 | [],m=>by simp
 | i::fb,m=>by rw[List.foldl_cons,along_bit ls b fb,List.any_cons,Nat.testBit_or,Bool.or_assoc]
theorem alongN_bit (ls:List Lgt) (fb:List Int) (b:Nat):(alongN ls fb).testBit b=fb.any fun i=>(usedN ls i).testBit b:=by
 unfold alongN;rw[along_bit];simp
theorem fits_apart {ls:List Lgt} {fb:List Int} {s c:Nat} (h:alongN ls fb &&& mskN s c=0) {x:Lgt} (hx:x∈ls) (hm:meets x.fb fb=true):mskN x.fi.toNat x.ct.toNat &&& mskN s c=0:=by
 apply Nat.eq_of_testBit_eq
 intro b
 have hb:=congrArg (fun n=>n.testBit b) h
 simp only[Nat.testBit_and,Nat.zero_testBit] at hb ⊢
 cases h1:(mskN s c).testBit b
 · simp
 · rw[h1,Bool.and_true] at hb
   rw[Bool.and_true]
   cases h2:(mskN x.fi.toNat x.ct.toNat).testBit b
   · rfl
   · exfalso
     unfold meets at hm
     obtain⟨i,hi,hi2⟩:=List.any_eq_true.1 hm
     have h3:(alongN ls fb).testBit b=true:=by
      rw[alongN_bit]
      refine List.any_eq_true.2 ⟨i,by simpa using hi2,?_⟩
      rw[usedN_bit]
      exact List.any_eq_true.2 ⟨x,hx,by simp[hi,h2]⟩
     rw[h3] at hb;cases hb
/-! ### Choosing -/
def usaR (n:Net) (fs:List Fmt) (d:Dem):List (List Int × Int):=(allR n d.a d.b).filterMap fun fb=>if 0<slI fs (lenR n fb) d.r then some (fb,slI fs (lenR n fb) d.r) else none
def costU (u:List Int × Int):Int:=u.2*(u.1.length:Int)
def fitU (ls:List Lgt) (u:List Int × Int):List Nat:=fitsN (alongN ls u.1) u.2.toNat
def okU (ls:List Lgt) (u:List Int × Int):Bool:=!(fitU ls u).isEmpty
def pickU (n:Net) (fs:List Fmt) (d:Dem) (ls:List Lgt):Option ((List Int × Int) × Nat):=scanS costU (okU ls) (usaR n fs d) (usaR n fs d).length
def lgtU (ls:List Lgt) (id st:Int) (u:List Int × Int):Lgt:=⟨id,st,u.1,((fitU ls u).headD 0:Nat),u.2⟩
def failU (n:Net) (d:Dem):Bool:=decide (200<(allR n d.a d.b).length)
/-! ### The run -/
structure PRun where
 ls:List Lgt
 bl:List Int
def putL (ls:List Lgt) (x:Lgt):List Lgt:=ls.takeWhile (fun y=>decide (y.id<x.id))++x::ls.dropWhile (fun y=>decide (y.id<x.id))
def delP (gs:List Gro) (t:Int) (ls:List Lgt) (i:Nat):List Lgt:=if(gs[i]?.getD nilG).e=t-1 then ls.eraseP (fun x=>decide (x.id=(i:Int)+1)) else ls
def addP (n:Net) (fs:List Fmt) (gs:List Gro) (t:Int) (o:Option PRun) (i:Nat):Option PRun:=
 match o with
 | none=>none
 | some r=>
   if(gs[i]?.getD nilG).s≠t then some r
   else if failU n (gs[i]?.getD nilG).d then none
   else match pickU n fs (gs[i]?.getD nilG).d r.ls with
    | some u=>some ⟨putL r.ls (lgtU r.ls ((i:Int)+1) (gs[i]?.getD nilG).d.a u.1),r.bl⟩
    | none=>some ⟨r.ls,r.bl++[(i:Int)]⟩
def delA (gs:List Gro) (t:Int) (ls:List Lgt) (k:Nat):List Lgt:=(List.range k).foldl (delP gs t) ls
def addA (n:Net) (fs:List Fmt) (gs:List Gro) (t:Int) (o:Option PRun) (k:Nat):Option PRun:=(List.range k).foldl (addP n fs gs t) o
def perP (n:Net) (fs:List Fmt) (gs:List Gro) (t:Nat) (r:PRun):Option PRun:=addA n fs gs t (some ⟨delA gs t r.ls gs.length,r.bl⟩) gs.length
def runP (n:Net) (fs:List Fmt) (gs:List Gro):Nat→Option (List (List Lgt) × PRun)
 | 0=>some ([],⟨[],[]⟩)
 | k+1=>match runP n fs gs k with
   | none=>none
   | some (ps,r)=>match perP n fs gs k r with
     | none=>none
     | some r2=>some (ps++[r2.ls],r2)
theorem delA_step (gs:List Gro) (t:Int) (ls:List Lgt) (k:Nat):delA gs t ls (k+1)=delP gs t (delA gs t ls k) k:=by
 unfold delA;rw[List.range_succ,List.foldl_append];rfl
theorem addA_step (n:Net) (fs:List Fmt) (gs:List Gro) (t:Int) (o:Option PRun) (k:Nat):addA n fs gs t o (k+1)=addP n fs gs t (addA n fs gs t o k) k:=by
 unfold addA;rw[List.range_succ,List.foldl_append];rfl
theorem addA_fail (n:Net) (fs:List Fmt) (gs:List Gro) (t:Int) {o:Option PRun} {j k:Nat} (h:addA n fs gs t o j=none) (hj:j≤k):addA n fs gs t o k=none:=by
 induction k with
 | zero=>obtain rfl:j=0:=by omega
         exact h
 | succ k ih=>
   by_cases e:j=k+1
   · subst e;exact h
   · rw[addA_step,ih (by omega)];rfl
theorem runP_len {n:Net} {fs:List Fmt} {gs:List Gro} :∀{k:Nat} {ps:List (List Lgt)} {r:PRun},runP n fs gs k=some (ps,r)→ps.length=k
 | 0,ps,r,h=>by simp[runP] at h;rw[h.1];rfl
 | k+1,ps,r,h=>by
   rw[runP] at h
   split at h
   · cases h
   · rename_i ps0 r0 h0
     split at h
     · cases h
     · rename_i r2 h2
       cases h
       rw[List.length_append,runP_len h0];rfl
theorem runP_fail {n:Net} {fs:List Fmt} {gs:List Gro} {j k:Nat} (h:runP n fs gs j=none) (hj:j≤k):runP n fs gs k=none:=by
 induction k with
 | zero=>obtain rfl:j=0:=by omega
         exact h
 | succ k ih=>
   by_cases e:j=k+1
   · subst e;exact h
   · rw[runP,ih (by omega)]
theorem lgs_take (ls:List Lgt) (k:Nat):(ls.flatMap lgtD).take (k*5)=(ls.take k).flatMap lgtD:=by
 induction ls generalizing k with
 | nil=>simp
 | cons a t ih=>
   cases k with
   | zero=>simp
   | succ k=>
     rw[List.flatMap_cons,List.take_succ_cons,List.flatMap_cons,List.take_append,←ih k]
     have h5:(lgtD a).length=5:=rfl
     rw[List.take_of_length_le (by rw[h5];omega),h5,show(k+1)*5-5=k*5 by omega]
theorem lgs_drop (ls:List Lgt) (k:Nat):(ls.flatMap lgtD).drop (k*5)=(ls.drop k).flatMap lgtD:=by
 induction ls generalizing k with
 | nil=>simp
 | cons a t ih=>
   cases k with
   | zero=>simp
   | succ k=>
     rw[List.flatMap_cons,List.drop_succ_cons,List.drop_append,←ih k]
     have h5:(lgtD a).length=5:=rfl
     rw[List.drop_of_length_le (by rw[h5];omega),h5,show(k+1)*5-5=k*5 by omega,List.nil_append]
theorem putL_at (x:Lgt):∀(ls:List Lgt) (k:Nat),k≤ls.length→(∀j,j<k→(ls[j]?.getD nilL).id<x.id)→(k<ls.length→ ¬(ls[k]?.getD nilL).id<x.id)→putL ls x=ls.take k++x::ls.drop k:=by
 intro ls
 induction ls with
 | nil=>intro k hk _ _;have:k=0:=by simpa using hk
        subst this;simp[putL]
 | cons a t ih=>
   intro k hk h1 h2
   cases k with
   | zero=>
     have h:=h2 (by simp)
     simp only[List.getElem?_cons_zero,Option.getD_some] at h
     unfold putL
     rw[List.takeWhile_cons_of_neg (by simpa using h),List.dropWhile_cons_of_neg (by simpa using h)]
     simp
   | succ k=>
     have h:=h1 0 (by omega)
     simp only[List.getElem?_cons_zero,Option.getD_some] at h
     have hr:=ih k (by simpa using hk) (fun j hj=>by have:=h1 (j+1) (by omega);simpa using this) (fun hlt=>by have:=h2 (by simpa using hlt);simpa using this)
     unfold putL at hr ⊢
     rw[List.takeWhile_cons_of_pos (by simpa using h),List.dropWhile_cons_of_pos (by simpa using h),List.cons_append,hr]
     simp
theorem putL_flat {ls:List Lgt} {x:Lgt} {k:Nat} (hk:k≤ls.length) (h1:∀j,j<k→(ls[j]?.getD nilL).id<x.id) (h2:k<ls.length→ ¬(ls[k]?.getD nilL).id<x.id):
 (putL ls x).flatMap lgtD=(ls.flatMap lgtD).take (k*5)++(lgtD x++(ls.flatMap lgtD).drop (k*5))∧(putL ls x).length=ls.length+1:=by
 rw[putL_at x ls k hk h1 h2,lgs_take,lgs_drop]
 refine⟨by simp,by simp;omega⟩
theorem get3 {α:Type} (a b c:List α) (m:Nat):(a++(b++c))[m]?= if m<a.length then a[m]? else if m<a.length+b.length then b[m-a.length]? else c[m-a.length-b.length]?:=by
 rw[List.getElem?_append]
 split
 · rfl
 · rw[List.getElem?_append]
   split
   · rw[if_pos (by omega)]
   · rw[if_neg (by omega)]
theorem lgt_one {w:World} {ls:List Lgt} {us:List Value} {fs:List (List Nat)} (h2:us.length=(ls.flatMap lgtD).length) (h3:fs.length=(ls.flatMap lgtD).length) (h4:∀(j:Nat) (d:Dt) (u:Value) (f:List Nat),(ls.flatMap lgtD)[j]?= some d→us[j]?= some u→fs[j]?= some f→Odt w d u f):∀u∈us,u.oneCell'=true:=by
 intro u hu
 obtain⟨j,hj⟩:=List.mem_iff_getElem?.1 hu
 have hl:j<us.length:=(List.getElem?_eq_some_iff.1 hj).1
 have hd:=List.getElem?_eq_getElem (show j<(ls.flatMap lgtD).length by omega)
 have ho:=h4 j _ u _ hd hj (List.getElem?_eq_getElem (show j<fs.length by omega))
 obtain⟨x,-,hx⟩:=List.mem_flatMap.1 (List.getElem_mem (show j<(ls.flatMap lgtD).length by omega))
 generalize (ls.flatMap lgtD)[j]=d at *
 simp only[lgtD,List.mem_cons,List.not_mem_nil,or_false] at hx
 rcases hx with rfl | rfl | rfl | rfl | rfl
 · rw[lgt_leaf ho.rd];rfl
 · rw[lgt_leaf ho.rd];rfl
 · obtain⟨a,n,cap,rfl,-⟩:=ho.rd.opn
   rfl
 · rw[lgt_leaf ho.rd];rfl
 · rw[lgt_leaf ho.rd];rfl
structure GrP (w:World) (base:Nat) (v:Value) (us:List Value) (fs:List (List Nat)) (ds:List Dt):Prop where
 ul:us.length=ds.length
 fl:fs.length=ds.length
 el:∀(j:Nat) (d:Dt) (u:Value) (f:List Nat),ds[j]?= some d→us[j]?= some u→fs[j]?= some f→Odt w d u f
 nd:fs.flatten.Nodup
 lo:∀k∈fs.flatten,base≤k
 ow:∀g,v.ownBlock=some g→g ∉ fs.flatten
theorem GrP.lt {w:World} {base:Nat} {v:Value} {us:List Value} {fs:List (List Nat)} {ds:List Dt} (h:GrP w base v us fs ds):∀k∈fs.flatten,k<w.heap.size:=Grw.flt h.ul h.fl h.el
theorem Grw.parts {w:World} {base size n:Nat} {T:TypeId} {v:Value} {ds:List Dt} (h:Grw w base T size v n ds):∃us fs,w.ownsRow base T size v n us∧GrP w base v us fs ds:=by
 obtain⟨us,fs,r1,r2,r3,r4,r5,r6,r7⟩:=h
 exact⟨us,fs,r1,⟨r2,r3,r4,r5,r6,r7⟩⟩
theorem own_kept {w w':World} {base:Nat} {e:TypeId} {size:Nat} {v:Value} {n:Nat} {xs:List Value} (h:w.ownsRow base e size v n xs) (hk:∀g,v.ownBlock=some g→w'.heap[g]?= w.heap[g]?):w'.ownsRow base e size v n xs:=by
 refine⟨h.1,?_⟩
 rcases h.2 with h2 | ⟨g,cap,cur,rfl,q1,q2,q3⟩
 · exact .inl h2
 · exact .inr ⟨g,cap,cur,rfl,q1,by rw[hk g rfl];exact q2,q3⟩
theorem GrP.ins {w w2 w3:World} {base lo size n' p:Nat} {T:TypeId} {v v':Value} {ds ds':List Dt} {news us:List Value} {fs:List (List Nat)} (h:GrP w base v us fs ds)
 (hv:∀g,v.ownBlock=some g→g<w.heap.size) (hbb:w.heap.size≤lo) (hbl:base≤lo) (hls:lo≤w2.heap.size)
 (hN:Newd w2 lo news ds') (hr:w3.ownsRow base T size v' n' (us.take p++(news++us.drop p))) (hp:p≤ds.length)
 (hk1:∀k,base≤k→k<w.heap.size→v.ownBlock≠some k→w3.heap[k]?= w.heap[k]?) (hk2:∀k,lo≤k→k<w2.heap.size→w3.heap[k]?= w2.heap[k]?) (hgg:v'.ownBlock=v.ownBlock∨ ∃g,v'.ownBlock=some g∧w2.heap.size≤g):
 Grw w3 base T size v' n' (ds.take p++(ds'++ds.drop p)):=by
 obtain⟨h2,h3,h4,h5,h6,h7⟩:=h
 obtain⟨fs',k1,k2,k3,k4,k5⟩:=hN
 have hlt:∀k∈fs.flatten,k<w.heap.size:=Grw.flt h2 h3 h4
 have hlt':∀k∈fs'.flatten,k<w2.heap.size:=Grw.flt k1 k2 k3
 have hkold:∀k∈fs.flatten,w3.heap[k]?= w.heap[k]?:=fun k hk=>hk1 k (h6 k hk) (hlt k hk) (fun e=>h7 k e hk)
 have hknew:∀k∈fs'.flatten,w3.heap[k]?= w2.heap[k]?:=fun k hk=>hk2 k (k5 k hk) (hlt' k hk)
 have hperm:(fs.take p++(fs'++fs.drop p)).flatten.Perm (fs++fs').flatten:=by
  refine List.Perm.flatten ?_
  have e:fs++fs'=fs.take p++(fs.drop p++fs'):=by rw[←List.append_assoc,List.take_append_drop]
  rw[e]
  exact List.Perm.append_left _ List.perm_append_comm
 have hold:∀(j:Nat) (d:Dt) (u:Value) (f:List Nat),ds[j]?= some d→us[j]?= some u→fs[j]?= some f→Odt w3 d u f:=fun j d u f e1 e2 e3=>
  (h4 j d u f e1 e2 e3).kept fun k hk=>hkold k (List.mem_flatten.2 ⟨f,List.mem_of_getElem? e3,hk⟩)
 refine⟨us.take p++(news++us.drop p),fs.take p++(fs'++fs.drop p),hr,by simp[h2,k1],by simp[h3,k2],fun j d u f e1 e2 e3=> ?_,?_,fun k hk=> ?_,fun k hk hm=> ?_⟩
 · rw[get3] at e1 e2 e3
   have l1:(ds.take p).length=p:=by simp;omega
   have l2:(us.take p).length=p:=by simp;omega
   have l3:(fs.take p).length=p:=by simp;omega
   rw[l1] at e1;rw[l2,k1] at e2;rw[l3,k2] at e3
   split at e1
   · rename_i hj
     rw[if_pos hj] at e2 e3
     rw[List.getElem?_take_of_lt hj] at e1 e2 e3
     exact hold j d u f e1 e2 e3
   · rename_i hj
     rw[if_neg hj] at e2 e3
     split at e1
     · rename_i hj2
       rw[if_pos hj2] at e2 e3
       exact(k3 _ d u f e1 e2 e3).kept fun k hk=>hknew k (List.mem_flatten.2 ⟨f,List.mem_of_getElem? e3,hk⟩)
     · rename_i hj2
       rw[if_neg hj2] at e2 e3
       rw[List.getElem?_drop] at e1 e2 e3
       exact hold _ d u f e1 e2 e3
 · refine hperm.nodup_iff.2 ?_
   rw[List.flatten_append,List.nodup_append]
   exact⟨h5,k4,fun a ha b hb e=>by have:=hlt a ha;have:=k5 b hb;omega⟩
 · have hk:=hperm.mem_iff.1 hk
   rw[List.flatten_append,List.mem_append] at hk
   rcases hk with hk | hk
   · exact h6 k hk
   · have:=k5 k hk;omega
 · have hm:=hperm.mem_iff.1 hm
   rw[List.flatten_append,List.mem_append] at hm
   rcases hgg with e | ⟨g,e,hle⟩
   · rw[e] at hk
     rcases hm with hm | hm
     · exact h7 k hk hm
     · have:=hv k hk;have:=k5 k hm;omega
   · rw[e] at hk
     obtain rfl:=Option.some.inj hk
     rcases hm with hm | hm
     · have:=hlt g hm;omega
     · have:=hlt' g hm;omega
theorem GrP.del {w w3:World} {base size n n' p q:Nat} {T:TypeId} {v v':Value} {ds:List Dt} {us:List Value} {fs:List (List Nat)} (h:GrP w base v us fs ds)
 (hr:w3.ownsRow base T size v' n' (us.take p++us.drop q)) (hp:p≤q) (hq:q≤ds.length) (hk1:∀k,base≤k→k<w.heap.size→v.ownBlock≠some k→w3.heap[k]?= w.heap[k]?) (hgg:v'.ownBlock=v.ownBlock):
 Grw w3 base T size v' n' (ds.take p++ds.drop q):=by
 obtain⟨h2,h3,h4,h5,h6,h7⟩:=h
 have hlt:∀k∈fs.flatten,k<w.heap.size:=Grw.flt h2 h3 h4
 have hold:∀(j:Nat) (d:Dt) (u:Value) (f:List Nat),ds[j]?= some d→us[j]?= some u→fs[j]?= some f→Odt w3 d u f:=fun j d u f e1 e2 e3=>
  (h4 j d u f e1 e2 e3).kept fun k hk=>by
    have hm:=List.mem_flatten.2 ⟨f,List.mem_of_getElem? e3,hk⟩
    exact hk1 k (h6 k hm) (hlt k hm) (fun e=>h7 k e hm)
 have hsub:(fs.take p++fs.drop q).Sublist fs:=by
  conv=>rhs;rw[←List.take_append_drop p fs]
  refine List.Sublist.append_left ?_ _
  rw[show q=p+(q-p) by omega,←List.drop_drop]
  exact List.drop_sublist _ _
 have hsf:(fs.take p++fs.drop q).flatten.Sublist fs.flatten:=by
  rw[List.flatten_append]
  conv=>rhs;rw[←List.take_append_drop p fs,List.flatten_append]
  refine List.Sublist.append_left ?_ _
  conv=>rhs;rw[←List.take_append_drop (q-p) (fs.drop p),List.drop_drop,show p+(q-p)=q by omega,List.flatten_append]
  exact List.sublist_append_right _ _
 refine⟨us.take p++us.drop q,fs.take p++fs.drop q,hr,by simp[h2],by simp[h3],fun j d u f e1 e2 e3=> ?_,hsf.nodup h5,fun k hk=>h6 k (hsf.subset hk),fun k hk hm=>h7 k (by rw[←hgg];exact hk) (hsf.subset hm)⟩
 rw[List.getElem?_append] at e1 e2 e3
 have l1:(ds.take p).length=p:=by simp;omega
 have l2:(us.take p).length=p:=by simp;omega
 have l3:(fs.take p).length=p:=by simp;omega
 rw[l1] at e1;rw[l2] at e2;rw[l3] at e3
 split at e1
 · rename_i hj
   rw[if_pos hj] at e2 e3
   rw[List.getElem?_take_of_lt hj] at e1 e2 e3
   exact hold j d u f e1 e2 e3
 · rename_i hj
   rw[if_neg hj] at e2 e3
   rw[List.getElem?_drop] at e1 e2 e3
   exact hold _ d u f e1 e2 e3
end Go.Proofs.YtofcicomhnkocaaGreat
