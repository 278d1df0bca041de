import Derived.Test.YtofcicomhnkocaaGreatBx25
set_option linter.unusedVariables false
namespace Go.Proofs.YtofcicomhnkocaaGreat
set_option maxHeartbeats 12800000
open Go.RowKit Go.Sort
set_option maxRecDepth 100000
open Cpy
theorem GrP.ins2 {w w2 w3:World} {base lo size n' p:Nat} {T:TypeId} {v v':Value} {ds ds':List Dt} {news us:List Value} {fs:List (List Nat)} (h:GrP w base v us fs ds)
 (hv:∀g,v.ownBlock=some g→g<w.heap.size) (hbb:w.heap.size≤lo) (hbl:base≤lo) (hls:lo≤w2.heap.size)
 (hN:Newd w2 lo news ds') (hr:w3.ownsRow base T size v' n' (us.take p++(news++us.drop p))) (hp:p≤ds.length)
 (hk1:∀k,base≤k→k<w.heap.size→v.ownBlock≠some k→w3.heap[k]?= w.heap[k]?) (hk2:∀k,lo≤k→k<w2.heap.size→w3.heap[k]?= w2.heap[k]?) (hgg:∀g,v'.ownBlock=some g→w.heap.size≤g∧(g<lo∨w2.heap.size≤g)):
 Grw w3 base T size v' n' (ds.take p++(ds'++ds.drop p)):=by
 obtain⟨h2,h3,h4,h5,h6,h7⟩:=h
 obtain⟨fs',k1,k2,k3,k4,k5⟩:=hN
 have hlt:∀k∈fs.flatten,k<w.heap.size:=Grw.flt h2 h3 h4
 have hlt':∀k∈fs'.flatten,k<w2.heap.size:=Grw.flt k1 k2 k3
 have hkold:∀k∈fs.flatten,w3.heap[k]?= w.heap[k]?:=fun k hk=>hk1 k (h6 k hk) (hlt k hk) (fun e=>h7 k e hk)
 have hknew:∀k∈fs'.flatten,w3.heap[k]?= w2.heap[k]?:=fun k hk=>hk2 k (k5 k hk) (hlt' k hk)
 have hperm:(fs.take p++(fs'++fs.drop p)).flatten.Perm (fs++fs').flatten:=by
  refine List.Perm.flatten ?_
  have e:fs++fs'=fs.take p++(fs.drop p++fs'):=by rw[←List.append_assoc,List.take_append_drop]
  rw[e]
  exact List.Perm.append_left _ List.perm_append_comm
 have hold:∀(j:Nat) (d:Dt) (u:Value) (f:List Nat),ds[j]?= some d→us[j]?= some u→fs[j]?= some f→Odt w3 d u f:=fun j d u f e1 e2 e3=>
  (h4 j d u f e1 e2 e3).kept fun k hk=>hkold k (List.mem_flatten.2 ⟨f,List.mem_of_getElem? e3,hk⟩)
 refine⟨us.take p++(news++us.drop p),fs.take p++(fs'++fs.drop p),hr,by simp[h2,k1],by simp[h3,k2],fun j d u f e1 e2 e3=> ?_,?_,fun k hk=> ?_,fun k hk hm=> ?_⟩
 · rw[get3] at e1 e2 e3
   have l1:(ds.take p).length=p:=by simp;omega
   have l2:(us.take p).length=p:=by simp;omega
   have l3:(fs.take p).length=p:=by simp;omega
   rw[l1] at e1;rw[l2,k1] at e2;rw[l3,k2] at e3
   split at e1
   · rename_i hj
     rw[if_pos hj] at e2 e3
     rw[List.getElem?_take_of_lt hj] at e1 e2 e3
     exact hold j d u f e1 e2 e3
   · rename_i hj
     rw[if_neg hj] at e2 e3
     split at e1
     · rename_i hj2
       rw[if_pos hj2] at e2 e3
       exact(k3 _ d u f e1 e2 e3).kept fun k hk=>hknew k (List.mem_flatten.2 ⟨f,List.mem_of_getElem? e3,hk⟩)
     · rename_i hj2
       rw[if_neg hj2] at e2 e3
       rw[List.getElem?_drop] at e1 e2 e3
       exact hold _ d u f e1 e2 e3
 · refine hperm.nodup_iff.2 ?_
   rw[List.flatten_append,List.nodup_append]
   exact⟨h5,k4,fun a ha b hb e=>by have:=hlt a ha;have:=k5 b hb;omega⟩
 · have hk:=hperm.mem_iff.1 hk
   rw[List.flatten_append,List.mem_append] at hk
   rcases hk with hk | hk
   · exact h6 k hk
   · have:=k5 k hk;omega
 · have hm:=hperm.mem_iff.1 hm
   rw[List.flatten_append,List.mem_append] at hm
   have hq:=hgg k hk
   rcases hm with hm | hm
   · have:=hlt k hm;omega
   · have:=hlt' k hm;have:=k5 k hm;omega
theorem GrP.del2 {w w3:World} {base size n n' p q:Nat} {T:TypeId} {v v':Value} {ds:List Dt} {us:List Value} {fs:List (List Nat)} (h:GrP w base v us fs ds)
 (hr:w3.ownsRow base T size v' n' (us.take p++us.drop q)) (hp:p≤q) (hq:q≤ds.length) (hk1:∀k,base≤k→k<w.heap.size→v.ownBlock≠some k→w3.heap[k]?= w.heap[k]?) (hgg:∀g,v'.ownBlock=some g→w.heap.size≤g):
 Grw w3 base T size v' n' (ds.take p++ds.drop q):=by
 obtain⟨h2,h3,h4,h5,h6,h7⟩:=h
 have hlt:∀k∈fs.flatten,k<w.heap.size:=Grw.flt h2 h3 h4
 have hold:∀(j:Nat) (d:Dt) (u:Value) (f:List Nat),ds[j]?= some d→us[j]?= some u→fs[j]?= some f→Odt w3 d u f:=fun j d u f e1 e2 e3=>
  (h4 j d u f e1 e2 e3).kept fun k hk=>by
    have hm:=List.mem_flatten.2 ⟨f,List.mem_of_getElem? e3,hk⟩
    exact hk1 k (h6 k hm) (hlt k hm) (fun e=>h7 k e hm)
 have hsub:(fs.take p++fs.drop q).Sublist fs:=by
  conv=>rhs;rw[←List.take_append_drop p fs]
  refine List.Sublist.append_left ?_ _
  rw[show q=p+(q-p) by omega,←List.drop_drop]
  exact List.drop_sublist _ _
 have hsf:(fs.take p++fs.drop q).flatten.Sublist fs.flatten:=by
  rw[List.flatten_append]
  conv=>rhs;rw[←List.take_append_drop p fs,List.flatten_append]
  refine List.Sublist.append_left ?_ _
  conv=>rhs;rw[←List.take_append_drop (q-p) (fs.drop p),List.drop_drop,show p+(q-p)=q by omega,List.flatten_append]
  exact List.sublist_append_right _ _
 refine⟨us.take p++us.drop q,fs.take p++fs.drop q,hr,by simp[h2],by simp[h3],fun j d u f e1 e2 e3=> ?_,hsf.nodup h5,fun k hk=>h6 k (hsf.subset hk),fun k hk hm=>by have:=hlt k (hsf.subset hm);have:=hgg k hk;omega⟩
 rw[List.getElem?_append] at e1 e2 e3
 have l1:(ds.take p).length=p:=by simp;omega
 have l2:(us.take p).length=p:=by simp;omega
 have l3:(fs.take p).length=p:=by simp;omega
 rw[l1] at e1;rw[l2] at e2;rw[l3] at e3
 split at e1
 · rename_i hj
   rw[if_pos hj] at e2 e3
   rw[List.getElem?_take_of_lt hj] at e1 e2 e3
   exact hold j d u f e1 e2 e3
 · rename_i hj
   rw[if_neg hj] at e2 e3
   rw[List.getElem?_drop] at e1 e2 e3
   exact hold _ d u f e1 e2 e3
theorem l9WithoutG_any (v:Value) (p:Pln) (i:Nat) (w:World) (h:PlnR w v p) (hi:i<p.ls.length) (hn1:p.n.ns.length≤1048576) (hn2:p.n.fs.length≤1048576) (hl:p.ls.length≤1000) (hfb:∀x∈p.ls,x.fb.length≤900000):
 Calls Tryz.prog 104 #[v,.int .i64 (i:Int)] w (MkpP ⟨p.n,p.ls.eraseIdx i⟩ w):=by
 obtain⟨NP,hNP⟩:∃NP,NP=MkpP ⟨p.n,p.ls.eraseIdx i⟩ w:=⟨_,rfl⟩
 rw[←hNP]
 have HPU:=ξh (ξcv hi)
 have HCN:=ξh (fun w' (hb:Below w.heap.size w w')=>ξc6 v p w' (h.behind hb) hn1 hn2 hl hfb)
 obtain⟨u1,u2,u3,rfl,r1,r2,r3,hsm⟩:=h
 have hnet:NetR w (.agg #[u1,u2]) p.n:=⟨u1,u2,rfl,r1,r2,hsm⟩
 obtain⟨⟨a1,m1,c1,rfl⟩,a2,m2,c2,rfl⟩:=ξF hnet
 obtain⟨a3,m3,c3,rfl,HN3,hc3,hm3,ha3⟩:=ξa1 r3
 have hl3:m3≤1000:=by rw[←HN3.out];exact hl
 have hi3:i<m3:=by rw[←HN3.out];exact hi
 have hii:(i:Int)≤1000:=by omega
 obtain⟨n,ls⟩:=p
 dsimp only at *
 have HB3:=ξh (ξb2 w (.cells #[.slice a1 m1 c1,.slice a2 m2 c2,.slice a3 m3 c3] 75) (.cells #[.slice none 0 0,.slice none 0 0,.slice none 0 0] 75))
 have HNP:=ξh hNP
 clear r1 r2 r3 hsm hnet ha3 hfb hl hn1 hn2 hNP hi
 go_enter Tryz.func104,Tryz.ntmps104
 go_wp2_with fail
 generalize (w.alloc (.cells #[.slice a1 m1 c1,.slice a2 m2 c2,.slice a3 m3 c3] 75)).alloc (.cells #[.slice none 0 0,.slice none 0 0,.slice none 0 0] 75)=w3 at *
 refine(HCN.out w3 HB3.1).mono ?_
 rintro e w4 ⟨u1,u2,u3,B,fp,rfl,hG,b4⟩
 obtain⟨b3,g0,g1,hz3⟩:=HB3.out
 have K1:=ξh (ξA g1 b4)
 have HB4:=ξh (b3.trans (b4.mono b3.size))
 have HZ3:=ξh hz3
 obtain⟨a5,n5,c5,a6,n6,c6,e⟩:=hG.net.form
 simp only[Value.agg.injEq,Array.mk.injEq,List.cons.injEq,and_true] at e
 obtain⟨rfl,rfl⟩:=e
 have HBB:=ξh hG.bas
 obtain⟨us,fs,r4,gp⟩:=Grw.parts hG.lig
 dsimp only at r4 gp
 rw[HN3.out] at r4
 obtain⟨a7,c7,rfl⟩:=rowf r4
 have HG:=ξh hG
 have HGP:=ξh gp
 have HR4:=ξh r4
 have HL1:=ξh (lgt_one gp.ul gp.fl gp.el)
 have b5:=(ξb w4.heap.size w4).alloc (ξr _) (.cells #[.slice a5 n5 c5,.slice a6 n6 c6,.slice a7 m3 c7] 75)
 have hrow5:=ξN r4 b5
 obtain⟨k1,k2,k3,k4,k5⟩:=ξbi hrow5
 obtain⟨⟨k6,-,k8⟩,-⟩:=k5 i (by omega)
 obtain⟨⟨-,l7,l8⟩,l9⟩:=k5 (i+1) (by omega)
 have hml:=k3
 unfold maxLen at hml
 have HH:=ξh (fun w'=>slcL_head a7 m3 c7 i (by omega) k2 (by omega) k4 w')
 have HTA:=ξh (fun w'=>slcL_tail a7 m3 c7 (i+1) (by omega) k2 (by omega) w')
 rw[show((i+1:Nat):Int)=(i:Int)+1 by omega] at HTA
 have HN1:=ξh (show a7=none→i=0∧c7=0 from fun e=>by have:=k1 e;omega)
 have HN2:=ξh (show slcT a7 c7 (i+1) 5=none→m3-(i+1)=0∧c7-(i+1)=0 from l9)
 have HT1:=ξh k6
 have HD1:=ξh l7
 have HC1:=ξh (fun w' hb=>(k8 w' hb).1)
 have HC2:=ξh (show∀w',Below _ _ w'→ ∀ad,slcT a7 c7 (i+1) 5=some ad→ ∀j u,(us.drop ((i+1)*5))[j]?= some u→w'.cell? (ad.add j)=some u from fun w' hb=>(l8 w' hb).2)
 have HO1:=ξh (show∀u∈us.take (i*5),u.oneCell'=true from fun u hu=>HL1.out u (List.mem_of_mem_take hu))
 have HO2:=ξh (show∀u∈us.drop ((i+1)*5),u.oneCell'=true from fun u hu=>HL1.out u (List.mem_of_mem_drop hu))
 have hiw:IntKind.i64.wrap ((i:Int)+1)=(i:Int)+1:=ξi _ (by omega)
 have hiv:wrap64 ((i:Int)+1)=(i:Int)+1:=ξw _ (by omega)
 clear hG b4 b3 g0 g1 hz3 gp r4 HCN b5 hrow5 k1 k2 k3 k4 k5 k6 k8 l7 l8 l9 hml
 go_upto_region 2 with fail
 have HB5:=ξh ((ξb w4.heap.size w4).alloc (ξr _) (.cells #[.slice a5 n5 c5,.slice a6 n6 c6,.slice a7 m3 c7] 75))
 have HK5:=ξh (ξn w4 (.cells #[.slice a5 n5 c5,.slice a6 n6 c6,.slice a7 m3 c7] 75))
 have HZ5:=ξh (show(w4.alloc (.cells #[.slice a5 n5 c5,.slice a6 n6 c6,.slice a7 m3 c7] 75)).heap.size=w4.heap.size+1 by simp)
 generalize w4.alloc (.cells #[.slice a5 n5 c5,.slice a6 n6 c6,.slice a7 m3 c7] 75)=w5 at *
 obtain⟨dt,hdt⟩:∃dt,dt=slcT a7 c7 (i+1) 5:=⟨_,rfl⟩
 rw[←hdt] at HTA HN2 HC2
 clear hdt
 have HSS:=ξh (fun(w':World) (hb:Below w5.heap.size w5 w')=>show w'.cell? ⟨w4.heap.size,2,none⟩=some (.slice a7 m3 c7) from blkc (ξA HK5.out hb) rfl)
 refine ξH [0,1,2,3,4,5,6,7,8,9,10,11] (S:=fun w'=>w'.cell? ⟨w4.heap.size,2,none⟩=some (.slice a7 m3 c7)) (by kernel_rfl) (HSS.out _ (ξb _ _).drew) (fun hH=> ?_)
 have BL:Below w5.heap.size w5 w5.drew:=(ξb _ _).drew
 obtain⟨wc,hwc⟩:∃wc,wc=w5.drew:=⟨_,rfl⟩
 rw[←hwc] at BL hH ⊢
 clear hwc
 refine hlF 1 rfl hH ?_
 try simp only[Act.put,hlA,hlB,hlC]
 refine hlF 2 rfl hH ?_
 try simp only[Act.put,hlA,hlB,hlC]
 refine hlF 3 rfl hH ?_
 try simp only[Act.put,hlA,hlB,hlC]
 refine hlE 4 rfl hH ⟨.slice a7 i c7,by exact fun w' _=>ξbt rfl (HH.out w'),?_⟩
 try simp only[Act.put,hlA,hlB,hlC]
 refine hlF 6 rfl hH ?_
 try simp only[Act.put,hlA,hlB,hlC]
 refine hlF 7 rfl hH ?_
 try simp only[Act.put,hlA,hlB,hlC]
 refine hlF 8 rfl hH ?_
 try simp only[Act.put,hlA,hlB,hlC]
 refine hlF 9 rfl hH ?_
 try simp only[Act.put,hlA,hlB,hlC]
 refine hlE 10 rfl hH ⟨.slice dt (m3-(i+1)) (c7-(i+1)),by exact fun w' _=>ξbt rfl (HTA.out w'),?_⟩
 try simp only[Act.put,hlA,hlB,hlC]
 refine ξB (rs:=[0]) (by kernel_rfl) (by simp) ?_
 refine AllReadyL.cons rfl (fun KK hKK=> ?_) AllReadyL.nil
 go_simp
 obtain⟨b8,hb8⟩:∃bb,bb=wc.heap.size:=⟨_,rfl⟩
 have K8:=ξn wc (.cells #[] 86)
 rw[←hb8] at K8 ⊢
 have Y8:w5.heap.size≤b8:=by rw[hb8];exact BL.size
 have O8:=ξh (ξbx (size:=5) K8 Y8)
 have BL:=BL.alloc BL.size (.cells #[] 86)
 clear hb8 K8
 generalize wc.alloc (.cells #[] 86)=w8 at *
 refine hKK.out _ _ (HSS.out _ BL) (fun hH=> ?_)
 clear hKK KK
 try simp only[Act.put,hlA,hlB,hlC]
 refine ξB (rs:=[5]) (by kernel_rfl) (by simp) ?_
 refine AllReadyL.cons rfl (fun KK hKK=> ?_) AllReadyL.nil
 refine step_of_list rfl ?_
 refine wpList_catG rfl (.tmp 8) (.tmp 12) 73 86 rfl Tryz.underlying73 (.agg #[.int .i64 0,.int .i64 0,.slice none 0 0,.int .i64 0,.int .i64 0]) 5 56 Tryz.infoLgtI rfl (by decide) w5.heap.size (.slice (some ⟨b8,0,none⟩) 0 0) 0 [] (by rfl) O8.out a7 i c7 (us.take (i*5)) (by rfl) HT1.out HN1.out (HC1.out _ BL) HO1.out (by unfold maxLen;omega) (by omega) BL.size ?_
 intro v13 w13 o13 g13 l13
 have BL:Below w5.heap.size w5 w13:=Below.grown BL g13 BL.size (fun q hq=>(O8.lt q hq).1)
 have R13:=ξh o13
 clear o13 g13 l13 O8
 unfold wpList
 refine⟨rfl,?_⟩
 refine hKK.out _ _ (HSS.out _ BL) (fun hH=> ?_)
 clear hKK KK
 try simp only[Act.put,hlA,hlB,hlC]
 refine ξG 11 rfl (by kernel_rfl) (by kernel_rfl) (fun KK hKK=> ?_)
 refine step_of_list rfl ?_
 refine wpList_catG rfl (.tmp 13) (.tmp 18) 73 86 rfl Tryz.underlying73 (.agg #[.int .i64 0,.int .i64 0,.slice none 0 0,.int .i64 0,.int .i64 0]) 5 56 Tryz.infoLgtI rfl (by decide) w5.heap.size v13 (0+i) ([]++us.take (i*5)) (by rfl) R13.out dt (m3-(i+1)) (c7-(i+1)) (us.drop ((i+1)*5)) (by rfl) HD1.out HN2.out (HC2.out _ BL) HO2.out (by unfold maxLen;omega) (by omega) BL.size ?_
 intro v19 w19 o19 g19 l19
 have BL:Below w5.heap.size w5 w19:=Below.grown BL g19 BL.size (fun q hq=>(R13.lt q hq).1)
 rw[show 0+i+(m3-(i+1))=m3-1 by omega,List.nil_append] at o19
 obtain⟨N,hN⟩:∃N,N=m3-1:=⟨_,rfl⟩
 rw[←hN] at o19
 have HNN:=ξh hN
 have R19:=ξh o19
 obtain⟨a19,c19,rfl⟩:=rowf o19
 clear o19 g19 l19 R13 hN
 unfold wpList
 refine⟨rfl,?_⟩
 refine hKK.out _ _ ?_
 clear hKK KK
 try simp only[Act.put,hlA,hlB,hlC]
 refine ξG 12 rfl (by kernel_rfl) (by kernel_rfl) (fun KK hKK=> ?_)
 go_simp
 refine hKK.out _ _ ?_
 clear hKK KK
 try simp only[Act.put,hlA,hlB,hlC]
 refine ξG 13 rfl (by kernel_rfl) (by kernel_rfl) (fun KK hKK=> ?_)
 have hq4:=ξA HK5.out BL
 have y2:=blkc hq4 (j:=2) (u:= .slice a7 m3 c7) rfl
 have g2:w19.frozen? ⟨w4.heap.size,2,none⟩=false:=ξz _ _ _ _ _ hq4
 go_simp
 refine hKK.out _ _ ?_
 clear hKK KK
 try simp only[Act.put,hlA,hlB,hlC]
 refine ξS (by kernel_rfl) ?_ _
 rotate_left 1
 have hzl:w.heap.size+1+1≤w4.heap.size:=by have:=HBB.out;have:=HZ3.out;omega
 have q11:=ξe w19 w4.heap.size 2 _ 75 (.slice a19 N c19) hq4
 have HQ11:=ξh (show(w19.setCell ⟨w4.heap.size,2,none⟩ (.slice a19 N c19)).heap[w4.heap.size]?= some (.cells #[.slice a5 n5 c5,.slice a6 n6 c6,.slice a19 N c19] 75) from by rw[q11];simp)
 have HO11:=ξh (show∀j,j≠w4.heap.size→(w19.setCell ⟨w4.heap.size,2,none⟩ (.slice a19 N c19)).heap[j]?= w19.heap[j]? from fun j hj=>ξm _ ⟨w4.heap.size,2,none⟩ j _ hj)
 have HS11:=ξh (show(w19.setCell ⟨w4.heap.size,2,none⟩ (.slice a19 N c19)).heap.size=w19.heap.size by simp)
 have b19:Below w.heap.size w w19:=(HB4.trans (HB5.mono HB4.size)).trans (BL.mono (by have:=HZ5.out;omega))
 have HB11:=ξh (b19.setCell (p:=⟨w4.heap.size,2,none⟩) (by show w.heap.size≤w4.heap.size;omega) (.slice a19 N c19))
 have HR10:=ξh ((BL.block (w.heap.size+1) (by have:=HZ5.out;omega)).trans (ξA K1.out HB5.out))
 have HKK:=ξh (show∀j,j<w4.heap.size→w19.heap[j]?= w4.heap[j]? from fun j hj=>(BL.block j (by have:=HZ5.out;omega)).trans (HB5.block j hj))
 have HS19:=ξh BL.size
 generalize w19.setCell ⟨w4.heap.size,2,none⟩ (.slice a19 N c19)=w11 at *
 clear hzl q11 b19 BL hq4 y2 g2 hH hiw hiv
 have hr11:=(HO11.out _ (by have:=HBB.out;have:=HZ3.out;omega)).trans HR10.out
 obtain⟨q12,o12,s12,b12⟩:=ξaq (.slice a5 n5 c5) (.slice a6 n6 c6) (.slice a19 N c19) hr11
 have y0:=blkc HQ11.out (j:=0) (u:= .slice a5 n5 c5) rfl
 have y1:=blkc HQ11.out (j:=1) (u:= .slice a6 n6 c6) rfl
 have y2:=blkc HQ11.out (j:=2) (u:= .slice a19 N c19) rfl
 have z0:=blkc hr11 (j:=0) (u:= .slice none 0 0) rfl
 have z1:=blkc hr11 (j:=1) (u:= .slice none 0 0) rfl
 have z2:=blkc hr11 (j:=2) (u:= .slice none 0 0) rfl
 have f0:w11.frozen? ⟨w.heap.size+1,0,none⟩=false:=ξz _ _ _ _ _ hr11
 have f1:w11.frozen? ⟨w.heap.size+1,1,none⟩=false:=ξz _ _ _ _ _ hr11
 have f2:w11.frozen? ⟨w.heap.size+1,2,none⟩=false:=ξz _ _ _ _ _ hr11
 have HQ12:=ξh q12
 have HO12:=ξh o12
 have HS12:=ξh s12
 have HB12:=ξh (b12 w.heap.size w (by omega) HB11.out)
 clear hr11 q12 o12 s12 b12
 go_wp2_with fail
 generalize ((w11.setCell ⟨w.heap.size+1,0,none⟩ (.slice a5 n5 c5)).setCell ⟨w.heap.size+1,1,none⟩ (.slice a6 n6 c6)).setCell ⟨w.heap.size+1,2,none⟩ (.slice a19 N c19)=w12 at *
 clear y0 y1 y2 z0 z1 z2 f0 f1 f2
 have t0:=blkc HQ12.out (j:=0) (u:= .slice a5 n5 c5) rfl
 have t1:=blkc HQ12.out (j:=1) (u:= .slice a6 n6 c6) rfl
 have t2:=blkc HQ12.out (j:=2) (u:= .slice a19 N c19) rfl
 have hFIN:∀j,j≠w.heap.size+1→j≠w4.heap.size→w12.heap[j]?= w19.heap[j]?:=fun j h1 h2=>(HO12.out j h1).trans (HO11.out j h2)
 have hz3:=HZ3.out
 have hbb:=HBB.out
 have hz5:=HZ5.out
 have hs11:=HS11.out
 have hs12:=HS12.out
 have hs19:=HS19.out
 have hK12:∀j,w3.heap.size≤j→j<w4.heap.size→w12.heap[j]?= w4.heap[j]?:=fun j h0 h1=>(hFIN j (by omega) (by omega)).trans (HKK.out j h1)
 obtain⟨hp1,hp2⟩:=HPU.out
 have hdl:(ls.flatMap lgtD).length=m3*5:=by rw[←HGP.ul];exact HR4.1
 have hrow:=R19.out
 have hlig:Grw w12 B 86 5 (.slice a19 N c19) N ((ls.eraseIdx i).flatMap lgtD):=by
  rw[hp1]
  refine GrP.del2 (w:=w4) (n:=m3) HGP.out (ξaB (ξaD hrow fun k hk=>hFIN k (by have:=(hrow.lt k hk).1;omega) (by have:=(hrow.lt k hk).1;omega)) (by omega)) (by omega) (by rw[hdl];omega) (fun j h0 h1 _=>hK12 j (by omega) h1) (fun g hg=>by have:=(hrow.lt g hg).1;omega)
 have hNN:=HNN.out
 rw[HNP.out]
 exact bodyPost_ret (v:= .agg #[.slice a5 n5 c5,.slice a6 n6 c6,.slice a19 N c19]) (by simp[results,Tryz.results104,go_sem,t0,t1,t2]) rfl ⟨_,_,_,B,fp,rfl,⟨HG.net.keepP fun j hj=>by have:=HG.fpr j hj;exact hK12 j this.1 (by omega),HG.nod,fun j hj=>by have:=HG.fpr j hj;omega,⟨by omega,by omega⟩,by(try dsimp only);rw[hp2,HN3.out,←hNN];exact hlig⟩,HB12.out⟩
theorem l9PutG_any (v fv:Value) (p:Pln) (x:Lgt) (w:World) (h:PlnR w v p) (hx:Rd w fv x.fb) (hxl:x.fb.length≤900000) (hn1:p.n.ns.length≤1048576) (hn2:p.n.fs.length≤1048576) (hl:p.ls.length≤1000) (hfb:∀x∈p.ls,x.fb.length≤900000):
 Calls Tryz.prog 106 #[v,lgtV x fv] w (MkpP ⟨p.n,putL p.ls x⟩ w):=by
 obtain⟨NP,hNP⟩:∃NP,NP=MkpP ⟨p.n,putL p.ls x⟩ w:=⟨_,rfl⟩
 rw[←hNP]
 have HPU:=ξh (fun k (h0:k≤p.ls.length) h1 h2=>@putL_flat p.ls x k h0 h1 h2)
 have HCN:=ξh (fun w' (hb:Below w.heap.size w w')=>ξc6 v p w' (h.behind hb) hn1 hn2 hl hfb)
 obtain⟨u1,u2,u3,rfl,r1,r2,r3,hsm⟩:=h
 have HSM:=ξh (show NetSm p.n from hsm)
 have hnet:NetR w (.agg #[u1,u2]) p.n:=⟨u1,u2,rfl,r1,r2,hsm⟩
 obtain⟨⟨a1,m1,c1,rfl⟩,a2,m2,c2,rfl⟩:=ξF hnet
 obtain⟨a3,m3,c3,rfl,HN3,hc3,hm3,ha3⟩:=ξa1 r3
 have HRX:=ξh (fun(w':World) (hb:Below w.heap.size w w')=>show Rd w' fv x.fb from hx.belowAll hb)
 have HXL:=ξh hxl
 obtain⟨ax,nx,cx,rfl⟩:∃au nu cu,fv= .slice au nu cu:=by
  obtain⟨au,cu,hv,-⟩:=ξaI hx
  exact⟨_,_,_,hv⟩
 have hl3:m3≤1000:=by rw[←HN3.out];exact hl
 obtain⟨n,ls⟩:=p
 obtain⟨xi,xs,xf,xa,xc⟩:=x
 dsimp only[lgtV] at *
 have HB3:=ξh (ξal w (.cells #[.slice a1 m1 c1,.slice a2 m2 c2,.slice a3 m3 c3] 75) (.cells #[.int .i64 xi,.int .i64 xs,.slice ax nx cx,.int .i64 xa,.int .i64 xc] 86) (.cells #[.slice none 0 0,.slice none 0 0,.slice none 0 0] 75))
 have HNP:=ξh hNP
 clear r1 r2 r3 hsm hnet ha3 hfb hl hn1 hn2 hNP hx hxl
 go_enter Tryz.func106,Tryz.ntmps106
 go_wp2_with fail
 generalize ((w.alloc (.cells #[.slice a1 m1 c1,.slice a2 m2 c2,.slice a3 m3 c3] 75)).alloc (.cells #[.int .i64 xi,.int .i64 xs,.slice ax nx cx,.int .i64 xa,.int .i64 xc] 86)).alloc (.cells #[.slice none 0 0,.slice none 0 0,.slice none 0 0] 75)=w3 at *
 refine(HCN.out w3 HB3.1).mono ?_
 rintro e w4 ⟨u1,u2,u3,B,fp,rfl,hG,b4⟩
 obtain⟨b3,g0,g1,g2,hz3⟩:=HB3.out
 have K1:=ξh (ξA g1 b4)
 have K2:=ξh (ξA g2 b4)
 have HB4:=ξh (b3.trans (b4.mono b3.size))
 have HZ3:=ξh hz3
 obtain⟨a5,n5,c5,a6,n6,c6,e⟩:=hG.net.form
 simp only[Value.agg.injEq,Array.mk.injEq,List.cons.injEq,and_true] at e
 obtain⟨rfl,rfl⟩:=e
 have HBB:=ξh hG.bas
 obtain⟨us,fs,r4,gp⟩:=Grw.parts hG.lig
 dsimp only at r4 gp
 rw[HN3.out] at r4
 obtain⟨a7,c7,rfl⟩:=rowf r4
 obtain⟨_,_,_,e,-,-,r7,-⟩:=hG.rd HSM.out
 simp only[Value.agg.injEq,Array.mk.injEq,List.cons.injEq,and_true] at e
 obtain⟨rfl,rfl,rfl⟩:=e
 obtain⟨_,_,_,e,HN7,-,-,ha7⟩:=ξa1 r7
 simp only[Value.slice.injEq] at e
 obtain⟨rfl,rfl,rfl⟩:=e
 have HA:=ξh ha7
 have HG:=ξh hG
 have HGP:=ξh gp
 have HR4:=ξh r4
 have HL1:=ξh (lgt_one gp.ul gp.fl gp.el)
 clear hG b4 b3 g0 g1 g2 hz3 gp r4 HCN r7 ha7 HN7
 go_upto_region 2 with fail
 have HB5:=ξh ((ξb w4.heap.size w4).alloc (ξr _) (.cells #[.slice a5 n5 c5,.slice a6 n6 c6,.slice a7 m3 c7] 75))
 have HK5:=ξh (ξn w4 (.cells #[.slice a5 n5 c5,.slice a6 n6 c6,.slice a7 m3 c7] 75))
 have HZ5:=ξh (show(w4.alloc (.cells #[.slice a5 n5 c5,.slice a6 n6 c6,.slice a7 m3 c7] 75)).heap.size=w4.heap.size+1 by simp)
 generalize w4.alloc (.cells #[.slice a5 n5 c5,.slice a6 n6 c6,.slice a7 m3 c7] 75)=w5 at *
 go_wp2_with fail
 go_loopw [6] (fun i wr=>∃k:Nat,k≤m3∧i= .int .i64 k∧Hid (∀j,j<k→(ls[j]?.getD nilL).id<xi)∧Hid (Below w5.heap.size w5 wr)) (fun i _=>m3-(intOf i).toNat)
 case atStart=>exact⟨0,ξu _,rfl,fun j hj=>absurd hj (Nat.not_lt_zero j),ξb _ _⟩
 case round=>
  obtain⟨k,hk,rfl,HT,HB⟩:=hrel
  have hbx:=ξA HK5.out HB.out
  have q2:=blkc hbx (j:=2) (u:= .slice a7 m3 c7) rfl
  clear hbx
  by_cases hlt:k<m3
  case' pos=>
   have hltI:(k:Int)<(m3:Int):=by omega
   obtain⟨b3,o3,rfl,hbl,hcs⟩:=HA.out (by omega)
   obtain⟨u,e0,-⟩:=hcs k hlt
   have e0:=((HB5.trans (HB.mono HB5.size)).cell (p:=⟨b3,o3+k*5,none⟩) hbl).trans e0
   have hx1:=ξA (ξA K1.out HB5.out) HB.out
   have x0:=blkc hx1 (j:=0) (u:= .int .i64 xi) rfl
   clear hcs hbl hx1
   have HPK:=ξh (HPU.out k (by rw[HN3.out];exact hk) HT.out)
   have HDN:=ξh (show(ls[k]?.getD nilL).id<xi→ ∀j,j<k+1→(ls[j]?.getD nilL).id<xi from fun hd j hj=>by
    rcases Nat.lt_succ_iff_lt_or_eq.1 hj with h | rfl
    · exact HT.out j h
    · exact hd)
   generalize (ls[k]?.getD nilL).id=yi at *
   go_wp2
   have j0:=rg q2
   have j1:=rg e0
   have j2:=rg x0
   clear q2 e0 x0
   refine ξv ?_
   repeat (go_big_quiet_step (fail))
   refine wpQuiet_nil ?_
   rintro _ ⟨⟨dq,osq⟩,rfl⟩
   have HB6:=ξh (HB.trans ((ξc wr dq osq).mono HB.size))
   generalize grow (redrawn wr dq) osq=w6 at *
   clear j0 j1 j2
   by_cases hd:yi<xi
   · have hdd:decide (yi<xi)=true:=ξt hd
     have HD:=ξh (HDN.out hd)
     go_wp2_with fail
     go_roundw
     case rel=>exact⟨k+1,by omega,by go_num,HD.out,HB6.out⟩
     case measure=>simp[intOf];omega
   have hdd:decide (yi<xi)=false:=ξf hd
   have hdn:xi≤yi:=by omega
   have HPK:=ξh (HPK.out (fun _=>by first | exact hd | exact hdn))
   go_wp2_with fail
   clear hd hdd hdn HDN hltI
   generalize (some ⟨b3,o3,none⟩:Option Addr)=a7 at *
  case' neg=>
   have hltI:¬(k:Int)<(m3:Int):=by omega
   have HPK:=ξh (HPU.out k (by rw[HN3.out];exact hk) HT.out (fun h=>absurd (by rw[HN3.out] at h;exact h) hlt))
   go_wp2
   have j0:=rg q2
   clear q2
   refine ξv ?_
   repeat (go_big_quiet_step (fail))
   refine wpQuiet_nil ?_
   rintro _ ⟨⟨dq,osq⟩,rfl⟩
   have HB6:=ξh (HB.trans ((ξc wr dq osq).mono HB.size))
   generalize grow (redrawn wr dq) osq=w6 at *
   clear j0
   go_wp2_with fail
   clear hltI
  all_goals
   have HBX:=ξh (HB5.trans (HB6.mono HB5.size))
   have HBW6:=ξh (HB4.trans (HBX.mono HB4.size))
   have HX6:=ξh (ξA K1.out HBX.out)
   have HK6:=ξh (ξA HK5.out HB6.out)
   have hrow6:=ξN HR4.out HBX.out
   obtain⟨k1,k2,k3,k4,k5⟩:=ξbi hrow6
   obtain⟨⟨k6,l7,k8⟩,l9⟩:=k5 k hk
   have hml:=k3
   unfold maxLen at hml
   have HH:=ξh (fun w'=>slcL_head a7 m3 c7 k hk k2 (by omega) k4 w')
   have HTA:=ξh (fun w'=>slcL_tail a7 m3 c7 k hk k2 (by omega) w')
   have HN1:=ξh (show a7=none→k=0∧c7=0 from fun e=>by have:=k1 e;omega)
   have HN2:=ξh (show slcT a7 c7 k 5=none→m3-k=0∧c7-k=0 from l9)
   have HT1:=ξh k6
   have HD1:=ξh l7
   have HC1:=ξh (fun w' hb=>(k8 w' hb).1)
   have HC2:=ξh (show∀w',Below _ _ w'→ ∀ad,slcT a7 c7 k 5=some ad→ ∀j u,(us.drop (k*5))[j]?= some u→w'.cell? (ad.add j)=some u from fun w' hb=>(k8 w' hb).2)
   have HO1:=ξh (show∀u∈us.take (k*5),u.oneCell'=true from fun u hu=>HL1.out u (List.mem_of_mem_take hu))
   have HO2:=ξh (show∀u∈us.drop (k*5),u.oneCell'=true from fun u hu=>HL1.out u (List.mem_of_mem_drop hu))
   obtain⟨dt,hdt⟩:∃dt,dt=slcT a7 c7 k 5:=⟨_,rfl⟩
   rw[←hdt] at HTA HN2 HC2
   clear hdt hrow6 k1 k2 k3 k4 k5 k6 l7 k8 l9 hml
   have HCX:=ξh (fun w' (hb:Below w6.heap.size w6 w')=>l9Copy_any ⟨xi,xs,xf,xa,xc⟩ (.slice ax nx cx) w' (HRX.out w' (HBW6.trans (hb.mono HBW6.size))) HXL.out)
   have HSS:=ξh (fun(w':World) (hb:Below w6.heap.size w6 w')=>show w'.cell? ⟨w4.heap.size,2,none⟩=some (.slice a7 m3 c7)∧w'.cell? ⟨w.heap.size+1,0,none⟩=some (.int .i64 xi)∧w'.cell? ⟨w.heap.size+1,1,none⟩=some (.int .i64 xs)∧w'.cell? ⟨w.heap.size+1,2,none⟩=some (.slice ax nx cx)∧w'.cell? ⟨w.heap.size+1,3,none⟩=some (.int .i64 xa)∧w'.cell? ⟨w.heap.size+1,4,none⟩=some (.int .i64 xc) from
    ⟨blkc (ξA HK6.out hb) rfl,blkc (ξA HX6.out hb) rfl,blkc (ξA HX6.out hb) rfl,blkc (ξA HX6.out hb) rfl,blkc (ξA HX6.out hb) rfl,blkc (ξA HX6.out hb) rfl⟩)
   refine ξH [0,1,2,3,4,5,6,7,8,9,10,11,12,13,14] (S:=fun w'=>w'.cell? ⟨w4.heap.size,2,none⟩=some (.slice a7 m3 c7)∧w'.cell? ⟨w.heap.size+1,0,none⟩=some (.int .i64 xi)∧w'.cell? ⟨w.heap.size+1,1,none⟩=some (.int .i64 xs)∧w'.cell? ⟨w.heap.size+1,2,none⟩=some (.slice ax nx cx)∧w'.cell? ⟨w.heap.size+1,3,none⟩=some (.int .i64 xa)∧w'.cell? ⟨w.heap.size+1,4,none⟩=some (.int .i64 xc)) (by kernel_rfl) (HSS.out _ (ξb _ _).drew) (fun hH=> ?_)
   have BL:Below w6.heap.size w6 w6.drew:=(ξb _ _).drew
   obtain⟨wc,hwc⟩:∃wc,wc=w6.drew:=⟨_,rfl⟩
   rw[←hwc] at BL hH ⊢
   clear hwc
   refine hlF 1 rfl hH ?_
   try simp only[Act.put,hlA,hlB,hlC]
   refine hlF 2 rfl hH ?_
   try simp only[Act.put,hlA,hlB,hlC]
   refine hlF 3 rfl hH ?_
   try simp only[Act.put,hlA,hlB,hlC]
   refine hlE 4 rfl hH ⟨.slice a7 k c7,by exact fun w' _=>ξbt rfl (HH.out w'),?_⟩
   try simp only[Act.put,hlA,hlB,hlC]
   refine hlF 6 rfl hH ?_
   try simp only[Act.put,hlA,hlB,hlC]
   refine hlF 10 rfl hH ?_
   try simp only[Act.put,hlA,hlB,hlC]
   refine hlF 11 rfl hH ?_
   try simp only[Act.put,hlA,hlB,hlC]
   refine hlF 12 rfl hH ?_
   try simp only[Act.put,hlA,hlB,hlC]
   refine hlE 13 rfl hH ⟨.slice dt (m3-k) (c7-k),by exact fun w' _=>ξbt rfl (HTA.out w'),?_⟩
   try simp only[Act.put,hlA,hlB,hlC]
   refine ξB (rs:=[0]) (by kernel_rfl) (by simp) ?_
   refine AllReadyL.cons rfl (fun KK hKK=> ?_) AllReadyL.nil
   go_simp
   obtain⟨b8,hb8⟩:∃bb,bb=wc.heap.size:=⟨_,rfl⟩
   have K8:=ξn wc (.cells #[] 86)
   rw[←hb8] at K8 ⊢
   have Y8:w6.heap.size≤b8:=by rw[hb8];exact BL.size
   have O8:=ξh (ξbx (size:=5) K8 Y8)
   have BL:=BL.alloc BL.size (.cells #[] 86)
   clear hb8 K8
   generalize wc.alloc (.cells #[] 86)=w8 at *
   refine hKK.out _ _ (HSS.out _ BL) (fun hH=> ?_)
   clear hKK KK
   try simp only[Act.put,hlA,hlB,hlC]
   refine ξB (rs:=[5]) (by kernel_rfl) (by simp) ?_
   refine AllReadyL.cons rfl (fun KK hKK=> ?_) AllReadyL.nil
   refine step_of_list rfl ?_
   refine wpList_catG rfl (.tmp 27) (.tmp 31) 73 86 rfl Tryz.underlying73 (.agg #[.int .i64 0,.int .i64 0,.slice none 0 0,.int .i64 0,.int .i64 0]) 5 56 Tryz.infoLgtI rfl (by decide) w6.heap.size (.slice (some ⟨b8,0,none⟩) 0 0) 0 [] (by rfl) O8.out a7 k c7 (us.take (k*5)) (by rfl) HT1.out HN1.out (HC1.out _ BL) HO1.out (by unfold maxLen;omega) (by omega) BL.size ?_
   intro v13 w13 o13 g13 l13
   have BL:Below w6.heap.size w6 w13:=Below.grown BL g13 BL.size (fun q hq=>(O8.lt q hq).1)
   have R13:=ξh o13
   clear o13 g13 l13 O8
   unfold wpList
   refine⟨rfl,?_⟩
   refine hKK.out _ _ (HSS.out _ BL) (fun hH=> ?_)
   clear hKK KK
   try simp only[Act.put,hlA,hlB,hlC]
   refine ξB (rs:=[7]) (by kernel_rfl) (by simp) ?_
   refine AllReadyL.cons rfl (fun KK hKK=> ?_) AllReadyL.nil
   go_simp
   go_at_call 153
   refine(HCX.out _ BL).mono ?_
   rintro e w34 ⟨v34,rfl,o34,b34⟩
   have HLO:=ξh (show w6.heap.size≤w13.heap.size from BL.size)
   have R34:=ξh (ξN R13.out b34)
   have HVL:=ξh (fun g hg=>(R13.lt g hg).2)
   have BL:=BL.trans (b34.mono BL.size)
   have HS34:=ξh b34.size
   have O34:=ξh o34
   have H34:=ξh (ownP_one o34.own)
   clear o34 b34 R13
   refine hKK.out _ _ (HSS.out _ BL) (fun hH=> ?_)
   clear hKK KK
   refine ξB (rs:=[8]) (by kernel_rfl) (by simp) ?_
   refine AllReadyL.cons rfl (fun KK hKK=> ?_) AllReadyL.nil
   go_simp
   have K35:=ξh (ξn w34 (.cells #[.int .i64 xi,.int .i64 xs,v34,.int .i64 xa,.int .i64 xc] 86))
   have BA:=(ξb w34.heap.size w34).alloc (ξr _) (.cells #[.int .i64 xi,.int .i64 xs,v34,.int .i64 xa,.int .i64 xc] 86)
   have R34:=ξh (ξN R34.out BA)
   have O34:=ξh (OwR.below O34.out BA)
   have BL:=BL.trans (BA.mono BL.size)
   have HS34:=ξh (ξs HS34.out BA.size)
   clear BA
   obtain⟨b35,hb35⟩:∃bb,bb=w34.heap.size:=⟨_,rfl⟩
   rw[←hb35] at K35 ⊢
   clear hb35
   generalize w34.alloc (.cells #[.int .i64 xi,.int .i64 xs,v34,.int .i64 xa,.int .i64 xc] 86)=w35 at *
   refine hKK.out _ _ (HSS.out _ BL) (fun hH=> ?_)
   clear hKK KK
   try simp only[Act.put,hlA,hlB,hlC]
   refine ξB (rs:=[9]) (by kernel_rfl) (by simp) ?_
   refine AllReadyL.cons rfl (fun KK hKK=> ?_) AllReadyL.nil
   refine step_of_list rfl ?_
   refine wpList_catG rfl (.tmp 32) (.tmp 35) 73 86 rfl Tryz.underlying73 (.agg #[.int .i64 0,.int .i64 0,.slice none 0 0,.int .i64 0,.int .i64 0]) 5 56 Tryz.infoLgtI rfl (by decide) w6.heap.size v13 (0+k) ([]++us.take (k*5)) (by rfl) R34.out (some ⟨b35,0,none⟩) 1 1 [.int .i64 xi,.int .i64 xs,v34,.int .i64 xa,.int .i64 xc] (by rfl) rfl (fun e=>by cases e) (fun ad e j u hu=>by cases e;exact World.news_of_block K35.out j u hu) (fun z hz=>by simp only[List.mem_cons,List.not_mem_nil,or_false] at hz;rcases hz with e | e | e | e | e <;> rw[e] <;> first | rfl | exact H34.out) (by unfold maxLen;omega) (by omega) BL.size ?_
   intro v36 w36 o36 g36 l36
   have BL:Below w6.heap.size w6 w36:=Below.grown BL g36 BL.size (fun q hq=>(R34.lt q hq).1)
   have R36:=ξh o36
   have HV36:=ξh (show∀g,v36.ownBlock=some g→g<w13.heap.size∨w35.heap.size≤g from fun g hg=>by
    rcases l36 with e | e
    · exact .inl (HVL.out g (e▸hg))
    · rw[e] at hg;have:=ξo hg;right;omega)
   have HF36:=ξh (show∀j,w13.heap.size≤j→j<w35.heap.size→w36.heap[j]?= w35.heap[j]? from fun j h1 h2=>g36.block j h2 (fun e=>by have:=HVL.out j e.symm;omega))
   have HS36:=ξh g36.size
   clear o36 g36 l36 R34 K35
   unfold wpList
   refine⟨rfl,?_⟩
   refine hKK.out _ _ (HSS.out _ BL) (fun hH=> ?_)
   clear hKK KK
   try simp only[Act.put,hlA,hlB,hlC]
   refine ξG 14 rfl (by kernel_rfl) (by kernel_rfl) (fun KK hKK=> ?_)
   refine step_of_list rfl ?_
   refine wpList_catG rfl (.tmp 36) (.tmp 40) 73 86 rfl Tryz.underlying73 (.agg #[.int .i64 0,.int .i64 0,.slice none 0 0,.int .i64 0,.int .i64 0]) 5 56 Tryz.infoLgtI rfl (by decide) w6.heap.size v36 (0+k+1) ([]++us.take (k*5)++[.int .i64 xi,.int .i64 xs,v34,.int .i64 xa,.int .i64 xc]) (by rfl) R36.out dt (m3-k) (c7-k) (us.drop (k*5)) (by rfl) HD1.out HN2.out (HC2.out _ BL) HO2.out (by unfold maxLen;omega) (by omega) BL.size ?_
   intro v19 w19 o19 g19 l19
   have BL:Below w6.heap.size w6 w19:=Below.grown BL g19 BL.size (fun q hq=>(R36.lt q hq).1)
   rw[show 0+k+1+(m3-k)=m3+1 by omega,List.nil_append,List.append_assoc] at o19
   have HV19:=ξh (show∀g,v19.ownBlock=some g→g<w13.heap.size∨w35.heap.size≤g from fun g hg=>by
    rcases l19 with e | e
    · exact HV36.out g (e▸hg)
    · rw[e] at hg;have:=ξo hg;have:=HS36.out;right;omega)
   have HF19:=ξh (show∀j,w13.heap.size≤j→j<w35.heap.size→w19.heap[j]?= w35.heap[j]? from fun j h1 h2=>(g19.block j (ξq h2 HS36.out) (fun e=>by have:=HV36.out j e.symm;omega)).trans (HF36.out j h1 h2))
   obtain⟨N,hN⟩:∃N,N=m3+1:=⟨_,rfl⟩
   rw[←hN] at o19
   have HNN:=ξh hN
   have R19:=ξh o19
   obtain⟨a19,c19,rfl⟩:=rowf o19
   clear o19 g19 l19 R36 hN
   unfold wpList
   refine⟨rfl,?_⟩
   refine hKK.out _ _ ?_
   clear hKK KK
   try simp only[Act.put,hlA,hlB,hlC]
   refine ξG 15 rfl (by kernel_rfl) (by kernel_rfl) (fun KK hKK=> ?_)
   go_simp
   refine hKK.out _ _ ?_
   clear hKK KK
   try simp only[Act.put,hlA,hlB,hlC]
   refine ξG 16 rfl (by kernel_rfl) (by kernel_rfl) (fun KK hKK=> ?_)
   have hq4:=ξA HK6.out BL
   have y2:=blkc hq4 (j:=2) (u:= .slice a7 m3 c7) rfl
   have g2:w19.frozen? ⟨w4.heap.size,2,none⟩=false:=ξz _ _ _ _ _ hq4
   go_simp
   refine hKK.out _ _ ?_
   clear hKK KK
   try simp only[Act.put,hlA,hlB,hlC]
   refine ξS (by kernel_rfl) ?_ _
   rotate_left 1
   have hzl:w.heap.size+1+1+1≤w4.heap.size:=by have:=HBB.out;have:=HZ3.out;omega
   have hz46:w4.heap.size<w6.heap.size:=by have:=HB6.size;have:=HZ5.out;omega
   have q11:=ξe w19 w4.heap.size 2 _ 75 (.slice a19 N c19) hq4
   have HQ11:=ξh (show(w19.setCell ⟨w4.heap.size,2,none⟩ (.slice a19 N c19)).heap[w4.heap.size]?= some (.cells #[.slice a5 n5 c5,.slice a6 n6 c6,.slice a19 N c19] 75) from by rw[q11];simp)
   have HO11:=ξh (show∀j,j≠w4.heap.size→(w19.setCell ⟨w4.heap.size,2,none⟩ (.slice a19 N c19)).heap[j]?= w19.heap[j]? from fun j hj=>ξm _ ⟨w4.heap.size,2,none⟩ j _ hj)
   have HS11:=ξh (show(w19.setCell ⟨w4.heap.size,2,none⟩ (.slice a19 N c19)).heap.size=w19.heap.size by simp)
   have b19:Below w.heap.size w w19:=HBW6.trans (BL.mono HBW6.size)
   have HB11:=ξh (b19.setCell (p:=⟨w4.heap.size,2,none⟩) (by show w.heap.size≤w4.heap.size;omega) (.slice a19 N c19))
   have HR10:=ξh ((BL.block (w.heap.size+1+1) (by omega)).trans (ξA K2.out HBX.out))
   have HKK:=ξh (show∀j,j<w4.heap.size→w19.heap[j]?= w4.heap[j]? from fun j hj=>(BL.block j (by omega)).trans (HBX.block j hj))
   have HS19:=ξh BL.size
   have HZL:=ξh hzl
   have HZ46:=ξh hz46
   generalize w19.setCell ⟨w4.heap.size,2,none⟩ (.slice a19 N c19)=w11 at *
   clear hzl q11 b19 BL hq4 y2 g2 hH hz46
   have hr11:=(HO11.out _ (by have:=HZL.out;omega)).trans HR10.out
   obtain⟨q12,o12,s12,b12⟩:=ξaq (.slice a5 n5 c5) (.slice a6 n6 c6) (.slice a19 N c19) hr11
   have y0:=blkc HQ11.out (j:=0) (u:= .slice a5 n5 c5) rfl
   have y1:=blkc HQ11.out (j:=1) (u:= .slice a6 n6 c6) rfl
   have y2:=blkc HQ11.out (j:=2) (u:= .slice a19 N c19) rfl
   have z0:=blkc hr11 (j:=0) (u:= .slice none 0 0) rfl
   have z1:=blkc hr11 (j:=1) (u:= .slice none 0 0) rfl
   have z2:=blkc hr11 (j:=2) (u:= .slice none 0 0) rfl
   have f0:w11.frozen? ⟨w.heap.size+1+1,0,none⟩=false:=ξz _ _ _ _ _ hr11
   have f1:w11.frozen? ⟨w.heap.size+1+1,1,none⟩=false:=ξz _ _ _ _ _ hr11
   have f2:w11.frozen? ⟨w.heap.size+1+1,2,none⟩=false:=ξz _ _ _ _ _ hr11
   have HQ12:=ξh q12
   have HO12:=ξh o12
   have HS12:=ξh s12
   have HB12:=ξh (b12 w.heap.size w (by omega) HB11.out)
   clear hr11 q12 o12 s12 b12
   go_wp2_with fail
   generalize ((w11.setCell ⟨w.heap.size+1+1,0,none⟩ (.slice a5 n5 c5)).setCell ⟨w.heap.size+1+1,1,none⟩ (.slice a6 n6 c6)).setCell ⟨w.heap.size+1+1,2,none⟩ (.slice a19 N c19)=w12 at *
   clear y0 y1 y2 z0 z1 z2 f0 f1 f2
   have t0:=blkc HQ12.out (j:=0) (u:= .slice a5 n5 c5) rfl
   have t1:=blkc HQ12.out (j:=1) (u:= .slice a6 n6 c6) rfl
   have t2:=blkc HQ12.out (j:=2) (u:= .slice a19 N c19) rfl
   have hFIN:∀j,j≠w.heap.size+1+1→j≠w4.heap.size→w12.heap[j]?= w19.heap[j]?:=fun j h1 h2=>(HO12.out j h1).trans (HO11.out j h2)
   have hz3:=HZ3.out
   have hbb:=HBB.out
   have hz5:=HZ5.out
   have hzl:=HZL.out
   have hz46:=HZ46.out
   have hs11:=HS11.out
   have hs12:=HS12.out
   have hs19:=HS19.out
   have hs34:=HS34.out
   have hlo:=HLO.out
   have hK12:∀j,w3.heap.size≤j→j<w4.heap.size→w12.heap[j]?= w4.heap[j]?:=fun j h0 h1=>(hFIN j (by omega) (by omega)).trans (HKK.out j h1)
   obtain⟨hp1,hp2⟩:=HPK.out
   have hdl:(ls.flatMap lgtD).length=m3*5:=by rw[←HGP.ul];exact HR4.1
   have hrow:=R19.out
   have hlig:Grw w12 B 86 5 (.slice a19 N c19) N ((putL ls ⟨xi,xs,xf,xa,xc⟩).flatMap lgtD):=by
    rw[hp1]
    refine GrP.ins2 (w:=w4) (w2:=w35) (lo:=w13.heap.size) HGP.out (fun g hg=>(HR4.lt g hg).2) (by omega) (by omega) hs34 (newLgt (x:=⟨xi,xs,xf,xa,xc⟩) O34.own) (ξaB (ξaD hrow fun k' hk'=>hFIN k' (by have:=(hrow.lt k' hk').1;omega) (by have:=(hrow.lt k' hk').1;omega)) (by omega)) (by rw[hdl];omega) (fun j h0 h1 _=>hK12 j (by omega) h1) (fun j h0 h1=>(hFIN j (by omega) (by omega)).trans (HF19.out j h0 h1)) (fun g hg=>⟨by have:=(hrow.lt g hg).1;omega,HV19.out g hg⟩)
   have hNN:=HNN.out
   rw[HNP.out]
   exact bodyPost_ret (v:= .agg #[.slice a5 n5 c5,.slice a6 n6 c6,.slice a19 N c19]) (by simp[results,Tryz.results106,go_sem,t0,t1,t2]) rfl ⟨_,_,_,B,fp,rfl,⟨HG.net.keepP fun j hj=>by have:=HG.fpr j hj;exact hK12 j this.1 (by omega),HG.nod,fun j hj=>by have:=HG.fpr j hj;omega,⟨by omega,by omega⟩,by(try dsimp only);rw[hp2,HN3.out,←hNN];exact hlig⟩,HB12.out⟩
end Go.Proofs.YtofcicomhnkocaaGreat
