import Derived.Test.YtofcicomhnkocaaGreatBx31
import Derived.Test.YtofcicomhnkocaaGreatBx33
import Derived.Test.YtofcicomhnkocaaGreatBx30
set_option linter.unusedVariables false
namespace Go.Proofs.YtofcicomhnkocaaGreat
set_option maxHeartbeats 12800000
open Go.RowKit Go.Sort
set_option maxRecDepth 100000
theorem grs_len (zs:List Gro):(zs.flatMap groE).length=zs.length*6:=by
 induction zs with
 | nil=>rfl
 | cons z zs ih=>rw[List.flatMap_cons,ξk,ih,List.length_cons,Nat.add_mul];simp[groE];omega
theorem grs_at (zs:List Gro) (i r:Nat) (hr:r<6):(zs.flatMap groE)[i*6+r]?= (zs[i]?).bind fun z=>(groE z)[r]?:=by
 induction zs generalizing i with
 | nil=>simp
 | cons z zs ih=>
   have hl:(groE z).length=6:=rfl
   rw[List.flatMap_cons]
   rcases i with _ | i
   · rw[Nat.zero_mul,Nat.zero_add,List.getElem?_append_left (by omega)];simp
   · rw[List.getElem?_append_right (by omega),hl,show(i+1)*6+r-6=i*6+r by omega,ih i];simp
theorem grs_set (zs:List Gro) (i:Nat) (z:Gro) (hi:i<zs.length):(zs.set i z).flatMap groE=((((((zs.flatMap groE).set (i*6) (.int .i64 z.d.a)).set (i*6+1) (.int .i64 z.d.b)).set (i*6+2) (.int .i64 z.d.r)).set (i*6+3) (.int .i64 z.d.c)).set (i*6+4) (.int .i64 z.s)).set (i*6+5) (.int .i64 z.e):=by
 refine List.ext_getElem? fun j=> ?_
 by_cases hj:j<zs.length*6
 · obtain⟨q,r,hr,rfl⟩:∃q r,r<6∧j=q*6+r:=⟨j/6,j%6,by omega,by omega⟩
   have hl:=grs_len zs
   rw[grs_at _ q r hr]
   simp only[List.getElem?_set,List.length_set,hl]
   have hq:q<zs.length:=by omega
   by_cases e:i=q
   · subst e
     match r,hr with
     | 0,_=>simp[hi,groE] <;> omega
     | 1,_=>simp[hi,groE] <;> omega
     | 2,_=>simp[hi,groE] <;> omega
     | 3,_=>simp[hi,groE] <;> omega
     | 4,_=>simp[hi,groE] <;> omega
     | 5,_=>simp[hi,groE] <;> omega
   · rw[if_neg e,if_neg (by omega),if_neg (by omega),if_neg (by omega),if_neg (by omega),if_neg (by omega),if_neg (by omega),grs_at _ q r hr]
 · have h1:((zs.set i z).flatMap groE).length=zs.length*6:=by rw[grs_len,List.length_set]
   rw[List.getElem?_eq_none (by omega),List.getElem?_eq_none (by simp only[List.length_set,grs_len];omega)]
theorem GwR.open {w:World} {base:Nat} {v:Value} {zs:List Gro} (h:GwR w base v zs) (h0:0<zs.length):∃g c,v= .slice (some ⟨g,0,none⟩) zs.length c∧base≤g∧g<w.heap.size:=by
 rcases h.2 with ⟨-,e⟩ | ⟨g,cap,cur,e,h1,h2,-⟩
 · omega
 · exact⟨g,cap,e,h1,(ξa h2).1⟩
theorem GwR.cells {w:World} {base g c:Nat} {zs:List Gro} (h:GwR w base (.slice (some ⟨g,0,none⟩) zs.length c) zs) {i:Nat} (hi:i<zs.length):
 ∃z:Gro,(w.cell? ⟨g,i*6,none⟩=some (.int .i64 z.d.a)∧w.cell? ⟨g,i*6+1,none⟩=some (.int .i64 z.d.b)∧w.cell? ⟨g,i*6+2,none⟩=some (.int .i64 z.d.r)∧w.cell? ⟨g,i*6+3,none⟩=some (.int .i64 z.d.c)∧w.cell? ⟨g,i*6+4,none⟩=some (.int .i64 z.s)∧w.cell? ⟨g,i*6+5,none⟩=some (.int .i64 z.e))∧ ∀j,w.frozen? ⟨g,j,none⟩=false:=by
 have hc:∀r u,(groE (zs[i]?.getD nilG))[r]?= some u→w.cell? ⟨g,0+i*6+r,none⟩=some u:=fun r u hu=>ξa8 (m:=6) (enc:=groE) (fun _=>rfl) (by omega) nilG h.rd hi hu
 refine⟨zs[i]?.getD nilG,⟨?_,?_,?_,?_,?_,?_⟩,fun j=> ?_⟩
 · simpa using hc 0 _ rfl
 · simpa using hc 1 _ rfl
 · simpa using hc 2 _ rfl
 · simpa using hc 3 _ rfl
 · simpa using hc 4 _ rfl
 · simpa using hc 5 _ rfl
 · rcases h.2 with ⟨e,-⟩ | ⟨g',cap,cur,e,h1,h2,-⟩
   · cases e
   · simp only[Value.slice.injEq,Option.some.injEq,Addr.mk.injEq,and_true,true_and] at e
     obtain⟨rfl,rfl⟩:=e
     exact ξz _ _ _ _ _ h2
theorem GwR.put {w:World} {base g c:Nat} {zs:List Gro} (h:GwR w base (.slice (some ⟨g,0,none⟩) zs.length c) zs) {i:Nat} (hi:i<zs.length) (z:Gro):
 GwR ((((((w.setCell ⟨g,i*6,none⟩ (.int .i64 z.d.a)).setCell ⟨g,i*6+1,none⟩ (.int .i64 z.d.b)).setCell ⟨g,i*6+2,none⟩ (.int .i64 z.d.r)).setCell ⟨g,i*6+3,none⟩ (.int .i64 z.d.c)).setCell ⟨g,i*6+4,none⟩ (.int .i64 z.s)).setCell ⟨g,i*6+5,none⟩ (.int .i64 z.e)) base (.slice (some ⟨g,0,none⟩) zs.length c) (zs.set i z):=by
 unfold GwR SrR
 rw[grs_set zs i z hi,List.length_set]
 exact ξax (ξax (ξax (ξax (ξax (ξax h (by omega)) (by omega)) (by omega)) (by omega)) (by omega)) (by omega)
def GsP (w:World) (B:Nat) (c:Value) (K:Nat) (e:Ending) (w':World):Prop:=∃v zs,e= .returned v∧GwR w' w.heap.size v zs∧zs.length≤14∧CS w B c (K+600) w'
theorem ξc7 (B:Nat) (c:Value) (K:Nat) (a1 a2:Option Addr) (m1 c1 m2 c2:Nat) (w:World) (h:Cs w B c K) (hk:K≤500000000000000) (h2:2≤m1) (h16:m1≤16):
 Calls Tryz.prog 71 #[ptr B,.agg #[.slice a1 m1 c1,.slice a2 m2 c2]] w (GsP w B c K):=by
 have hBw:=h.lt.1
 obtain⟨NP,hNP⟩:∃NP,NP=GsP w B c K:=⟨_,rfl⟩
 rw[←hNP]
 have X1:=ξn w (.cells #[.slice a1 m1 c1,.slice a2 m2 c2] 35)
 have hz1:(w.alloc (.cells #[.slice a1 m1 c1,.slice a2 m2 c2] 35)).heap.size=w.heap.size+1:=by simp
 have R1:=SrR.start 55 6 groE (w.alloc (.cells #[.slice a1 m1 c1,.slice a2 m2 c2] 35))
 rw[hz1] at R1
 have C1:=ξh ((h.here.alloc (.cells #[.slice a1 m1 c1,.slice a2 m2 c2] 35)).alloc (.cells #[] 55))
 have X2:=ξh ((heap_alloc_old _ (.cells #[] 55) (by simp)).trans X1)
 have R2:=ξh (R1.lower (show w.heap.size≤w.heap.size+1 by omega))
 clear h hz1 X1 R1
 go_enter Tryz.func71,Tryz.ntmps71
 go_upto_region 2 with fail
 generalize (w.alloc (.cells #[.slice a1 m1 c1,.slice a2 m2 c2] 35)).alloc (.cells #[] 55)=w1 at *
 generalize (some (⟨w.heap.size+1,0,none⟩:Addr))=a5 at *
 have y0:=blkc X2.out (j:=0) (u:= .slice a1 m1 c1) rfl
 have y1:=blkc X2.out (j:=1) (u:= .slice a2 m2 c2) rfl
 go_wp2_with fail
 refine(demands_any B c _ a1 a2 m1 c1 m2 c2 _ C1.st (by omega) h2 h16).mono ?_
 rintro e w2 ⟨v6,ds,rfl,r6,hds,hc2⟩
 have CC:=ξh (C1.call hc2)
 have RR:=ξh (R2.cs hBw hc2)
 have hs1:=C1.size
 have hlt1:=R2.lt
 have HAP:=ξh (show∀g,(Value.slice a5 0 0).ownBlock=some g→v6.ownBlock≠some g from fun g hg e=>by have h1:=(hlt1 g hg).2;have h2:=(r6.lt g e).1;omega)
 have RD:=ξh (r6.lower hs1)
 obtain⟨aD,cD,rfl⟩:=r6.form
 clear C1 X2 R2 hc2 y0 y1 r6 hlt1 hs1
 go_wp2_with fail
 go_loopw [5,7] (fun s5 s7 wr=>∃(i:Nat) (zs:List Gro),i≤ds.length∧s7= .int .i64 i∧zs.length≤i∧Hid (GwR wr w.heap.size s5 zs)∧Hid (DmR wr w.heap.size (.slice aD ds.length cD) ds)∧Hid (∀g,s5.ownBlock=some g→(Value.slice aD ds.length cD).ownBlock≠some g)∧Hid (CS w B c (K+400+4*i) wr)) (fun _ s7 _=>ds.length-(intOf s7).toNat)
 case atStart=>exact⟨0,[],ξu _,rfl,ξu _,RR.out,RD.out,HAP.out,CC.mono (by omega)⟩
 case round=>
  clear RR RD HAP CC
  obtain⟨i,zs,hi,rfl,hzi,RR,RD,HAP,CC⟩:=hrel
  by_cases hlt:i<ds.length
  · have hltI:(i:Int)<(ds.length:Int):=by omega
    have hwi:IntKind.i64.wrap ((i:Int)+1)=((i+1:Nat):Int):=by rw[ξi _ (by omega)];omega
    go_wp2_with fail
    refine(ξX B c _ 8 _ CC.st (by omega) (by omega) (by omega)).mono ?_
    rintro e wA ⟨st,st0,st1,rfl,hcA,-⟩
    have CC:=ξh (CC.call hcA)
    have RR:=ξh (RR.cs hBw hcA)
    have RD:=ξh (RD.cs hBw hcA)
    clear hcA
    obtain⟨b,off,rfl⟩:∃b off,aD=some ⟨b,off,none⟩:=by
     obtain⟨a',n',c',e,-,-,-,h'⟩:=ξC (m:=4) (enc:=dmE4) (fun _=>rfl) (by omega) nilDm RD.rd
     cases e
     obtain⟨b,off,e,-⟩:=h' (by omega)
     exact⟨b,off,e⟩
    have HSS:=ξh (fun(w':World) (hr:DmR w' w.heap.size (.slice (some ⟨b,off,none⟩) ds.length cD) ds)=>show w'.cell? ⟨b,off+i*4,none⟩=some (.int .i64 (ds[i]?.getD nilDm).a)∧w'.cell? ⟨b,off+i*4+1,none⟩=some (.int .i64 (ds[i]?.getD nilDm).b)∧w'.cell? ⟨b,off+i*4+2,none⟩=some (.int .i64 (ds[i]?.getD nilDm).r)∧w'.cell? ⟨b,off+i*4+3,none⟩=some (.int .i64 (ds[i]?.getD nilDm).c) from
     ⟨ξa8 (m:=4) (enc:=dmE4) (fun _=>rfl) (by omega) nilDm hr.rd hlt (r:=0) rfl,ξa8 (m:=4) (enc:=dmE4) (fun _=>rfl) (by omega) nilDm hr.rd hlt (r:=1) rfl,ξa8 (m:=4) (enc:=dmE4) (fun _=>rfl) (by omega) nilDm hr.rd hlt (r:=2) rfl,ξa8 (m:=4) (enc:=dmE4) (fun _=>rfl) (by omega) nilDm hr.rd hlt (r:=3) rfl⟩)
    generalize ds[i]?.getD nilDm=d at *
    obtain⟨a5,c5,hv⟩:=RR.form
    subst hv
    go_upto_region 7 with fail
    refine ξH [0,1,2,3,4,5,6,7,8,9,10,11,12,13] (S:=fun w'=>w'.cell? ⟨b,off+i*4,none⟩=some (.int .i64 d.a)∧w'.cell? ⟨b,off+i*4+1,none⟩=some (.int .i64 d.b)∧w'.cell? ⟨b,off+i*4+2,none⟩=some (.int .i64 d.r)∧w'.cell? ⟨b,off+i*4+3,none⟩=some (.int .i64 d.c)) (by kernel_rfl) (HSS.out _ RD.out) (fun hH=> ?_)
    have CC:=ξh CC.drew
    have RR:=ξh (show GwR wA.drew w.heap.size _ zs from RR.out)
    have RD:=ξh (show DmR wA.drew w.heap.size _ ds from RD.out)
    obtain⟨wc,hwc⟩:∃wc,wc=wA.drew:=⟨_,rfl⟩
    rw[←hwc] at CC RR RD hH ⊢
    clear hwc
    refine hlF 0 rfl hH ?_
    try simp only[Act.put,hlA,hlB,hlC]
    refine hlF 1 rfl hH ?_
    try simp only[Act.put,hlA,hlB,hlC]
    refine hlF 2 rfl hH ?_
    try simp only[Act.put,hlA,hlB,hlC]
    refine hlF 3 rfl hH ?_
    try simp only[Act.put,hlA,hlB,hlC]
    refine hlF 4 rfl hH ?_
    try simp only[Act.put,hlA,hlB,hlC]
    refine hlF 5 rfl hH ?_
    try simp only[Act.put,hlA,hlB,hlC]
    refine hlF 6 rfl hH ?_
    try simp only[Act.put,hlA,hlB,hlC]
    refine hlF 7 rfl hH ?_
    try simp only[Act.put,hlA,hlB,hlC]
    refine ξB (rs:=[8]) (by kernel_rfl) (by simp) ?_
    refine AllReadyL.cons rfl (fun KK hKK=> ?_) AllReadyL.nil
    go_simp
    go_at_call 72
    refine(ξX B c _ 5 _ CC.st (by omega) (by omega) (by omega)).mono ?_
    rintro e wn ⟨xp,p0,p1,rfl,hcA,-⟩
    have RR:=ξh (RR.cs hBw hcA)
    have RD:=ξh (RD.cs hBw hcA)
    have CC:=ξh (CC.call hcA)
    have f3:IntKind.i64.wrap (st+xp)=st+xp:=ξi _ (by omega)
    clear hcA
    refine hKK.out _ _ (HSS.out _ RD.out) (fun hH=> ?_)
    clear hKK KK
    try simp only[Act.put,hlA,hlB,hlC]
    refine hlF 9 rfl hH ?_
    try simp only[Act.put,hlA,hlB,hlC]
    refine ξB (rs:=[10]) (by kernel_rfl) (by simp) ?_
    refine AllReadyL.cons rfl (fun KK hKK=> ?_) AllReadyL.nil
    go_simp
    go_at_call 124
    refine(ξbj _ _ _).mono ?_
    rintro e w7 ⟨xe,rfl,-,rfl⟩
    refine hKK.out _ _ (HSS.out _ RD.out) (fun hH=> ?_)
    clear hKK KK
    try simp only[Act.put,hlA,hlB,hlC]
    refine hlF 11 rfl hH ?_
    try simp only[Act.put,hlA,hlB,hlC]
    refine ξB (rs:=[12]) (by kernel_rfl) (by simp) ?_
    refine AllReadyL.cons rfl (fun KK hKK=> ?_) AllReadyL.nil
    go_simp
    have BA:Below wn.heap.size wn (wn.alloc (.cells #[.int .i64 d.a,.int .i64 d.b,.int .i64 d.r,.int .i64 d.c,.int .i64 st,.int .i64 xe] 55)):=(ξb _ _).alloc (ξr _) _
    have HNW:=ξh (ξn wn (.cells #[.int .i64 d.a,.int .i64 d.b,.int .i64 d.r,.int .i64 d.c,.int .i64 st,.int .i64 xe] 55))
    have RR:=ξh (RR.below BA)
    have RD:=ξh (RD.below BA)
    have CC:=ξh (CC.below BA)
    obtain⟨bg,hbg⟩:∃bg,bg=wn.heap.size:=⟨_,rfl⟩
    rw[←hbg] at HNW ⊢
    generalize wn.alloc (.cells #[.int .i64 d.a,.int .i64 d.b,.int .i64 d.r,.int .i64 d.c,.int .i64 st,.int .i64 xe] 55)=wm at *
    clear BA hbg
    refine hKK.out _ _ (HSS.out _ RD.out) (fun hH=> ?_)
    clear hKK KK
    try simp only[Act.put,hlA,hlB,hlC]
    refine ξG 13 rfl (by kernel_rfl) (by kernel_rfl) (fun KK hKK=> ?_)
    refine step_of_list rfl ?_
    have hsm:=CC.size
    refine wpList_catG rfl (.tmp 23) (.tmp 35) 39 55 rfl Tryz.underlying39 (.agg #[.int .i64 0,.int .i64 0,.int .i64 0,.int .i64 0,.int .i64 0,.int .i64 0]) 6 48 Tryz.infoGroD rfl (by decide) w.heap.size _ _ (zs.flatMap groE) (by rfl) RR.out (some ⟨bg,0,none⟩) 1 1 (groE ⟨d,st,xe⟩) (by rfl) rfl (fun e=>nomatch e) (fun ad e j u hu=>by cases e;exact World.news_of_block HNW.out j u hu) (groE_oneD _) (by unfold maxLen;omega) (by omega) hsm ?_
    intro v8 w8 o8 g8 l8
    have C8:=ξh (CC.grown g8 fun g hg=>(RR.lt g hg).1)
    have D8:=ξh (RD.kept fun g hg=>g8.block g (RD.lt g hg).2 (fun e=>HAP.out g e.symm hg))
    have R8:=ξh (SrR.snoc (en:=groE) (z:=⟨d,st,xe⟩) o8)
    have A8:=ξh (show∀g,v8.ownBlock=some g→(Value.slice (some ⟨b,off,none⟩) ds.length cD).ownBlock≠some g from fun g hg e=>by
     rcases l8 with q | q
     · exact HAP.out g (by rw[←q];exact hg) e
     · have h1:=(RD.lt g e).2
       rw[hg] at q
       have:=ξo q
       omega)
    clear o8 g8 l8
    unfold wpList
    refine⟨rfl,?_⟩
    refine hKK.out _ _ ?_
    clear hKK KK
    try simp only[Act.put,hlA,hlB,hlC]
    refine ξG 14 rfl (by kernel_rfl) (by kernel_rfl) (fun KK hKK=> ?_)
    go_simp
    refine hKK.out _ _ ?_
    clear hKK KK
    try simp only[Act.put,hlA,hlB,hlC]
    refine ξS (by kernel_rfl) ?_ _
    rotate_left 1
    obtain⟨a8,c8,hv8⟩:=R8.form
    subst hv8
    clear CC RR RD HSS HNW hH
    go_wp2_with fail
    go_roundw
    case rel=>exact⟨i+1,_,by omega,by go_num,by rw[ξk,List.length_singleton];omega,R8.out,D8.out,A8.out,C8.mono (by omega)⟩
    case measure=>simp[intOf];omega
  · have hltI:¬(i:Int)<(ds.length:Int):=by omega
    have hz14:zs.length≤14:=by omega
    by_cases h0:zs.length=0
    · obtain⟨a5,c5,hv⟩:=RR.form
      subst hv
      have h0T:((zs.length:Int)==0)=true:=by simp[h0]
      have hi14:i≤14:=by omega
      clear h0
      go_wp2_with fail
      subst hNP
      exact⟨_,zs,rfl,RR.out,hz14,CC.mono (by omega)⟩
    · obtain⟨g,c5,hv,hg0,-⟩:=GwR.open RR.out (by omega)
      subst hv
      have h0I:((zs.length:Int)==0)=false:=beq_eq_false_iff_ne.2 (by omega)
      clear RD HAP
      go_wp2_with fail
      refine(ξX B c _ (zs.length:Int) _ CC.st (by omega) (by omega) (by omega)).mono ?_
      rintro e wA ⟨xj,xj0,xj1,rfl,hcA,-⟩
      have CC:=ξh (CC.call hcA)
      have RR:=ξh (RR.cs hBw hcA)
      clear hcA
      obtain⟨jj,rfl⟩:=Int.eq_ofNat_of_zero_le xj0
      have hj:jj<zs.length:=by omega
      have hjI:(jj:Int)<(zs.length:Int):=by omega
      have hi14:i≤14:=by omega
      clear xj0 xj1 hzi hi hlt hltI hds h0
      obtain⟨z,⟨o0,o1,o2,o3,o4,o5⟩,-⟩:=GwR.cells RR.out hj
      have hgA:g<wA.heap.size:=(World.ownsRow.lt RR.out g rfl).2
      go_upto_region 12 with fail
      have RR:=ξh (RR.below ((ξb _ _).alloc (ξr _) (.cells #[.int .i64 z.d.a,.int .i64 z.d.b,.int .i64 z.d.r,.int .i64 z.d.c,.int .i64 z.s,.int .i64 z.e] 55)))
      have HX:=ξh (ξn wA (.cells #[.int .i64 z.d.a,.int .i64 z.d.b,.int .i64 z.d.r,.int .i64 z.d.c,.int .i64 z.s,.int .i64 z.e] 55))
      have hsA:=CC.size
      have CC:=ξh (CC.alloc (.cells #[.int .i64 z.d.a,.int .i64 z.d.b,.int .i64 z.d.r,.int .i64 z.d.c,.int .i64 z.s,.int .i64 z.e] 55))
      obtain⟨bx,hbq⟩:∃bx,bx=wA.heap.size:=⟨_,rfl⟩
      have hbx:w.heap.size≤bx:=by omega
      have hgb:g≠bx:=by omega
      rw[←hbq] at HX ⊢
      clear hbq o0 o1 o2 o3 o4 o5 hsA hgA
      generalize wA.alloc (.cells #[.int .i64 z.d.a,.int .i64 z.d.b,.int .i64 z.d.r,.int .i64 z.d.c,.int .i64 z.s,.int .i64 z.e] 55)=w2b at *
      go_wp2_with fail
      refine(ξX B c _ 40 _ CC.st (by omega) (by omega) (by omega)).mono ?_
      rintro e w3 ⟨k,k0,k1,rfl,hc3,-⟩
      have HX:=ξh (CC.blk2 hc3 hbx HX.out)
      have RR:=ξh (RR.cs hBw hc3)
      have CC:=ξh (CC.call hc3)
      clear hc3
      by_cases e0:k=0
      · subst e0
        have CA:=ξh (CC.alloc (.cells #[.int .i64 (-1),.int .i64 8] 3))
        have RA:=ξh (RR.below ((ξb _ _).alloc (ξr _) (.cells #[.int .i64 (-1),.int .i64 8] 3)))
        have XA:=ξh (ξA HX.out ((ξb _ _).alloc (ξr _) (.cells #[.int .i64 (-1),.int .i64 8] 3)))
        have HG:=ξh (ξar (n:=2) (lo:= -1) (hi:=8) (ξn w3 (.cells #[.int .i64 (-1),.int .i64 8] 3)) (by
         intro j hj
         rcases j with _ | _ | j
         · exact⟨-1,by omega,by omega,rfl⟩
         · exact⟨8,by omega,by omega,rfl⟩
         · omega))
        have hl3:=CC.st.lt.1
        go_wp2_with fail
        refine(ξaw B c _ w3.heap.size 2 2 (-1) 8 _ CA.st (by omega) (by omega) (by omega) (by omega) HG.out).mono ?_
        rintro e w4 ⟨y,y0,y1,rfl,hc4,-⟩
        have C4:=ξh (CA.call hc4)
        have R4:=ξh (RA.cs hBw hc4)
        have X4:=ξh (CA.blk2 hc4 hbx XA.out)
        clear CA RA XA HG hc4 CC RR HX
        have q0:=blkc X4.out (j:=0) (u:= .int .i64 z.d.a) rfl
        have q1:=blkc X4.out (j:=1) (u:= .int .i64 z.d.b) rfl
        have q2:=blkc X4.out (j:=2) (u:= .int .i64 z.d.r) rfl
        have q3:=blkc X4.out (j:=3) (u:= .int .i64 z.d.c) rfl
        have q4:=blkc X4.out (j:=4) (u:= .int .i64 z.s) rfl
        have q5:=blkc X4.out (j:=5) (u:= .int .i64 z.e) rfl
        have fz6:w4.frozen? ⟨bx,4,none⟩=false:=ξz _ _ _ _ _ X4.out
        go_upto_region 17 with fail
        have X5:=ξh (ξe w4 bx 4 _ _ (.int .i64 y) X4.out)
        have C5:=ξh (C4.set (b:=bx) (j:=4) hbx (.int .i64 y))
        have R5:=ξh (SrR.kept (w':=w4.setCell ⟨bx,4,none⟩ (.int .i64 y)) R4.out (fun q hq=>ξm w4 ⟨bx,4,none⟩ q _ (fun e=>hgb (by have h1:g=q:=ξo hq;have h2:q=bx:=e;rw[h1,h2]))))
        generalize w4.setCell ⟨bx,4,none⟩ (.int .i64 y)=w9 at *
        clear q0 q1 q2 q3 q4 q5 fz6
        have q0:=blkc X5.out (j:=0) (u:= .int .i64 z.d.a) rfl
        have q1:=blkc X5.out (j:=1) (u:= .int .i64 z.d.b) rfl
        have q2:=blkc X5.out (j:=2) (u:= .int .i64 z.d.r) rfl
        have q3:=blkc X5.out (j:=3) (u:= .int .i64 z.d.c) rfl
        have q4:=blkc X5.out (j:=4) (u:= .int .i64 y) rfl
        have q5:=blkc X5.out (j:=5) (u:= .int .i64 z.e) rfl
        obtain⟨zo,⟨o0,o1,o2,o3,o4,o5⟩,fzo⟩:=GwR.cells R5.out hj
        have g0:=fzo (jj*6)
        have g1:=fzo (jj*6+1)
        have g2:=fzo (jj*6+2)
        have g3:=fzo (jj*6+3)
        have g4:=fzo (jj*6+4)
        have g5:=fzo (jj*6+5)
        have R9:=ξh (GwR.put R5.out hj ⟨⟨z.d.a,z.d.b,z.d.r,z.d.c⟩,y,z.e⟩)
        have C9:=ξh ((((((C5.set (b:=g) (j:=jj*6) hg0 (.int .i64 z.d.a)).set (b:=g) (j:=jj*6+1) hg0 (.int .i64 z.d.b)).set (b:=g) (j:=jj*6+2) hg0 (.int .i64 z.d.r)).set (b:=g) (j:=jj*6+3) hg0 (.int .i64 z.d.c)).set (b:=g) (j:=jj*6+4) hg0 (.int .i64 y)).set (b:=g) (j:=jj*6+5) hg0 (.int .i64 z.e))
        clear fzo
        have R9b:=ξh (show GwR _ w.heap.size (.slice (some ⟨g,0,none⟩) zs.length c5) (zs.set jj ⟨⟨z.d.a,z.d.b,z.d.r,z.d.c⟩,y,z.e⟩) from R9.out)
        go_wp2_with fail
        subst hNP
        exact⟨_,_,rfl,R9b.out,by rw[List.length_set];exact hz14,C9.mono (by omega)⟩
      by_cases e1:k=1
      · subst e1
        obtain⟨p,hp⟩:∃p,IntKind.i64.wrap (z.s-1)=p:=⟨_,rfl⟩
        obtain⟨lo,hi,hl8,hlp,hh8,hhp⟩:∃lo hi:Int,lo≤8∧lo≤p∧8≤hi∧p≤hi:=⟨min 8 p,max 8 p,by omega,by omega,by omega,by omega⟩
        have CA:=ξh (CC.alloc (.cells #[.int .i64 8,.int .i64 p] 3))
        have RA:=ξh (RR.below ((ξb _ _).alloc (ξr _) (.cells #[.int .i64 8,.int .i64 p] 3)))
        have XA:=ξh (ξA HX.out ((ξb _ _).alloc (ξr _) (.cells #[.int .i64 8,.int .i64 p] 3)))
        have HG:=ξh (ξar (n:=2) (lo:=lo) (hi:=hi) (ξn w3 (.cells #[.int .i64 8,.int .i64 p] 3)) (by
         intro j hj
         rcases j with _ | _ | j
         · exact⟨8,hl8,hh8,rfl⟩
         · exact⟨p,hlp,hhp,rfl⟩
         · omega))
        have hl3:=CC.st.lt.1
        have q4:=blkc HX.out (j:=4) (u:= .int .i64 z.s) rfl
        go_wp2_with fail
        refine(ξaw B c _ w3.heap.size 2 2 lo hi _ CA.st (by omega) (by omega) (by omega) (by omega) HG.out).mono ?_
        rintro e w4 ⟨y,y0,y1,rfl,hc4,-⟩
        have C4:=ξh (CA.call hc4)
        have R4:=ξh (RA.cs hBw hc4)
        have X4:=ξh (CA.blk2 hc4 hbx XA.out)
        clear CA RA XA HG hc4 CC RR HX q4
        have q0:=blkc X4.out (j:=0) (u:= .int .i64 z.d.a) rfl
        have q1:=blkc X4.out (j:=1) (u:= .int .i64 z.d.b) rfl
        have q2:=blkc X4.out (j:=2) (u:= .int .i64 z.d.r) rfl
        have q3:=blkc X4.out (j:=3) (u:= .int .i64 z.d.c) rfl
        have q4:=blkc X4.out (j:=4) (u:= .int .i64 z.s) rfl
        have q5:=blkc X4.out (j:=5) (u:= .int .i64 z.e) rfl
        have fz6:w4.frozen? ⟨bx,5,none⟩=false:=ξz _ _ _ _ _ X4.out
        go_upto_region 17 with fail
        have X5:=ξh (ξe w4 bx 5 _ _ (.int .i64 y) X4.out)
        have C5:=ξh (C4.set (b:=bx) (j:=5) hbx (.int .i64 y))
        have R5:=ξh (SrR.kept (w':=w4.setCell ⟨bx,5,none⟩ (.int .i64 y)) R4.out (fun q hq=>ξm w4 ⟨bx,5,none⟩ q _ (fun e=>hgb (by have h1:g=q:=ξo hq;have h2:q=bx:=e;rw[h1,h2]))))
        generalize w4.setCell ⟨bx,5,none⟩ (.int .i64 y)=w9 at *
        clear q0 q1 q2 q3 q4 q5 fz6
        have q0:=blkc X5.out (j:=0) (u:= .int .i64 z.d.a) rfl
        have q1:=blkc X5.out (j:=1) (u:= .int .i64 z.d.b) rfl
        have q2:=blkc X5.out (j:=2) (u:= .int .i64 z.d.r) rfl
        have q3:=blkc X5.out (j:=3) (u:= .int .i64 z.d.c) rfl
        have q4:=blkc X5.out (j:=4) (u:= .int .i64 z.s) rfl
        have q5:=blkc X5.out (j:=5) (u:= .int .i64 y) rfl
        obtain⟨zo,⟨o0,o1,o2,o3,o4,o5⟩,fzo⟩:=GwR.cells R5.out hj
        have g0:=fzo (jj*6)
        have g1:=fzo (jj*6+1)
        have g2:=fzo (jj*6+2)
        have g3:=fzo (jj*6+3)
        have g4:=fzo (jj*6+4)
        have g5:=fzo (jj*6+5)
        have R9:=ξh (GwR.put R5.out hj ⟨⟨z.d.a,z.d.b,z.d.r,z.d.c⟩,z.s,y⟩)
        have C9:=ξh ((((((C5.set (b:=g) (j:=jj*6) hg0 (.int .i64 z.d.a)).set (b:=g) (j:=jj*6+1) hg0 (.int .i64 z.d.b)).set (b:=g) (j:=jj*6+2) hg0 (.int .i64 z.d.r)).set (b:=g) (j:=jj*6+3) hg0 (.int .i64 z.d.c)).set (b:=g) (j:=jj*6+4) hg0 (.int .i64 z.s)).set (b:=g) (j:=jj*6+5) hg0 (.int .i64 y))
        clear fzo
        have R9b:=ξh (show GwR _ w.heap.size (.slice (some ⟨g,0,none⟩) zs.length c5) (zs.set jj ⟨⟨z.d.a,z.d.b,z.d.r,z.d.c⟩,z.s,y⟩) from R9.out)
        go_wp2_with fail
        subst hNP
        exact⟨_,_,rfl,R9b.out,by rw[List.length_set];exact hz14,C9.mono (by omega)⟩
      go_upto_region 17 with fail
      have q0:=blkc HX.out (j:=0) (u:= .int .i64 z.d.a) rfl
      have q1:=blkc HX.out (j:=1) (u:= .int .i64 z.d.b) rfl
      have q2:=blkc HX.out (j:=2) (u:= .int .i64 z.d.r) rfl
      have q3:=blkc HX.out (j:=3) (u:= .int .i64 z.d.c) rfl
      have q4:=blkc HX.out (j:=4) (u:= .int .i64 z.s) rfl
      have q5:=blkc HX.out (j:=5) (u:= .int .i64 z.e) rfl
      obtain⟨zo,⟨o0,o1,o2,o3,o4,o5⟩,fzo⟩:=GwR.cells RR.out hj
      have g0:=fzo (jj*6)
      have g1:=fzo (jj*6+1)
      have g2:=fzo (jj*6+2)
      have g3:=fzo (jj*6+3)
      have g4:=fzo (jj*6+4)
      have g5:=fzo (jj*6+5)
      have R9:=ξh (GwR.put RR.out hj ⟨⟨z.d.a,z.d.b,z.d.r,z.d.c⟩,z.s,z.e⟩)
      have C9:=ξh ((((((CC.set (b:=g) (j:=jj*6) hg0 (.int .i64 z.d.a)).set (b:=g) (j:=jj*6+1) hg0 (.int .i64 z.d.b)).set (b:=g) (j:=jj*6+2) hg0 (.int .i64 z.d.r)).set (b:=g) (j:=jj*6+3) hg0 (.int .i64 z.d.c)).set (b:=g) (j:=jj*6+4) hg0 (.int .i64 z.s)).set (b:=g) (j:=jj*6+5) hg0 (.int .i64 z.e))
      clear fzo
      have R9b:=ξh (show GwR _ w.heap.size (.slice (some ⟨g,0,none⟩) zs.length c5) (zs.set jj ⟨⟨z.d.a,z.d.b,z.d.r,z.d.c⟩,z.s,z.e⟩) from R9.out)
      go_wp2_with fail
      subst hNP
      exact⟨_,_,rfl,R9b.out,by rw[List.length_set];exact hz14,C9.mono (by omega)⟩
structure GrF (w:World) (base:Nat) (u1 u2 fv gv:Value) (n:Net) (gs:List Gro):Prop where
 nt:NtD w base u1 u2 n
 fm:∃g off nf cf,fv= .slice (some ⟨g,off,none⟩) nf cf∧nf≤8∧FmB w base g off nf cf
 gw:GwR w base gv gs
 gl:gs.length≤14
section
variable {w w' : World} {base b' B K : Nat} {c u1 u2 fv gv : Value} {n : Net} {gs : List Gro}
theorem GrF.kept (h:GrF w base u1 u2 fv gv n gs) (hk:∀g,base≤g→g<w.heap.size→w'.heap[g]?= w.heap[g]?):GrF w' base u1 u2 fv gv n gs:=by
 obtain⟨h1,⟨g,off,nf,cf,e,hl,h2⟩,h3,h4⟩:=h
 exact⟨h1.kept fun g _ hg=>hk g (h1.lt g hg).1 (h1.lt g hg).2,⟨g,off,nf,cf,e,hl,h2.kept (hk g h2.1 h2.lt)⟩,SrR.kept h3 fun g hg=>hk g (World.ownsRow.lt h3 g hg).1 (World.ownsRow.lt h3 g hg).2,h4⟩
theorem GrF.set {b j:Nat} {x:Value} (h:GrF w base u1 u2 fv gv n gs) (hb:b<base):GrF (w.setCell ⟨b,j,none⟩ x) base u1 u2 fv gv n gs:=h.kept fun g h1 _=>ξm w ⟨b,j,none⟩ g x (by show g≠b;omega)
theorem GrF.lower (h:GrF w base u1 u2 fv gv n gs) (hb:b'≤base):GrF w b' u1 u2 fv gv n gs:=by
 obtain⟨h1,⟨g,off,nf,cf,e,hl,h2⟩,h3,h4⟩:=h
 exact⟨h1.base hb,⟨g,off,nf,cf,e,hl,h2.mono hb⟩,SrR.lower h3 hb,h4⟩
theorem GrF.rd (h:GrF w base u1 u2 fv gv n gs):∃fs:List Fmt,NetR w (.agg #[u1,u2]) n∧Rdt w (flt 2 fmE fs) fv∧Rdt w (flt 6 groE gs) gv:=by
 obtain⟨h1,⟨g,off,nf,cf,rfl,hl,h2⟩,h3,h4⟩:=h
 obtain⟨fs,-,hf⟩:=h2.rd
 exact⟨fs,h1.rd,hf,SrR.rd h3⟩
end
def GrnP (w:World) (B:Nat) (c:Value) (K:Nat) (e:Ending) (w':World):Prop:=∃a1 m1 c1 a2 m2 c2 af mf cf ag mg cg n gs,e= .returned (.tuple #[.agg #[.slice a1 m1 c1,.slice a2 m2 c2],.slice af mf cf,.slice ag mg cg])∧GrF w' w.heap.size (.slice a1 m1 c1) (.slice a2 m2 c2) (.slice af mf cf) (.slice ag mg cg) n gs∧CS w B c (K+1500) w'
theorem grown_any (B:Nat) (c:Value) (K:Nat) (w:World) (h:Cs w B c K) (hk:K≤100000000000000):
 Calls Tryz.prog 88 #[ptr B] w (GrnP w B c K):=by
 have hBw:=h.lt.1
 obtain⟨NP,hNP⟩:∃NP,NP=GrnP w B c K:=⟨_,rfl⟩
 rw[←hNP]
 have C1:=ξh (h.here.alloc (.cells #[.slice none 0 0,.slice none 0 0] 35))
 have R1:=ξh (ξn w (.cells #[.slice none 0 0,.slice none 0 0] 35))
 clear h
 go_enter Tryz.func88,Tryz.ntmps88
 go_upto_region 1 with fail
 generalize w.alloc (.cells #[.slice none 0 0,.slice none 0 0] 35)=w1 at *
 obtain⟨br,hq⟩:∃br,br=w.heap.size:=⟨_,rfl⟩
 have hbr:w.heap.size≤br:=by omega
 have hr1:br<w1.heap.size:=by have:=(ξa R1.out).1;omega
 have hBr:B<br:=by omega
 have hBb:B<br+1:=by omega
 rw[←hq] at R1 ⊢
 clear hq
 go_wp2_with fail
 refine(ξcx B c _ _ C1.st (by omega)).mono ?_
 rintro e w2 ⟨u1,u2,n,rfl,-,hd,hc2⟩
 obtain⟨⟨a1,c1,rfl⟩,⟨a2,c2,rfl⟩⟩:=hd.slices
 have CC:=ξh (C1.call hc2)
 have HR:=ξh (C1.blk2 hc2 hbr R1.out)
 have hs2:=hc2.size
 go_upto_region 2 with fail
 have ha3:=(ξb w2.heap.size w2).alloc (ξr _) (.cells #[.slice a1 n.ns.length c1,.slice a2 n.fs.length c2] 35)
 have HX:=ξh (ξn w2 (.cells #[.slice a1 n.ns.length c1,.slice a2 n.fs.length c2] 35))
 have HR:=ξh (ξA HR.out ha3)
 have CC:=ξh (CC.below ha3)
 have HN:=ξh (show NtD _ (br+1) _ _ n from(hd.below ha3).base (by omega))
 have HS3:=ξh (show w2.heap.size<(w2.alloc (.cells #[.slice a1 n.ns.length c1,.slice a2 n.fs.length c2] 35)).heap.size by simp)
 obtain⟨bx,hq⟩:∃bx,bx=w2.heap.size:=⟨_,rfl⟩
 rw[←hq] at HX HS3 ⊢
 have hrx:br<bx:=by omega
 have hbx:w.heap.size≤bx:=by omega
 clear hq ha3 C1 R1 hc2 hd hs2 hr1
 generalize w2.alloc (.cells #[.slice a1 n.ns.length c1,.slice a2 n.fs.length c2] 35)=w3 at *
 go_wp2_with fail
 refine(oneC B c _ 16 _ CC.st (by omega) (by omega) (by omega)).mono ?_
 rintro e wq ⟨b,rfl,hcq,-⟩
 have HX:=ξh (CC.blk2 hcq hbx HX.out)
 have HR:=ξh (CC.blk2 hcq hbr HR.out)
 have HN:=ξh (HN.cs hcq hBb)
 have CC:=ξh (CC.call hcq)
 have HSq:=ξh (ξq HS3.out hcq.size)
 clear hcq HS3
 cases b
 · obtain⟨w4,hw4⟩:∃w4,w4=wq:=⟨_,rfl⟩
   subst hw4
   have HS4:=ξh (show br+1≤w4.heap.size by have:=HSq.out;omega)
   clear HSq
   go_wp2_with fail
   refine(ξcy B c _ _ CC.st (by omega)).mono ?_
   rintro e w5 ⟨g6,off6,n6,c6,rfl,hn6,f6,hc5⟩
   have HX:=ξh (CC.blk2 hc5 hbx HX.out)
   have HR:=ξh (CC.blk2 hc5 hbr HR.out)
   have HN:=ξh (HN.cs hc5 hBb)
   have HF:=ξh (f6.mono (show br+1≤w4.heap.size from HS4.out))
   have CC:=ξh (CC.call hc5)
   have hs5:=CC.size
   have HS5:=ξh (show br+1≤w5.heap.size from ξs HS4.out hc5.size)
   clear hc5 f6
   go_upto_region 5 with fail
   have HSS:=ξh (fun(w':World) (hx:w'.heap[bx]?= some (.cells #[.slice a1 n.ns.length c1,.slice a2 n.fs.length c2] 35 (0,0)))=>show w'.cell? ⟨bx,0,none⟩=some (.slice a1 n.ns.length c1)∧w'.cell? ⟨bx,1,none⟩=some (.slice a2 n.fs.length c2) from⟨blkc hx rfl,blkc hx rfl⟩)
   refine ξH [0,1,2,3,4,5,6] (S:=fun w'=>w'.cell? ⟨bx,0,none⟩=some (.slice a1 n.ns.length c1)∧w'.cell? ⟨bx,1,none⟩=some (.slice a2 n.fs.length c2)) (by kernel_rfl) (HSS.out _ (show w5.drew.heap[bx]?= _ from HX.out)) (fun hH=> ?_)
   have CC:=ξh CC.drew
   have HX:=ξh (show w5.drew.heap[bx]?= _ from HX.out)
   have HR:=ξh (show w5.drew.heap[br]?= _ from HR.out)
   have HN:=ξh (HN.below (ξb _ _).drew)
   have HF:=ξh (HF.below (ξb _ _).drew)
   obtain⟨wc,hwc⟩:∃wc,wc=w5.drew:=⟨_,rfl⟩
   have HS5:=ξh (show br+1≤wc.heap.size by rw[hwc];exact HS5.out)
   rw[←hwc] at CC HX HR HN HF hH ⊢
   clear hwc
   refine hlF 0 rfl hH ?_
   try simp only[Act.put,hlA,hlB,hlC]
   refine hlF 1 rfl hH ?_
   try simp only[Act.put,hlA,hlB,hlC]
   refine hlF 2 rfl hH ?_
   try simp only[Act.put,hlA,hlB,hlC]
   refine hlF 3 rfl hH ?_
   try simp only[Act.put,hlA,hlB,hlC]
   refine ξB (rs:=[4]) (by kernel_rfl) (by simp) ?_
   refine AllReadyL.cons rfl (fun KK hKK=> ?_) AllReadyL.nil
   go_simp
   go_at_call 71
   refine(ξc7 B c _ a1 a2 n.ns.length c1 n.fs.length c2 _ CC.st (by omega) HN.nl.1 HN.nl.2).mono ?_
   rintro e wn ⟨v9,gs,rfl,r9,hg9,hcA⟩
   have HX:=ξh (CC.blk2 hcA hbx HX.out)
   have HR:=ξh (CC.blk2 hcA hbr HR.out)
   have HG:=ξh (⟨HN.cs hcA hBb,⟨g6,off6,n6,c6,rfl,hn6,HF.cs hBb hcA⟩,SrR.lower r9 HS5.out,hg9⟩:GrF wn (br+1) (.slice a1 n.ns.length c1) (.slice a2 n.fs.length c2) (.slice (some ⟨g6,off6,none⟩) n6 c6) v9 n gs)
   have CC:=ξh (CC.call hcA)
   obtain⟨a9,c9,rfl⟩:=SrR.form r9
   clear hcA r9 hg9 HN HF
   refine hKK.out _ _ (HSS.out _ HX.out) (fun hH=> ?_)
   clear hKK KK
   try simp only[Act.put,hlA,hlB,hlC]
   have R4:True:=trivial
   refine ξB (rs:=[5]) (by kernel_rfl) (by simp) ?_
   refine AllReadyL.cons rfl (fun KK hKK=> ?_) AllReadyL.nil
   have r0:=blkc HR.out (j:=0) (u:= .slice none 0 0) rfl
   have r1:=blkc HR.out (j:=1) (u:= .slice none 0 0) rfl
   have g0:wn.frozen? ⟨br,0,none⟩=false:=ξz _ _ _ _ _ HR.out
   have g1:wn.frozen? ⟨br,1,none⟩=false:=ξz _ _ _ _ _ HR.out
   go_simp
   have HX:=ξh ((ξm _ ⟨br,1,none⟩ bx (.slice a2 n.fs.length c2) (by show bx≠br;omega)).trans ((ξm wn ⟨br,0,none⟩ bx (.slice a1 n.ns.length c1) (by show bx≠br;omega)).trans HX.out))
   refine hKK.out _ _ (HSS.out _ HX.out) (fun hH=> ?_)
   clear hKK KK
   try simp only[Act.put,hlA,hlB,hlC]
   have R5:True:=trivial
   refine ξG 6 rfl (by kernel_rfl) (by kernel_rfl) (fun KK hKK=> ?_)
   go_simp
   refine hKK.out _ _ ?_
   clear hKK KK
   try simp only[Act.put,hlA,hlB,hlC]
   refine ξG 7 rfl (by kernel_rfl) (by kernel_rfl) (fun KK hKK=> ?_)
   go_simp
   refine hKK.out _ _ ?_
   clear hKK KK
   try simp only[Act.put,hlA,hlB,hlC]
   refine ξS (by kernel_rfl) ?_ _
   have s0:=ξe wn br 0 _ _ (.slice a1 n.ns.length c1) HR.out
   have s1:=ξe _ br 1 _ _ (.slice a2 n.fs.length c2) s0
   have C9:=ξh ((CC.set (b:=br) (j:=0) hbr (.slice a1 n.ns.length c1)).set (b:=br) (j:=1) hbr (.slice a2 n.fs.length c2))
   have G9:=ξh (((HG.set (b:=br) (j:=0) (x:= .slice a1 n.ns.length c1) (by omega)).set (b:=br) (j:=1) (x:= .slice a2 n.fs.length c2) (by omega)).lower (show w.heap.size≤br+1 by omega))
   have t0:=blkc s1 (j:=0) (u:= .slice a1 n.ns.length c1) rfl
   have t1:=blkc s1 (j:=1) (u:= .slice a2 n.fs.length c2) rfl
   clear s0 s1 r0 r1 g0 g1
   go_wp2_with fail
   subst hNP
   exact bodyPost_ret (v:= .tuple #[.agg #[.slice a1 n.ns.length c1,.slice a2 n.fs.length c2],.slice (some ⟨g6,off6,none⟩) n6 c6,.slice a9 gs.length c9]) (by simp[results,Tryz.results88,go_sem,t0,t1]) rfl ⟨_,_,_,_,_,_,_,_,_,_,_,_,n,gs,rfl,G9.out,C9.mono (by omega)⟩
 · clear HN
   obtain⟨o1,ho1⟩:∃o1:Value,o1= .slice a1 n.ns.length c1:=⟨_,rfl⟩
   obtain⟨o2,ho2⟩:∃o2:Value,o2= .slice a2 n.fs.length c2:=⟨_,rfl⟩
   rw[←ho1,←ho2] at HX
   clear ho1 ho2
   go_wp2_with fail
   refine(ξbX B c _ _ CC.st (by omega)).mono ?_
   rintro e wr ⟨v1,v2,n,rfl,-,hd,hcr⟩
   obtain⟨⟨a1,c1,rfl⟩,⟨a2,c2,rfl⟩⟩:=hd.slices
   have HX:=ξh (CC.blk2 hcr hbx HX.out)
   have HR:=ξh (CC.blk2 hcr hbr HR.out)
   have CC:=ξh (CC.call hcr)
   have hsr:=hcr.size
   have x0:=blkc HX.out (j:=0) (u:=o1) rfl
   have x1:=blkc HX.out (j:=1) (u:=o2) rfl
   have f0:wr.frozen? ⟨bx,0,none⟩=false:=ξz _ _ _ _ _ HX.out
   have f1:wr.frozen? ⟨bx,1,none⟩=false:=ξz _ _ _ _ _ HX.out
   go_upto_region 4 with fail
   have s0:=ξe wr bx 0 _ _ (.slice a1 n.ns.length c1) HX.out
   have HX:=ξh (ξe _ bx 1 _ _ (.slice a2 n.fs.length c2) s0)
   have HR:=ξh ((ξm _ ⟨bx,1,none⟩ br (.slice a2 n.fs.length c2) (by show br≠bx;omega)).trans ((ξm wr ⟨bx,0,none⟩ br (.slice a1 n.ns.length c1) (by show br≠bx;omega)).trans HR.out))
   have CC:=ξh ((CC.set (b:=bx) (j:=0) hbx (.slice a1 n.ns.length c1)).set (b:=bx) (j:=1) hbx (.slice a2 n.fs.length c2))
   have HN:=ξh (show NtD ((wr.setCell ⟨bx,0,none⟩ (.slice a1 n.ns.length c1)).setCell ⟨bx,1,none⟩ (.slice a2 n.fs.length c2)) (br+1) (.slice a1 n.ns.length c1) (.slice a2 n.fs.length c2) n from(hd.kept fun g hg _=>(ξm _ ⟨bx,1,none⟩ g _ (by show g≠bx;have:=HSq.out;omega)).trans (ξm wr ⟨bx,0,none⟩ g _ (by show g≠bx;have:=HSq.out;omega))).base (by have:=HSq.out;omega))
   have HS4:=ξh (show br+1≤((wr.setCell ⟨bx,0,none⟩ (.slice a1 n.ns.length c1)).setCell ⟨bx,1,none⟩ (.slice a2 n.fs.length c2)).heap.size by have:=HSq.out;simp;omega)
   generalize (wr.setCell ⟨bx,0,none⟩ (.slice a1 n.ns.length c1)).setCell ⟨bx,1,none⟩ (.slice a2 n.fs.length c2)=w4 at *
   clear x0 x1 f0 f1 s0 hsr hd hcr HSq
   go_wp2_with fail
   refine(ξcy B c _ _ CC.st (by omega)).mono ?_
   rintro e w5 ⟨g6,off6,n6,c6,rfl,hn6,f6,hc5⟩
   have HX:=ξh (CC.blk2 hc5 hbx HX.out)
   have HR:=ξh (CC.blk2 hc5 hbr HR.out)
   have HN:=ξh (HN.cs hc5 hBb)
   have HF:=ξh (f6.mono (show br+1≤w4.heap.size from HS4.out))
   have CC:=ξh (CC.call hc5)
   have hs5:=CC.size
   have HS5:=ξh (show br+1≤w5.heap.size from ξs HS4.out hc5.size)
   clear hc5 f6
   go_upto_region 5 with fail
   have HSS:=ξh (fun(w':World) (hx:w'.heap[bx]?= some (.cells #[.slice a1 n.ns.length c1,.slice a2 n.fs.length c2] 35 (0,0)))=>show w'.cell? ⟨bx,0,none⟩=some (.slice a1 n.ns.length c1)∧w'.cell? ⟨bx,1,none⟩=some (.slice a2 n.fs.length c2) from⟨blkc hx rfl,blkc hx rfl⟩)
   refine ξH [0,1,2,3,4,5,6] (S:=fun w'=>w'.cell? ⟨bx,0,none⟩=some (.slice a1 n.ns.length c1)∧w'.cell? ⟨bx,1,none⟩=some (.slice a2 n.fs.length c2)) (by kernel_rfl) (HSS.out _ (show w5.drew.heap[bx]?= _ from HX.out)) (fun hH=> ?_)
   have CC:=ξh CC.drew
   have HX:=ξh (show w5.drew.heap[bx]?= _ from HX.out)
   have HR:=ξh (show w5.drew.heap[br]?= _ from HR.out)
   have HN:=ξh (HN.below (ξb _ _).drew)
   have HF:=ξh (HF.below (ξb _ _).drew)
   obtain⟨wc,hwc⟩:∃wc,wc=w5.drew:=⟨_,rfl⟩
   have HS5:=ξh (show br+1≤wc.heap.size by rw[hwc];exact HS5.out)
   rw[←hwc] at CC HX HR HN HF hH ⊢
   clear hwc
   refine hlF 0 rfl hH ?_
   try simp only[Act.put,hlA,hlB,hlC]
   refine hlF 1 rfl hH ?_
   try simp only[Act.put,hlA,hlB,hlC]
   refine hlF 2 rfl hH ?_
   try simp only[Act.put,hlA,hlB,hlC]
   refine hlF 3 rfl hH ?_
   try simp only[Act.put,hlA,hlB,hlC]
   refine ξB (rs:=[4]) (by kernel_rfl) (by simp) ?_
   refine AllReadyL.cons rfl (fun KK hKK=> ?_) AllReadyL.nil
   go_simp
   go_at_call 71
   refine(ξc7 B c _ a1 a2 n.ns.length c1 n.fs.length c2 _ CC.st (by omega) HN.nl.1 HN.nl.2).mono ?_
   rintro e wn ⟨v9,gs,rfl,r9,hg9,hcA⟩
   have HX:=ξh (CC.blk2 hcA hbx HX.out)
   have HR:=ξh (CC.blk2 hcA hbr HR.out)
   have HG:=ξh (⟨HN.cs hcA hBb,⟨g6,off6,n6,c6,rfl,hn6,HF.cs hBb hcA⟩,SrR.lower r9 HS5.out,hg9⟩:GrF wn (br+1) (.slice a1 n.ns.length c1) (.slice a2 n.fs.length c2) (.slice (some ⟨g6,off6,none⟩) n6 c6) v9 n gs)
   have CC:=ξh (CC.call hcA)
   obtain⟨a9,c9,rfl⟩:=SrR.form r9
   clear hcA r9 hg9 HN HF
   refine hKK.out _ _ (HSS.out _ HX.out) (fun hH=> ?_)
   clear hKK KK
   try simp only[Act.put,hlA,hlB,hlC]
   have R4:True:=trivial
   refine ξB (rs:=[5]) (by kernel_rfl) (by simp) ?_
   refine AllReadyL.cons rfl (fun KK hKK=> ?_) AllReadyL.nil
   have r0:=blkc HR.out (j:=0) (u:= .slice none 0 0) rfl
   have r1:=blkc HR.out (j:=1) (u:= .slice none 0 0) rfl
   have g0:wn.frozen? ⟨br,0,none⟩=false:=ξz _ _ _ _ _ HR.out
   have g1:wn.frozen? ⟨br,1,none⟩=false:=ξz _ _ _ _ _ HR.out
   go_simp
   have HX:=ξh ((ξm _ ⟨br,1,none⟩ bx (.slice a2 n.fs.length c2) (by show bx≠br;omega)).trans ((ξm wn ⟨br,0,none⟩ bx (.slice a1 n.ns.length c1) (by show bx≠br;omega)).trans HX.out))
   refine hKK.out _ _ (HSS.out _ HX.out) (fun hH=> ?_)
   clear hKK KK
   try simp only[Act.put,hlA,hlB,hlC]
   have R5:True:=trivial
   refine ξG 6 rfl (by kernel_rfl) (by kernel_rfl) (fun KK hKK=> ?_)
   go_simp
   refine hKK.out _ _ ?_
   clear hKK KK
   try simp only[Act.put,hlA,hlB,hlC]
   refine ξG 7 rfl (by kernel_rfl) (by kernel_rfl) (fun KK hKK=> ?_)
   go_simp
   refine hKK.out _ _ ?_
   clear hKK KK
   try simp only[Act.put,hlA,hlB,hlC]
   refine ξS (by kernel_rfl) ?_ _
   have s0:=ξe wn br 0 _ _ (.slice a1 n.ns.length c1) HR.out
   have s1:=ξe _ br 1 _ _ (.slice a2 n.fs.length c2) s0
   have C9:=ξh ((CC.set (b:=br) (j:=0) hbr (.slice a1 n.ns.length c1)).set (b:=br) (j:=1) hbr (.slice a2 n.fs.length c2))
   have G9:=ξh (((HG.set (b:=br) (j:=0) (x:= .slice a1 n.ns.length c1) (by omega)).set (b:=br) (j:=1) (x:= .slice a2 n.fs.length c2) (by omega)).lower (show w.heap.size≤br+1 by omega))
   have t0:=blkc s1 (j:=0) (u:= .slice a1 n.ns.length c1) rfl
   have t1:=blkc s1 (j:=1) (u:= .slice a2 n.fs.length c2) rfl
   clear s0 s1 r0 r1 g0 g1
   go_wp2_with fail
   subst hNP
   exact bodyPost_ret (v:= .tuple #[.agg #[.slice a1 n.ns.length c1,.slice a2 n.fs.length c2],.slice (some ⟨g6,off6,none⟩) n6 c6,.slice a9 gs.length c9]) (by simp[results,Tryz.results88,go_sem,t0,t1]) rfl ⟨_,_,_,_,_,_,_,_,_,_,_,_,n,gs,rfl,G9.out,C9.mono (by omega)⟩
def DbP (w:World) (e:Ending) (w':World):Prop:=∃a1 m1 c1 a2 m2 c2 af mf cf ag mg cg n gs,e= .returned (.tuple #[.agg #[.slice a1 m1 c1,.slice a2 m2 c2],.slice af mf cf,.slice ag mg cg])∧GrF w' w.heap.size (.slice a1 m1 c1) (.slice a2 m2 c2) (.slice af mf cf) (.slice ag mg cg) n gs∧Below w.heap.size w w'
theorem ξbu {w:World} {code:Value} (h:RdB w code) (T:TypeId) (us:Array Value):
 Cs ((w.alloc (.cells us T)).alloc (.cells #[code,.int .i64 0,.int .u64 0] 117)) (w.heap.size+1) code 0∧
 ((w.alloc (.cells us T)).alloc (.cells #[code,.int .i64 0,.int .u64 0] 117)).heap[w.heap.size]?= some (.cells us T (0,0))∧
 Below w.heap.size w ((w.alloc (.cells us T)).alloc (.cells #[code,.int .i64 0,.int .u64 0] 117))∧
 ((w.alloc (.cells us T)).alloc (.cells #[code,.int .i64 0,.int .u64 0] 117)).heap.size=w.heap.size+2:=by
 have B1:=(ξb w.heap.size w).alloc (ξr _) (.cells us T)
 have hs1:(w.alloc (.cells us T)).heap.size=w.heap.size+1:=by simp
 refine⟨?_,(heap_alloc_old (w.alloc (.cells us T)) _ (by simp)).trans (ξn w _),B1.alloc B1.size _,by simp⟩
 have:=curN (RdB.behind h B1)
 rw[hs1] at this
 exact this
theorem drawBG_any (a:Option Addr) (len cap:Nat) (w:World) (h:RdB w (.slice a len cap)):
 Calls Tryz.prog 82 #[.slice a len cap] w (DbP w):=by
 obtain⟨NP,hNP⟩:∃NP,NP=DbP w:=⟨_,rfl⟩
 rw[←hNP]
 obtain⟨d1,d2,d3,d4⟩:=ξbu h 35 #[.slice none 0 0,.slice none 0 0]
 have HC2:=ξh d1
 have HR:=ξh d2
 have HB2:=ξh d3
 have HZ2:=ξh d4
 clear d1 d2 d3 d4 h
 go_enter Tryz.func82,Tryz.ntmps82
 go_upto_region 2 with fail
 generalize (w.alloc (.cells #[.slice none 0 0,.slice none 0 0] 35)).alloc (.cells #[.slice a len cap,.int .i64 0,.int .u64 0] 117)=w2 at *
 obtain⟨br,hq⟩:∃br,br=w.heap.size:=⟨_,rfl⟩
 obtain⟨B,hB⟩:∃B,B=w.heap.size+1:=⟨_,rfl⟩
 have hbr:w.heap.size≤br:=by omega
 have hBb:w.heap.size≤B:=by omega
 have hrB:br<B:=by omega
 rw[←hq] at HR
 rw[←hB] at HC2
 have hB2:B+1≤w2.heap.size:=by have:=HZ2.out;omega
 rw[←hB,←hq]
 clear hq hB HZ2
 go_wp2_with fail
 refine(grown_any B _ 0 w2 HC2.out (by omega)).mono ?_
 rintro e w3 ⟨a1,m1,c1,a2,m2,c2,af,mf,cf,ag,mg,cg,n,gs,rfl,hg,hc3⟩
 have HR:=ξh (hc3.blk HR.out (by omega))
 have HBW:=ξh (hc3.belowAll HB2.out hBb)
 have CC:=ξh (HC2.here.call hc3)
 have HG:=ξh (hg.lower hB2)
 clear hg hc3 HC2 HB2
 have r0:=blkc HR.out (j:=0) (u:= .slice none 0 0) rfl
 have r1:=blkc HR.out (j:=1) (u:= .slice none 0 0) rfl
 have g0:w3.frozen? ⟨br,0,none⟩=false:=ξz _ _ _ _ _ HR.out
 have g1:w3.frozen? ⟨br,1,none⟩=false:=ξz _ _ _ _ _ HR.out
 have s0:=ξe w3 br 0 _ _ (.slice a1 m1 c1) HR.out
 have s1:=ξe _ br 1 _ _ (.slice a2 m2 c2) s0
 have BW9:=ξh ((HBW.setCell (p:=⟨br,0,none⟩) hbr (.slice a1 m1 c1)).setCell (p:=⟨br,1,none⟩) hbr (.slice a2 m2 c2))
 have G9:=ξh (((HG.set (b:=br) (j:=0) (x:= .slice a1 m1 c1) (by omega)).set (b:=br) (j:=1) (x:= .slice a2 m2 c2) (by omega)).lower (show w.heap.size≤B+1 by omega))
 have t0:=blkc s1 (j:=0) (u:= .slice a1 m1 c1) rfl
 have t1:=blkc s1 (j:=1) (u:= .slice a2 m2 c2) rfl
 clear s0 s1
 go_wp2_with fail
 subst hNP
 exact bodyPost_ret (v:= .tuple #[.agg #[.slice a1 m1 c1,.slice a2 m2 c2],.slice af mf cf,.slice ag mg cg]) (by simp[results,Tryz.results82,go_sem,t0,t1]) rfl ⟨_,_,_,_,_,_,_,_,_,_,_,_,n,gs,rfl,G9.out,BW9.out⟩
end Go.Proofs.YtofcicomhnkocaaGreat
