import Derived.Test.YtofcicomhnkocaaGreatBx19
set_option linter.unusedVariables false
namespace Go.Proofs.YtofcicomhnkocaaGreat
set_option maxHeartbeats 12800000
open Go.RowKit Go.Sort
set_option maxRecDepth 100000
theorem Tryz.infoPln:(Tryz.prog.info? 75).map (fun i=>(i.zero,i.size,i.bytes))=some (some (.agg #[.slice none 0 0,.slice none 0 0,.slice none 0 0]),3,72):=by kernel_rfl
def ξR (n:Net) (fs:List Fmt) (gs:List Gro):Option (List (List Lgt) × PRun):=if fmOk fs&&ξQ n gs then runP n fs gs 8 else none
def PldP (n:Net) (fs:List Fmt) (gs:List Gro) (w:World) (e:Ending) (w':World):Prop:=Below w.heap.size w w'∧
 match ξR n fs gs with
 | none=>e= .returned (.tuple #[.slice none 0 0,.slice none 0 0,.bool false])
 | some (ps,r)=>∃s b,e= .returned (.tuple #[s,b,.bool true])∧GrwX w' w.heap.size 75 3 s 8 ((ps.map (Pln.mk n)).flatMap plnD) (fun k=>b.ownBlock=some k)∧Own w' w.heap.size b (srt r.bl)∧ ∀g,s.ownBlock=some g→b.ownBlock≠some g
theorem pld_none {n:Net} {fs:List Fmt} {gs:List Gro} {w w':World} (h:ξR n fs gs=none) (hb:Below w.heap.size w w'):PldP n fs gs w (.returned (.tuple #[.slice none 0 0,.slice none 0 0,.bool false])) w':=by
 unfold PldP;rw[h];exact⟨hb,rfl⟩
theorem pld_some {n:Net} {fs:List Fmt} {gs:List Gro} {w w1 w':World} {ps:List (List Lgt)} {r:PRun} {R:Nat→Prop} {bp:Nat} {s b:Value} {p:Pln} (h:ξR n fs gs=some (ps,r)) (hp:PgB w w1 R bp s b p 8 (ps.map (Pln.mk n)) r.bl) (ho:Own w' w.heap.size b (srt r.bl)) (hg:w1.grownBy w' b.ownBlock):PldP n fs gs w (.returned (.tuple #[s,b,.bool true])) w':=by
 unfold PldP;rw[h]
 obtain⟨-,a1,m1,c1,a2,m2,c2,a3,m3,c3,-,h2⟩:=hp
 refine⟨h2.bel.grown hg h2.bel.size fun q hq=>(h2.blo.lt q hq).1,s,b,rfl,h2.out.kept (fun k _ q1 q2=>hg.block k q1 fun e=> ?_) (fun k _ hy=> .inr hy),ho,fun g hg=>(h2.aps g hg).2⟩
 rcases q2 with q2 | q2
 · exact q2 (.inr e.symm)
 · exact(h2.aps k q2).2 e.symm
def LsK (n:Net) (ls:List Lgt):Prop:=ls.length≤12∧ ∀x∈ls,ξah n x=true
theorem LsK.lgo {n:Net} {ls:List Lgt} (h:LsK n ls) (hn:ξL n=true):∀x∈ls,LgO n.fs.length x:=fun x hx=>(lgtOk_o hn (h.2 x hx)).1
theorem LsK.fb {n:Net} {ls:List Lgt} (h:LsK n ls) (hn:ξL n=true):∀x∈ls,x.fb.length≤1000000:=fun x hx=>ξs (lgtOk_o hn (h.2 x hx)).2 (by decide)
theorem LsK.fb9 {n:Net} {ls:List Lgt} (h:LsK n ls) (hn:ξL n=true):∀x∈ls,x.fb.length≤900000:=fun x hx=>ξs (lgtOk_o hn (h.2 x hx)).2 (by decide)
theorem LsK.sub {n:Net} {ls ls':List Lgt} (h:LsK n ls) (hs:ls'.Sublist ls):LsK n ls':=⟨ξs hs.length_le h.1,fun x hx=>h.2 x (hs.subset hx)⟩
theorem RunOk.lsk {n:Net} {gs:List Gro} {t:Int} {i:Nat} {r:PRun} (hg:GrsP n gs) (h:RunOk n gs t i r):LsK n r.ls:=⟨h.len hg,h.ok⟩
theorem slice_ofO {w:World} {n:Net} {u1 u2:Value} {fp:List Nat} (h:NetO w n (.agg #[u1,u2]) fp):(∃a m c,u1= .slice a m c)∧ ∃a m c,u2= .slice a m c:=by
 obtain⟨a5,n5,c5,a6,n6,c6,e⟩:=h.form
 simp only[Value.agg.injEq,Array.mk.injEq,List.cons.injEq,and_true] at e
 exact⟨⟨_,_,_,e.1⟩,⟨_,_,_,e.2⟩⟩
theorem PlG.slices {w:World} {base B:Nat} {u1 u2 u3:Value} {p:Pln} {fp:List Nat} (h:PlG w base B u1 u2 u3 p fp):(∃a m c,u1= .slice a m c)∧(∃a m c,u2= .slice a m c)∧ ∃a m c,u3= .slice a m c:=by
 obtain⟨h1,h2⟩:=slice_ofO h.net
 obtain⟨-,a7,c7,e⟩:=h.lig.form
 exact⟨h1,h2,_,_,_,e⟩
theorem runP_lsk {n:Net} {fs:List Fmt} {gs:List Gro} (hg:GrsP n gs):∀{k:Nat} {ps:List (List Lgt)} {r:PRun},runP n fs gs k=some (ps,r)→LsK n r.ls
 | 0,ps,r,h=>by
   rw[runP] at h
   cases h
   exact⟨by simp,fun x hx=>by cases hx⟩
 | k+1,ps,r,h=>by
   rw[runP] at h
   split at h
   · cases h
   · rename_i ps0 r0 h0
     split at h
     · cases h
     · rename_i r2 h2
       cases h
       have a:=(ξaz hg h0).1
       unfold perP at h2
       exact(ξbw hg a (ξr _) h2).1.lsk hg
theorem addA_bll {n:Net} {fs:List Fmt} {gs:List Gro} {t:Int} {r:PRun} :∀{i:Nat} {r2:PRun},addA n fs gs t (some r) i=some r2→r2.bl.length≤r.bl.length+i
 | 0,r2,h=>by
   unfold addA at h
   simp at h
   subst h
   omega
 | i+1,r2,h=>by
   rw[ξaV] at h
   cases h1:addA n fs gs t (some r) i with
   | none=>rw[h1] at h;cases h
   | some r1=>
     rw[h1] at h
     have:=addA_bll h1
     rcases addP_bl h with e | ⟨e,-⟩
     · rw[e];omega
     · rw[e,ξk];simp;omega
theorem runP_bll {n:Net} {fs:List Fmt} {gs:List Gro} :∀{k:Nat} {ps:List (List Lgt)} {r:PRun},runP n fs gs k=some (ps,r)→r.bl.length≤k*gs.length
 | 0,ps,r,h=>by
   rw[runP] at h
   cases h
   simp
 | k+1,ps,r,h=>by
   rw[runP] at h
   split at h
   · cases h
   · rename_i ps0 r0 h0
     split at h
     · cases h
     · rename_i r2 h2
       cases h
       have h3:=runP_bll h0
       have h4:r.bl.length≤r0.bl.length+gs.length:=addA_bll (r:=⟨delA gs k r0.ls gs.length,r0.bl⟩) h2
       rw[Nat.add_mul];omega
theorem planned_any (v vf vg:Value) (n:Net) (fs:List Fmt) (gs:List Gro) (w:World) (h:NetR w v n) (hf:Rdt w (flt 2 fmE fs) vf) (hg:Rdt w (flt 6 groE gs) vg):
 Calls Tryz.prog 64 #[v,vf,vg] w (PldP n fs gs w):=by
 obtain⟨NP,hNP⟩:∃NP,NP=PldP n fs gs w:=⟨_,rfl⟩
 rw[←hNP]
 have HNP:=ξh hNP
 have HVF:=ξh (fun w' (hb:Below w.heap.size w w')=>ξb1 vf fs w' (hf.behind hb))
 have HVG:=ξh (fun w' (hb:Below w.heap.size w w')=>ξat v vg n gs w' (h.behind hb) (hg.behind hb))
 have HRF:=ξh (fun w' (hb:Below w.heap.size w w')=>hf.behind hb)
 obtain⟨u1,u2,rfl,r1,r2,hsm⟩:=h
 have hnet:NetR w (.agg #[u1,u2]) n:=⟨u1,u2,rfl,r1,r2,hsm⟩
 have HSM:=ξh (show NetSm n from hsm)
 have HP0:=ξh (show PlnR w (.agg #[u1,u2,.slice none 0 0]) ⟨n,[]⟩ from⟨u1,u2,_,rfl,r1,r2,.nil 5,hsm⟩)
 obtain⟨⟨a1,m1,c1,rfl⟩,a2,m2,c2,rfl⟩:=ξF hnet
 obtain⟨af,mf,cf,rfl,-,-,-,-⟩:=ξC (m:=2) (enc:=fmE) (fun _=>rfl) (by omega) ξJ hf
 obtain⟨ag,mg,cg,rfl,HNG,hcg,hmg,hag⟩:=ξC (m:=6) (enc:=groE) (fun _=>rfl) (by omega) nilG hg
 have HAG:=ξh hag
 have HPO:=ξh (show ξR n fs gs=if fmOk fs&&ξQ n gs then runP n fs gs 8 else none from rfl)
 have HGP:=ξh (fun h=>@ξaN n gs h)
 have HB1:=ξh ((ξb w.heap.size w).alloc (ξr _) (.cells #[.slice a1 m1 c1,.slice a2 m2 c2] 35))
 have HK1:=ξh (ξn w (.cells #[.slice a1 m1 c1,.slice a2 m2 c2] 35))
 clear hag r1 r2 hsm hnet hf hg hNP
 generalize hokf:fmOk fs=okf at HVF HPO
 generalize hokg:ξQ n gs=okg at HVG HPO HGP
 have HOKF:=ξh hokf
 clear hokf hokg
 go_enter Tryz.func64,Tryz.ntmps64
 go_wp2_with fail
 generalize w.alloc (.cells #[.slice a1 m1 c1,.slice a2 m2 c2] 35)=w1 at *
 refine(HVF.out w1 HB1.out).mono ?_
 rintro e w2 ⟨rfl,b2⟩
 have HB2:=ξh (HB1.trans (b2.mono HB1.size))
 have HK2:=ξh (ξA HK1.out b2)
 clear b2
 cases okf
 · go_wp2
   rw[HNP.out]
   exact pld_none HPO.out HB2.out
 have y0:=blkc HK2.out (j:=0) (u:= .slice a1 m1 c1) rfl
 have y1:=blkc HK2.out (j:=1) (u:= .slice a2 m2 c2) rfl
 go_wp2_with fail
 refine(HVG.out w2 HB2.out).mono ?_
 rintro e w3 ⟨rfl,b3⟩
 have HB3:=ξh (HB2.trans (b3.mono HB2.size))
 have HK3:=ξh (ξA HK2.out b3)
 clear b3 y0 y1
 cases okg
 · go_wp2
   rw[HNP.out]
   exact pld_none HPO.out HB3.out
 have y0:=blkc HK3.out (j:=0) (u:= .slice a1 m1 c1) rfl
 have y1:=blkc HK3.out (j:=1) (u:= .slice a2 m2 c2) rfl
 obtain⟨hn,hgp⟩:=HGP.out rfl
 have HPOK:=ξh (show ξR n fs gs=runP n fs gs 8 from HPO.out)
 have HCN:=ξh (fun(v':Value) (ls:List Lgt) (d:Dem) (w':World) (hb:Below w.heap.size w w') (h:PlnR w' v' ⟨n,ls⟩) (h3:demOk d n.ns.length=true) (h4:LsK n ls)=>considered_any v' (.slice af mf cf) ⟨n,ls⟩ fs d w' h (HRF.out w' hb) hn HOKF.out h3 (ξs h4.1 (by decide)) (h4.lgo hn) (ξs (ξM hn).2.2.1 (by decide)))
 have HWU:=ξh (fun(v':Value) (ls:List Lgt) (i:Nat) (w':World) (h:PlnR w' v' ⟨n,ls⟩) (hi:i<ls.length) (h4:LsK n ls)=>ξcC v' ⟨n,ls⟩ i w' h hi (ξs (ξM hn).2.1 (by decide)) (ξs (ξM hn).2.2.1 (by decide)) (ξs h4.1 (by decide)) (h4.fb hn))
 have HWT:=ξh (fun(v' fv:Value) (ls:List Lgt) (x:Lgt) (w':World) (h:PlnR w' v' ⟨n,ls⟩) (hx:Rd w' fv x.fb) (hxl:x.fb.length≤1000000) (h4:LsK n ls)=>withLight_any v' fv ⟨n,ls⟩ x w' h hx hxl (ξs (ξM hn).2.1 (by decide)) (ξs (ξM hn).2.2.1 (by decide)) (ξs h4.1 (by decide)) (h4.fb hn))
 have HCP:=ξh (fun(v':Value) (ls:List Lgt) (w':World) (h:PlnR w' v' ⟨n,ls⟩) (h4:LsK n ls)=>ξbB v' ⟨n,ls⟩ w' h (ξs (ξM hn).2.1 (by decide)) (ξs (ξM hn).2.2.1 (by decide)) (ξs h4.1 (by decide)) (h4.fb hn))
 have hmg12:mg≤12:=by rw[←HNG.out];exact hgp.1
 have HGK:=ξh hgp
 have HN:=ξh hn
 have HG0:=ξh (PgB.start HB3.out HP0.out)
 clear hn hgp HVF HVG HPO HGP HB1 HK1 HB2 HK2 hcg hmg
 go_wp2_with fail
 clear y0 y1
 obtain⟨bp,hbp⟩:∃bp,bp=w3.heap.size+1+1:=⟨_,rfl⟩
 have HR:=ξh (show∃R:Nat→Prop,R=fun k=>k=w3.heap.size+1+1 from⟨_,rfl⟩)
 obtain⟨R,hR⟩:=HR.out
 rw[←hR,←hbp] at HG0
 generalize ((w3.alloc (.cells #[] 75)).alloc (.cells #[] 3)).alloc (.cells #[.slice a1 m1 c1,.slice a2 m2 c2,.slice none 0 0] 75)=w4 at *
 generalize (some ⟨w3.heap.size,0,none⟩:Option Addr)=as0 at *
 generalize (some ⟨w3.heap.size+1,0,none⟩:Option Addr)=ab0 at *
 rw[←hbp]
 clear HR hR hbp HB3 HK3 HP0 HRF
 go_loopw [10,11,34] (fun s10 s11 i wr=>∃(t:Nat) (aq:Option Addr) (cs:Nat) (ab:Option Addr) (nb cb:Nat) (psL:List (List Lgt)) (r:PRun),t≤8∧i= .int .i64 t∧s10= .slice aq t cs∧s11= .slice ab nb cb∧Hid (runP n fs gs t=some (psL,r))∧Hid (PgB w wr R bp (.slice aq t cs) (.slice ab nb cb) ⟨n,r.ls⟩ t (psL.map (Pln.mk n)) r.bl)) (fun _ _ i _=>8-(intOf i).toNat)
 case atStart=>exact⟨0,as0,0,ab0,0,0,[],⟨[],[]⟩,by omega,rfl,rfl,rfl,rfl,HG0.out⟩
 case round=>
  clear HG0
  obtain⟨t,aq,cs,ab,nb,cb,psL,r,ht,rfl,rfl,rfl,HRP,HPG⟩:=hrel
  by_cases hlt:t<8
  · have hltI:(t:Int)<8:=by omega
    have HNXT:=ξh (show runP n fs gs (t+1)=(match addA n fs gs t (some ⟨delA gs t r.ls gs.length,r.bl⟩) gs.length with | none=>none | some r2=>some (psL++[r2.ls],r2)) from by rw[runP,HRP.out];rfl)
    have HROK:=ξh ((ξaz HGK.out HRP.out).1)
    have HLS0:=ξh (runP_lsk HGK.out HRP.out)
    obtain⟨D,hD⟩:∃D:Nat→List Lgt,D=fun k=>delA gs t r.ls k:=⟨_,rfl⟩
    have HD:=ξh hD
    have HD0:=ξh (show D 0=r.ls by rw[hD];rfl)
    have HDK:=ξh (show∀k,LsK n (D k) from fun k=>by rw[hD];exact HLS0.sub (ξaP gs t r.ls k))
    obtain⟨tm,htm⟩:∃tm,tm=(t:Int)-1:=⟨_,rfl⟩
    have htw:IntKind.i64.wrap ((t:Int)-1)=tm:=by rw[htm];exact ξi _ (by omega)
    have htv:wrap64 ((t:Int)-1)=tm:=by rw[htm];exact ξw _ (by omega)
    have HDS:=ξh (show∀k,D (k+1)=if(gs[k]?.getD nilG).e=tm∧0≤lix ⟨n,D k⟩ ((k:Int)+1) then(D k).eraseIdx (lix ⟨n,D k⟩ ((k:Int)+1)).toNat else D k from fun k=>by rw[hD];rw[htm];exact(ξbI gs t r.ls k).trans (delP_lix n gs t _ k))
    clear hD htm
    go_wp2_with fail
    obtain⟨wo,hwo⟩:∃wo,wo=wr:=⟨_,rfl⟩
    subst hwo
    go_loopw [39] (fun i wr=>∃k:Nat,k≤mg∧i= .int .i64 k∧Hid (PgB w wr R bp (.slice aq t cs) (.slice ab nb cb) ⟨n,D k⟩ t (psL.map (Pln.mk n)) r.bl)) (fun i _=>mg-(intOf i).toNat)
    case atStart=>exact⟨0,by omega,rfl,by rw[HD0.out];exact HPG.out⟩
    case round=>
     obtain⟨k,hk,rfl,HPG2⟩:=hrel
     by_cases hltk:k<mg
     · have hltkI:(k:Int)<(mg:Int):=by omega
       obtain⟨b,off,rfl,hbs,hcs⟩:=HAG.out (by omega)
       have HBE:=ξh HPG2.bel
       have hcw:=fun(r:Nat) (u:Value) (hu:(groE (gs[k]?.getD nilG))[r]?= some u)=>(HBE.cell (p:=⟨b,off+k*6+r,none⟩) hbs).trans (hcs k hltk r u hu)
       have c0:=hcw 0 _ rfl
       have c1:=hcw 1 _ rfl
       have c2:=hcw 2 _ rfl
       have c3:=hcw 3 _ rfl
       have c4:=hcw 4 _ rfl
       have c5:=hcw 5 _ rfl
       simp only[Nat.add_zero] at c0
       have HDX:=ξh (HDS.out k)
       clear hcw hcs
       generalize gs[k]?.getD nilG=g at *
       obtain⟨hRb,e1,n1,d1,e2,n2,d2,e3,n3,d3,hbx,hpg⟩:=HPG2.out
       have HPR:=ξh (hpg.pl.rd HBE.out)
       have HBX:=ξh hbx
       clear hpg hbx
       go_upto_region 10 with fail
       have n2':=ξn wr (.cells #[.int .i64 g.d.a,.int .i64 g.d.b,.int .i64 g.d.r,.int .i64 g.d.c,.int .i64 g.s,.int .i64 g.e] 55)
       have HB5:=ξh ((ξb wr.heap.size wr).alloc (ξr _) (.cells #[.int .i64 g.d.a,.int .i64 g.d.b,.int .i64 g.d.r,.int .i64 g.d.c,.int .i64 g.s,.int .i64 g.e] 55))
       obtain⟨bq,hbq⟩:∃bq,bq=wr.heap.size:=⟨_,rfl⟩
       rw[←hbq] at n2' ⊢
       clear hbq
       have HX5:=ξh n2'
       clear n2' c0 c1 c2 c3 c4 c5
       generalize wr.alloc (.cells #[.int .i64 g.d.a,.int .i64 g.d.b,.int .i64 g.d.r,.int .i64 g.d.c,.int .i64 g.s,.int .i64 g.e] 55)=w5 at *
       have HK5:=ξh (ξA HBX.out HB5.out)
       have HP5:=ξh (HPR.behind HB5.out)
       have y0:=blkc HK5.out (j:=0) (u:= .slice e1 n1 d1) rfl
       have y1:=blkc HK5.out (j:=1) (u:= .slice e2 n2 d2) rfl
       have y2:=blkc HK5.out (j:=2) (u:= .slice e3 n3 d3) rfl
       go_wp2_with fail
       refine(lightAt_any _ ⟨n,D k⟩ ((k:Int)+1) w5 HP5.out).mono ?_
       rintro e w6 ⟨rfl,b6⟩
       have HB6:=ξh (HB5.trans (b6.mono HB5.size))
       have HX6:=ξh (ξA HX5.out b6)
       clear b6 y0 y1 y2
       have z5:=blkc HX6.out (j:=5) (u:= .int .i64 g.e) rfl
       have HP6:=ξh (HPR.behind HB6.out)
       have HPG6:=ξh (HPG2.below HB6.out)
       have hqb:=lix_bd ⟨n,D k⟩ ((k:Int)+1)
       have HQB:=ξh hqb
       have HDK1:=ξh (HDK.out k)
       generalize lix ⟨n,D k⟩ ((k:Int)+1)=q at *
       by_cases he:g.e=tm
       · have heB:(g.e==tm)=true:=by simpa using he
         by_cases hq:0≤q
         · have hqB:decide (0≤q)=true:=ξt hq
           have HDN:=ξh (show D (k+1)=(D k).eraseIdx q.toNat from by rw[HDX.out,if_pos ⟨he,hq⟩])
           obtain⟨qi,rfl⟩:=Int.eq_ofNat_of_zero_le hq
           rw[Int.toNat_natCast] at HDN
           have HX:=ξh (ξA HBX.out HB6.out)
           have y0:=blkc HX.out (j:=0) (u:= .slice e1 n1 d1) rfl
           have y1:=blkc HX.out (j:=1) (u:= .slice e2 n2 d2) rfl
           have y2:=blkc HX.out (j:=2) (u:= .slice e3 n3 d3) rfl
           have hqi:qi<(D k).length:=by have:=HQB.2;simpa using this
           clear hqb
           go_wp2_with fail
           refine(HWU.out _ (D k) qi w6 HP6.out hqi HDK1.out).mono ?_
           rintro e w7 ⟨u1,u2,u3,B,fp,rfl,hG,b7⟩
           obtain⟨⟨e4,n4,d4,rfl⟩,⟨e5,n5,d5,rfl⟩,e6,n6,d6,rfl⟩:=hG.slices
           have hx7:=ξA HX.out b7
           have f0:w7.frozen? ⟨bp,0,none⟩=false:=ξz _ _ _ _ _ hx7
           have f1:w7.frozen? ⟨bp,1,none⟩=false:=ξz _ _ _ _ _ hx7
           have f2:w7.frozen? ⟨bp,2,none⟩=false:=ξz _ _ _ _ _ hx7
           clear y0 y1 y2
           have y0:=blkc hx7 (j:=0) (u:= .slice e1 n1 d1) rfl
           have y1:=blkc hx7 (j:=1) (u:= .slice e2 n2 d2) rfl
           have y2:=blkc hx7 (j:=2) (u:= .slice e3 n3 d3) rfl
           have HNEW:=ξh (HPG6.put b7 hG HSM.out)
           rw[←HDN.out] at HNEW
           clear hG b7 hx7
           go_wp2_with fail
           generalize ((w7.setCell ⟨bp,0,none⟩ (.slice e4 n4 d4)).setCell ⟨bp,1,none⟩ (.slice e5 n5 d5)).setCell ⟨bp,2,none⟩ (.slice e6 n6 d6)=w8 at *
           go_roundw
           case rel=>exact⟨k+1,by omega,by go_num,HNEW.out⟩
           case measure=>simp[intOf];omega
         · have hqB:decide (0≤q)=false:=ξf hq
           have HDN:=ξh (show D (k+1)=D k from by rw[HDX.out,if_neg (fun h=>hq h.2)])
           go_wp2
           go_roundw
           case rel=>exact⟨k+1,by omega,by go_num,by rw[HDN.out];exact HPG6.out⟩
           case measure=>simp[intOf];omega
       · have heB:(g.e==tm)=false:=by simpa using he
         have HDN:=ξh (show D (k+1)=D k from by rw[HDX.out,if_neg (fun h=>he h.1)])
         go_wp2
         go_roundw
         case rel=>exact⟨k+1,by omega,by go_num,by rw[HDN.out];exact HPG6.out⟩
         case measure=>simp[intOf];omega
     · obtain rfl:mg=k:=by omega
       have HGE:=HNG.out
       obtain⟨AA,hAA⟩:∃AA:Nat→Option PRun,AA=fun k=>addA n fs gs t (some ⟨delA gs t r.ls gs.length,r.bl⟩) k:=⟨_,rfl⟩
       have HA0:=ξh (show AA 0=some ⟨D mg,r.bl⟩ from by rw[hAA,HD.out,HGE];rfl)
       have HAS:=ξh (show∀k,AA (k+1)=addP n fs gs t (AA k) k from fun k=>by rw[hAA];exact ξaV _ _ _ _ _ _)
       have HAK:=ξh (show∀k r2,k≤mg→AA k=some r2→LsK n r2.ls∧r2.bl.length≤1000 from fun k r2 hk e=>by
        rw[hAA] at e
        have h1:=(ξbw HGK.out HROK.out (by omega) e).1.lsk HGK.out
        have h2:=addA_bll e
        have h3:=runP_bll HRP.out
        have h4:=HGK.1
        have h5:t * gs.length≤8*12:=Nat.mul_le_mul (by omega) h4
        have h6:r2.bl.length≤r.bl.length+k:=h2
        exact⟨h1,by omega⟩)
       have HFAIL:=ξh (show∀k,k≤mg→AA k=none→ξR n fs gs=none from fun k hk e=>by
        rw[HPOK.out]
        refine runP_fail (j:=t+1) ?_ (by omega)
        rw[hAA] at e
        rw[HNXT.out,addA_fail n fs gs t e (show k≤gs.length by omega)])
       have HNX2:=ξh (show∀r2,AA mg=some r2→runP n fs gs (t+1)=some (psL++[r2.ls],r2) from fun r2 e=>by
        rw[hAA] at e
        simp only at e
        rw[HGE] at e
        rw[HNXT.out,HGE,e])
       have HDM:=ξh (show∀k,k<mg→demOk (gs[k]?.getD nilG).d n.ns.length=true from fun k hk=>(HGK.2 k (by omega)).1)
       clear hAA HGE HNXT HROK HDS htw htv HLS0 HD0 HDK
       obtain⟨wo2,hwo2⟩:∃wo2,wo2=wr:=⟨_,rfl⟩
       subst hwo2
       go_wp2_with fail
       go_loopw [11,63] (fun s11 i wr=>∃(k:Nat) (ab:Option Addr) (nb cb:Nat) (r2:PRun),k≤mg∧i= .int .i64 k∧s11= .slice ab nb cb∧Hid (AA k=some r2)∧Hid (PgB w wr R bp (.slice aq t cs) (.slice ab nb cb) ⟨n,r2.ls⟩ t (psL.map (Pln.mk n)) r2.bl)) (fun _ i _=>mg-(intOf i).toNat)
       case atStart=>exact⟨0,_,_,_,_,by omega,rfl,rfl,HA0.out,HPG2.out⟩
       case round=>
        obtain⟨k,ab3,nb3,cb3,r2,hk,rfl,rfl,HAE,HPG3⟩:=hrel
        by_cases hltk:k<mg
        · have hltkI:(k:Int)<(mg:Int):=by omega
          obtain⟨b,off,rfl,hbs,hcs⟩:=HAG.out (by omega)
          have HBE:=ξh HPG3.bel
          have hcw:=fun(r:Nat) (u:Value) (hu:(groE (gs[k]?.getD nilG))[r]?= some u)=>(HBE.cell (p:=⟨b,off+k*6+r,none⟩) hbs).trans (hcs k hltk r u hu)
          have c0:=hcw 0 _ rfl
          have c1:=hcw 1 _ rfl
          have c2:=hcw 2 _ rfl
          have c3:=hcw 3 _ rfl
          have c4:=hcw 4 _ rfl
          have c5:=hcw 5 _ rfl
          simp only[Nat.add_zero] at c0
          have HDM1:=ξh (HDM.out k hltk)
          obtain⟨hlk,hbl⟩:=HAK.out k r2 hk HAE.out
          have HLK:=ξh hlk
          have HBL:=ξh hbl
          have HS:=ξh (show AA (k+1)=addP n fs gs t (some r2) k from by rw[HAS.out,HAE.out])
          unfold addP at HS
          simp only at HS
          clear hcw hcs hlk hbl
          generalize gs[k]?.getD nilG=g at *
          obtain⟨hRb,e1,n1,d1,e2,n2,d2,e3,n3,d3,hbx,hpg⟩:=HPG3.out
          have HPR:=ξh (hpg.pl.rd HBE.out)
          have HBX:=ξh hbx
          clear hpg hbx
          go_upto_region 17 with fail
          have n2':=ξn wr (.cells #[.int .i64 g.d.a,.int .i64 g.d.b,.int .i64 g.d.r,.int .i64 g.d.c,.int .i64 g.s,.int .i64 g.e] 55)
          have HB5:=ξh ((ξb wr.heap.size wr).alloc (ξr _) (.cells #[.int .i64 g.d.a,.int .i64 g.d.b,.int .i64 g.d.r,.int .i64 g.d.c,.int .i64 g.s,.int .i64 g.e] 55))
          obtain⟨bq,hbq⟩:∃bq,bq=wr.heap.size:=⟨_,rfl⟩
          rw[←hbq] at n2' ⊢
          clear hbq
          have HX5:=ξh n2'
          clear n2' c0 c1 c2 c3 c4 c5
          generalize wr.alloc (.cells #[.int .i64 g.d.a,.int .i64 g.d.b,.int .i64 g.d.r,.int .i64 g.d.c,.int .i64 g.s,.int .i64 g.e] 55)=w5 at *
          have HK5:=ξh (ξA HBX.out HB5.out)
          have HP5:=ξh (HPR.behind HB5.out)
          have HPG5:=ξh (HPG3.below HB5.out)
          have HBE5:=ξh HPG5.bel
          have z4:=blkc HX5.out (j:=4) (u:= .int .i64 g.s) rfl
          by_cases hs:g.s=(t:Int)
          · have hsB:(g.s==(t:Int))=true:=by simpa using hs
            have hsN:(g.s != (t:Int))=false:=by simpa using hs
            have HS1:=ξh (show AA (k+1)=_ from by rw[HS.out,if_neg (not_not_intro hs)])
            have y0:=blkc HK5.out (j:=0) (u:= .slice e1 n1 d1) rfl
            have y1:=blkc HK5.out (j:=1) (u:= .slice e2 n2 d2) rfl
            have y2:=blkc HK5.out (j:=2) (u:= .slice e3 n3 d3) rfl
            have z0:=blkc HX5.out (j:=0) (u:= .int .i64 g.d.a) rfl
            have z1:=blkc HX5.out (j:=1) (u:= .int .i64 g.d.b) rfl
            have z2:=blkc HX5.out (j:=2) (u:= .int .i64 g.d.r) rfl
            have z3:=blkc HX5.out (j:=3) (u:= .int .i64 g.d.c) rfl
            have HCN1:=ξh (HCN.out _ r2.ls g.d w5 HBE5.out HP5.out HDM1.out HLK.out)
            clear hs HS
            unfold demV at HCN1
            go_wp2_with fail
            refine HCN1.mono ?_
            rintro e w7 ⟨b7,hcon⟩
            have HB7:=ξh (HB5.trans (b7.mono HB5.size))
            have HPG7:=ξh (HPG5.below b7)
            have HP7:=ξh (HP5.behind b7)
            have HX7:=ξh (ξA HK5.out b7)
            clear y0 y1 y2 z0 z1 z2 z3 z4 b7
            rcases hcon with ⟨hfu,rfl⟩ | ⟨hfu,ca,cm,cc,hcm,rfl,hcr⟩
            · have hfu:failU n g.d=true:=hfu
              have HNO:=ξh (HFAIL.out (k+1) hltk (by rw[HS1.out,if_pos hfu]))
              have HBE7:=ξh HPG7.bel
              clear hfu
              go_wp2
              rw[HNP.out]
              exact pld_none HNO.out HBE7.out
            · have hfu:failU n g.d=false:=hfu
              have HS2:=ξh (show AA (k+1)=_ from by rw[HS1.out,if_neg (by rw[hfu];simp)])
              unfold ConR at hcr
              simp only at hcr
              clear hfu
              cases hpk:pickU n fs g.d r2.ls with
              | none=>
                rw[hpk] at hcr
                simp only at hcr
                subst hcr
                have HS3:=ξh (show AA (k+1)=some ⟨r2.ls,r2.bl++[(k:Int)]⟩ from by rw[HS2.out,hpk])
                obtain⟨_,_,_,_,_,_,_,_,_,_,_,hpg⟩:=HPG7.out
                have HO7:=ξh hpg.blo
                have HBZ:=ξh hpg.bel.size
                clear hpg hpk HS2
                go_wp2_with (at_builtin;refine ξa6 rfl (.tmp 85) (.tmp 87) 58 rfl Tryz.underlying58 Tryz.infoI w.heap.size (.slice ab3 nb3 cb3) r2.bl rfl HO7.out rfl (ξs HBL.out (by decide)) HBZ.out ?_;intro v8 w8 o8 g8 l8;have HNEW:=ξh (HPG7.push o8 g8 l8);obtain⟨a8,m8,c8,rfl⟩:=ξag o8;clear o8 g8 l8)
                go_roundw
                case rel=>exact⟨k+1,a8,m8,c8,⟨r2.ls,r2.bl++[(k:Int)]⟩,by omega,by go_num,rfl,HS3.out,HNEW.out⟩
                case measure=>simp[intOf];omega
              | some ui=>
                obtain⟨u,ix⟩:=ui
                rw[hpk] at hcr
                simp only at hcr
                obtain⟨hcm0,b9,fv,rfl,hb9,x0,x1,x2,x3,x4,hrf⟩:=hcr
                have HS3:=ξh (show AA (k+1)=some ⟨putL r2.ls (lgtU r2.ls ((k:Int)+1) g.d.a u),r2.bl⟩ from by rw[HS2.out,hpk])
                have HFL:=ξh (show u.1.length≤1000000 from ξs (lgtOk_o HN.out (new_ok (u:=(u,ix)) (id:=(k:Int)+1) hpk HDM1.out (by omega) HLK.2).1).2 (by decide))
                obtain⟨ax,nx,cx,rfl⟩:∃au nu cu,fv= .slice au nu cu:=by
                 obtain⟨au,cu,hv,-⟩:=ξaI hrf
                 exact⟨_,_,_,hv⟩
                have HRF:=ξh hrf
                have hcmI:(0:Int)<(cm:Int):=by omega
                have hcmB:((cm:Int)==0)=false:=by simpa using(by omega:(cm:Int)≠0)
                have HWTX:=ξh (fun w' (h:PlnR w' (.agg #[.slice e1 n1 d1,.slice e2 n2 d2,.slice e3 n3 d3]) ⟨n,r2.ls⟩) (h2:Rd w' (.slice ax nx cx) u.1)=>HWT.out (.agg #[.slice e1 n1 d1,.slice e2 n2 d2,.slice e3 n3 d3]) (.slice ax nx cx) r2.ls (lgtU r2.ls ((k:Int)+1) g.d.a u) w' h h2 HFL.out HLK.out)
                unfold lgtV at HWTX
                simp only[lgtU] at HWTX
                obtain⟨fu,hfu⟩:∃fu:Int,fu=(((fitU r2.ls u).headD 0:Nat):Int):=⟨_,rfl⟩
                have HLG:=ξh (show lgtU r2.ls ((k:Int)+1) g.d.a u=⟨(k:Int)+1,g.d.a,u.1,fu,u.2⟩ from by rw[hfu];rfl)
                rw[HLG.out] at HS3
                rw[←hfu] at HWTX x3
                clear hfu
                clear hpk HS2 hrf
                go_upto_region 24 with fail
                have k8:=ξn w7 (.cells #[.int .i64 0,.int .i64 g.d.a,.slice ax nx cx,.int .i64 fu,.int .i64 u.2] 86)
                have b8:=(ξb w7.heap.size w7).alloc (ξr _) (.cells #[.int .i64 0,.int .i64 g.d.a,.slice ax nx cx,.int .i64 fu,.int .i64 u.2] 86)
                obtain⟨bl,hbl⟩:∃bl,bl=w7.heap.size:=⟨_,rfl⟩
                rw[←hbl] at k8 ⊢
                have HBLQ:=ξh hbl
                have HK8:=ξh k8
                have HB8:=ξh b8
                clear x0 x1 x2 x3 x4 k8 b8 hbl hcmI hcmB
                generalize w7.alloc (.cells #[.int .i64 0,.int .i64 g.d.a,.slice ax nx cx,.int .i64 fu,.int .i64 u.2] 86)=w8 at *
                have t0:=blkc HK8.out (j:=0) (u:= .int .i64 0) rfl
                have f0:w8.frozen? ⟨bl,0,none⟩=false:=ξz _ _ _ _ _ HK8.out
                go_upto_region 25 with fail
                have HB9:=ξh (HB8.setCell (p:=⟨bl,0,none⟩) (by show w7.heap.size≤bl;have:=HBLQ.out;omega) (.int .i64 ((k:Int)+1)))
                have HX9:=ξh (show(w8.setCell ⟨bl,0,none⟩ (.int .i64 ((k:Int)+1))).heap[bl]?= some (.cells #[.int .i64 ((k:Int)+1),.int .i64 g.d.a,.slice ax nx cx,.int .i64 fu,.int .i64 u.2] 86) from by rw[ξe w8 bl 0 _ 86 (.int .i64 ((k:Int)+1)) HK8.out];simp)
                generalize w8.setCell ⟨bl,0,none⟩ (.int .i64 ((k:Int)+1))=w9 at *
                clear t0 f0
                have HPG9:=ξh (HPG7.below HB9.out)
                have HP9:=ξh (HP7.behind HB9.out)
                have HRF9:=ξh (HRF.belowAll HB9.out)
                have HBX9:=ξh (ξA HX7.out HB9.out)
                have y0:=blkc HBX9.out (j:=0) (u:= .slice e1 n1 d1) rfl
                have y1:=blkc HBX9.out (j:=1) (u:= .slice e2 n2 d2) rfl
                have y2:=blkc HBX9.out (j:=2) (u:= .slice e3 n3 d3) rfl
                have t0:=blkc HX9.out (j:=0) (u:= .int .i64 ((k:Int)+1)) rfl
                have t1:=blkc HX9.out (j:=1) (u:= .int .i64 g.d.a) rfl
                have t2:=blkc HX9.out (j:=2) (u:= .slice ax nx cx) rfl
                have t3:=blkc HX9.out (j:=3) (u:= .int .i64 fu) rfl
                have t4:=blkc HX9.out (j:=4) (u:= .int .i64 u.2) rfl
                go_wp2_with fail
                refine(HWTX.out w9 HP9.out HRF9.out).mono ?_
                rintro e w10 ⟨u1,u2,u3,B,fp,rfl,hG,b10⟩
                obtain⟨⟨e4,n4,d4,rfl⟩,⟨e5,n5,d5,rfl⟩,e6,n6,d6,rfl⟩:=hG.slices
                have hx7:=ξA HBX9.out b10
                have f0:w10.frozen? ⟨bp,0,none⟩=false:=ξz _ _ _ _ _ hx7
                have f1:w10.frozen? ⟨bp,1,none⟩=false:=ξz _ _ _ _ _ hx7
                have f2:w10.frozen? ⟨bp,2,none⟩=false:=ξz _ _ _ _ _ hx7
                clear y0 y1 y2 t0 t1 t2 t3 t4
                have y0:=blkc hx7 (j:=0) (u:= .slice e1 n1 d1) rfl
                have y1:=blkc hx7 (j:=1) (u:= .slice e2 n2 d2) rfl
                have y2:=blkc hx7 (j:=2) (u:= .slice e3 n3 d3) rfl
                have HNEW:=ξh (HPG9.put b10 hG HSM.out)
                clear hG b10 hx7
                go_wp2_with fail
                generalize ((w10.setCell ⟨bp,0,none⟩ (.slice e4 n4 d4)).setCell ⟨bp,1,none⟩ (.slice e5 n5 d5)).setCell ⟨bp,2,none⟩ (.slice e6 n6 d6)=w11 at *
                go_roundw
                case rel=>exact⟨k+1,ab3,nb3,cb3,_,by omega,by go_num,rfl,HS3.out,HNEW.out⟩
                case measure=>simp[intOf];omega
          · have hsB:(g.s==(t:Int))=false:=by simpa using hs
            have hsN:(g.s != (t:Int))=true:=by simpa using hs
            have HS1:=ξh (show AA (k+1)=some r2 from by rw[HS.out,if_pos hs])
            go_wp2_with fail
            go_roundw
            case rel=>exact⟨k+1,ab3,nb3,cb3,r2,by omega,by go_num,rfl,HS1.out,HPG5.out⟩
            case measure=>simp[intOf];omega
        · obtain rfl:mg=k:=by omega
          have HNR:=ξh (HNX2.out r2 HAE.out)
          obtain⟨hlk,-⟩:=HAK.out mg r2 (ξr _) HAE.out
          have HLK:=ξh hlk
          obtain⟨hRb,e1,n1,d1,e2,n2,d2,e3,n3,d3,hbx,hpg⟩:=HPG3.out
          have HBE:=ξh hpg.bel
          have HPR:=ξh (hpg.pl.rd HBE.out)
          have HBX:=ξh hbx
          have HOU:=ξh hpg.out
          have HRS:=ξh hpg.rsv
          have HBLO:=ξh hpg.blo.lt
          clear hlk hpg hbx
          have y0:=blkc HBX.out (j:=0) (u:= .slice e1 n1 d1) rfl
          have y1:=blkc HBX.out (j:=1) (u:= .slice e2 n2 d2) rfl
          have y2:=blkc HBX.out (j:=2) (u:= .slice e3 n3 d3) rfl
          go_wp2_with fail
          refine(HCP.out _ r2.ls wr HPR.out HLK.out).mono ?_
          rintro e w7 ⟨u1,u2,u3,B,fp,rfl,hG,b7⟩
          obtain⟨fq,ho,hnd,hlo⟩:=hG.o
          have HNW:=ξh (newPln ho hnd fun k hk=>(hlo k hk).1)
          have HB7:=ξh b7
          obtain⟨⟨e4,n4,d4,rfl⟩,⟨e5,n5,d5,rfl⟩,e6,n6,d6,rfl⟩:=hG.slices
          clear hG b7 ho hnd hlo y0 y1 y2
          go_wp2_with (at_builtin;refine ξck rfl (.tmp 99) (.tmp 102) 93 75 rfl Tryz.underlying93 (.agg #[.slice none 0 0,.slice none 0 0,.slice none 0 0]) 3 72 Tryz.infoPln rfl (by decide) (by decide) w.heap.size t (.slice aq t cs) _ (plnD ⟨n,r2.ls⟩) _ (fun k hk=>hk.elim (fun h=>(HRS.out k h).2) (fun h=>(HBLO.out k h).2)) (by rfl) HOU.out HBE.size HB7.out [.slice e4 n4 d4,.slice e5 n5 d5,.slice e6 n6 d6] HNW.out rfl (fun z hz=>by simp only[List.mem_cons,List.not_mem_nil,or_false] at hz;rcases hz with e | e | e <;> rw[e] <;> rfl) (by rfl) (by omega) ?_;intro v8 w8 o8 g8 l8;have HNEW:=ξh (HPG3.grow HB7.out o8 g8 l8);obtain⟨-,a8,c8,rfl⟩:=o8.grw.form;clear o8 g8 l8)
          go_roundw
          case rel=>exact⟨t+1,a8,c8,ab3,nb3,cb3,psL++[r2.ls],r2,by omega,by go_num,rfl,rfl,HNR.out,by rw[List.map_append];exact HNEW.out⟩
          case measure=>simp[intOf];omega
  · obtain rfl:t=8:=by omega
    have HPL:=ξh (show ξR n fs gs=some (psL,r) from by rw[HPOK.out];exact HRP.out)
    obtain⟨_,_,_,_,_,_,_,_,_,_,_,hpg⟩:=HPG.out
    have HO:=ξh hpg.blo
    have HLB:=ξh (show r.bl.length≤1099511627776 from by
     have h1:=runP_bll HRP.out
     have h2:=HGK.1
     omega)
    clear hpg
    go_wp2_with fail
    refine(sortI_own (.slice ab nb cb) r.bl w.heap.size wr HO.out HLB.out).mono ?_
    rintro e w7 ⟨rfl,o7,g7⟩
    have HEND:=ξh (pld_some HPL.out HPG.out o7 g7)
    clear o7 g7
    go_wp2
    rw[HNP.out]
    exact HEND.out
theorem ξc4 (v:Value) (xs:List Int) (w:World) (h:Rd w v xs) (hl:xs.length≤900000):
 Calls Tryz.prog 187 #[v] w fun e w'=>∃v',e= .returned v'∧w'.ownsRow w.heap.size 3 1 v' xs.length (ints xs)∧Below w.heap.size w w':=by
 have hb0:=((ξb w.heap.size w).alloc (ξr _) (.cells #[] 3))
 have HOWN0:=ξh (World.ownsRow_lit (base:=w.heap.size) (e:=3) (size:=1) w #[] 0 (ξr _) (by simp) rfl)
 have hrd:=h.belowAll hb0
 obtain⟨a,cap,n,HN,rfl,hcap,hnone⟩:=full_opn h
 obtain⟨a',cap',n',HN',e,_,_,hc⟩:=hrd.opn
 simp only[Value.slice.injEq] at e
 obtain⟨rfl,rfl,rfl⟩:=e
 have HC:=ξh (fun h0=>by
  obtain⟨b,off,e1,e2,e3⟩:=hc h0
  exact(⟨b,off,e1,e3⟩:∃b off,a=some ⟨b,off,none⟩∧ ∀j,j<n→(w.alloc (.cells #[] 3)).cell? ⟨b,off+j,none⟩=some (.int .i64 (xs[j]?.getD 0))))
 have HNO:=ξh hnone
 have HB0:=ξh hb0
 have hn:n≤900000:=by have:=HN.out;omega
 rw[HN.out]
 clear hc hrd h hb0 hl HN' hnone
 go_enter Tryz.func187,Tryz.ntmps187
 go_wp2_with (at_builtin;go_loud (refine ξa2 rfl (.tmp 3) (.tmp 4) 58 rfl Tryz.underlying58 Tryz.infoInt w.heap.size (.slice (some ⟨w.heap.size,0,none⟩) 0 0) 0 [] rfl HOWN0.out a n cap xs rfl HN.out HNO.out HC.out (by omega) (by simp) ?_);intro v' w1 hown1 hgrow1)
 go_ret
 exact⟨_,rfl,by simpa using hown1,HB0.grown hgrow1 (by simp) (fun k hk=>by have e:w.heap.size=k:=(by simpa[Value.ownBlock] using hk);exact Nat.le_of_eq e)⟩
open Go.RowKit
def Cs (w:World) (B:Nat) (c:Value) (K:Nat):Prop:=∃k,k≤K∧Cur w B c k
theorem Cs.lt {w:World} {B K:Nat} {c:Value} (h:Cs w B c K):B<w.heap.size∧ ∀j,bb c=some j→j<w.heap.size:=by
 obtain⟨k,_,h1,h2,s,h3,h4,h5⟩:=h
 exact⟨(ξa h5).1,h1.lt⟩
theorem Cs.kept {w w':World} {B K:Nat} {c:Value} (h:Cs w B c K) (hs:w.heap.size≤w'.heap.size) (hB:w'.heap[B]?= w.heap[B]?) (hc:∀j,bb c=some j→w'.heap[j]?= w.heap[j]?):Cs w' B c K:=by
 obtain⟨k,hk,h1,h2,s,h3,h4,h5⟩:=h
 exact⟨k,hk,h1.kept hs hc,h2,s,h3,h4,by rw[hB];exact h5⟩
def CS (w0:World) (B:Nat) (c:Value) (K:Nat) (w':World):Prop:=(B<w0.heap.size∧ ∀j,bb c=some j→j<w0.heap.size)∧Cs w' B c K∧w0.grownBy w' (some B)
section
variable {w0 w w' w'' : World} {B K K' : Nat} {c : Value}
theorem Cs.here (h:Cs w B c K):CS w B c K w:=⟨h.lt,h,World.grownBy.refl _ _⟩
theorem Cs.mono (h:Cs w B c K) (hk:K≤K'):Cs w B c K':=by obtain⟨k,h1,h2⟩:=h;exact⟨k,by omega,h2⟩
theorem CS.mono (h:CS w0 B c K w) (hk:K≤K'):CS w0 B c K' w:=⟨h.1,h.2.1.mono hk,h.2.2⟩
theorem CS.size (h:CS w0 B c K w):w0.heap.size≤w.heap.size:=h.2.2.size
theorem CS.st (h:CS w0 B c K w):Cs w B c K:=h.2.1
theorem CS.call (h:CS w0 B c K w) (h2:CS w B c K' w'):CS w0 B c K' w':=⟨h.1,h2.2.1,h.2.2.trans' h2.2.2⟩
theorem CS.grown {row:Option Nat} (h:CS w0 B c K w) (hg:w.grownBy w' row) (hr:∀g,row=some g→w0.heap.size≤g):CS w0 B c K w':=by
 have hs:=h.size
 refine⟨h.1,h.2.1.kept hg.size (hg.block _ h.2.1.lt.1 fun e=>by have:=hr _ e.symm;have:=h.1.1;omega) (fun j hj=>hg.block j (h.2.1.lt.2 j hj) fun e=>by have:=hr _ e.symm;have:=h.1.2 j hj;omega),?_⟩
 have g:=h.2.2
 exact⟨hg.os.trans g.os,hg.tape.trans g.tape,hg.output.trans g.output,ξs g.size hg.size,fun k hk hne=>by
  rw[hg.block k (by omega) (fun e=>by have:=hr k e.symm;omega),g.block k hk hne]⟩
theorem CS.below (h:CS w0 B c K w) (hb:Below w.heap.size w w'):CS w0 B c K w':=
 h.grown (row:=none) ⟨hb.os,hb.tape,hb.output,hb.size,fun k hk _=>hb.block k hk⟩ (fun g e=>by cases e)
theorem CS.alloc (h:CS w0 B c K w) (o:Obj):CS w0 B c K (w.alloc o):=h.below ((ξb _ _).alloc (ξr _) o)
theorem CS.drew (h:CS w0 B c K w):CS w0 B c K w.drew:=h.below (ξb _ _).drew
theorem CS.set {b j:Nat} (h:CS w0 B c K w) (hb:w0.heap.size≤b) (u:Value):CS w0 B c K (w.setCell ⟨b,j,none⟩ u):=
 h.grown (row:=some b) ⟨rfl,rfl,rfl,by simp,fun k _ hk=>ξm w ⟨b,j,none⟩ k u (fun e=>hk (by simp[e]))⟩ (fun g e=>by cases e;exact hb)
theorem CS.blk {b:Nat} {x:Obj} (h:CS w B c K w') (hx:w.heap[b]?= some x) (hne:b≠B):w'.heap[b]?= some x:=by
 rw[h.2.2.block b (ξa hx).1 (fun e=>hne (by simpa using e))];exact hx
theorem CS.blk2 {b:Nat} {x:Obj} (h:CS w0 B c K w) (h2:CS w B c K' w') (hb:w0.heap.size≤b) (hx:w.heap[b]?= some x):w'.heap[b]?= some x:=
 h2.blk hx (by have:=h.1.1;omega)
theorem CS.belowAll (h:CS w0 B c K w) {W:World} {Q:Nat} (hb:Below Q W w0) (hQ:Q≤B):Below Q W w:=
 hb.grown h.2.2 (ξs hQ (Nat.le_of_lt h.1.1)) (fun g e=>by cases e;exact hQ)
end
theorem curN {w:World} {v:Value} (h:RdB w v):Cs (w.alloc (.cells #[v,.int .i64 0,.int .u64 0] 117)) w.heap.size v 0:=
 ⟨0,ξr _,h.kept (by simp) (fun j hj=>heap_alloc_old w _ (h.lt j hj)),fun j hj=>by have:=h.lt j hj;omega,0,by omega,by omega,ξn w _⟩
def PickP (w:World) (B:Nat) (c:Value) (K:Nat) (n:Int) (e:Ending) (w':World):Prop:=∃x:Int,0≤x∧x≤n-1∧e= .returned (.int .i64 x)∧CS w B c (K+2) w'∧w'.heap.size=w.heap.size
theorem ξX (B:Nat) (c:Value) (K:Nat) (n:Int) (w:World) (h:Cs w B c K) (hk:K≤4000000000000000) (hn:1≤n) (hn2:n≤1073741824):
 Calls Tryz.prog 72 #[.pointer (some ⟨B,0,none⟩),.int .i64 n] w (PickP w B c K n):=by
 have hl:=h.lt
 obtain⟨k,hk2,hc⟩:=h
 refine(pick_any B c k n w hc (by omega) hn hn2).mono ?_
 rintro e w' ⟨x,k',h1,h2,h3,h4,h5,h6,h7⟩
 exact⟨x,h1,h2,h3,⟨hl,⟨k',by omega,h5⟩,h6⟩,h7⟩
def OneP (w:World) (B:Nat) (c:Value) (K:Nat) (e:Ending) (w':World):Prop:=∃b:Bool,e= .returned (.bool b)∧CS w B c (K+2) w'∧w'.heap.size=w.heap.size
theorem oneC (B:Nat) (c:Value) (K:Nat) (n:Int) (w:World) (h:Cs w B c K) (hk:K≤4000000000000000) (hn:1≤n) (hn2:n≤1073741824):
 Calls Tryz.prog 136 #[.pointer (some ⟨B,0,none⟩),.int .i64 n] w (OneP w B c K):=by
 go_enter Tryz.func136,Tryz.ntmps136
 go_wp2_with fail
 refine(ξX B c K n _ h hk hn hn2).mono ?_
 rintro e w1 ⟨x,x0,x1,rfl,hc1,hs1⟩
 go_wp2
 go_ret
 exact⟨_,rfl,hc1,hs1⟩
def AmongP (w:World) (B:Nat) (c:Value) (K:Nat) (lo hi:Int) (e:Ending) (w':World):Prop:=∃x:Int,lo≤x∧x≤hi∧e= .returned (.int .i64 x)∧CS w B c (K+2) w'∧w'.heap.size=w.heap.size
theorem ξaw (B:Nat) (c:Value) (K g n cap:Nat) (lo hi:Int) (w:World) (h:Cs w B c K) (hk:K≤4000000000000000) (h1:1≤n) (h2:n≤1000) (hne:g≠B)
 (hr:∀j,j<n→ ∃x:Int,lo≤x∧x≤hi∧w.cell? ⟨g,j,none⟩=some (.int .i64 x)):
 Calls Tryz.prog 73 #[.pointer (some ⟨B,0,none⟩),.slice (some ⟨g,0,none⟩) n cap] w (AmongP w B c K lo hi):=by
 have HR:=ξh hr
 clear hr
 go_enter Tryz.func73,Tryz.ntmps73
 go_wp2_with fail
 refine(ξX B c K (n:Int) _ h hk (by omega) (by omega)).mono ?_
 rintro e w1 ⟨x,x0,x1,rfl,hc1,hs1⟩
 obtain⟨j,rfl⟩:=Int.eq_ofNat_of_zero_le x0
 have hj:j<n:=by omega
 have hjI:(j:Int)<(n:Int):=by omega
 obtain⟨y,y0,y1,hcell⟩:=HR.out j hj
 have hc:w1.cell? ⟨g,j,none⟩=some (.int .i64 y):=by
  rw[World.cell?_of_block (w:=w) (hc1.2.2.block g (ξd w _ hcell) (fun e=>hne (by simpa using e)))];exact hcell
 clear hcell
 go_wp2
 go_ret
 exact⟨y,y0,y1,rfl,hc1,hs1⟩
theorem row_kept0 {w w':World} {base:Nat} {e:TypeId} {size:Nat} {v:Value} {n:Nat} {xs:List Value} (h:w.ownsRow base e size v n xs) (hk:∀g,v.ownBlock=some g→w'.heap[g]?= w.heap[g]?):w'.ownsRow base e size v n xs:=by
 refine⟨h.1,?_⟩
 rcases h.2 with q | ⟨g,cap,cur,rfl,q1,q2,q3⟩
 · exact .inl q
 · exact .inr ⟨g,cap,cur,rfl,q1,by rw[hk g rfl];exact q2,q3⟩
theorem ofC (B:Nat) (c:Value) (K g n cap:Nat) (ss:List ByteArray) (w:World) (h:Cs w B c K) (hk:K≤4000000000000000) (hn:ss.length=n) (h1:1≤n) (h2:n≤1000) (hne:g≠B)
 (hr:∀j,j<n→w.cell? ⟨g,j,none⟩=some (.string (ss[j]?.getD ⟨#[]⟩))):
 Calls Tryz.prog 122 #[.pointer (some ⟨B,0,none⟩),.slice (some ⟨g,0,none⟩) n cap] w fun e w'=>∃s,e= .returned (.string s)∧s∈ss∧CS w B c (K+2) w':=by
 have HR:=ξh hr
 have HN:=ξh hn
 clear hr hn
 go_enter Tryz.func122,Tryz.ntmps122
 go_wp2_with fail
 refine(ξX B c K (n:Int) _ h hk (by omega) (by omega)).mono ?_
 rintro e w1 ⟨x,x0,x1,rfl,hc1,hs1⟩
 obtain⟨j,rfl⟩:=Int.eq_ofNat_of_zero_le x0
 have hj:j<n:=by omega
 have hjI:(j:Int)<(n:Int):=by omega
 have hcell:=HR.out j hj
 have hc:w1.cell? ⟨g,j,none⟩=some (.string (ss[j]?.getD ⟨#[]⟩)):=by
  rw[World.cell?_of_block (w:=w) (hc1.2.2.block g (ξd w _ hcell) (fun e=>hne (by simpa using e)))];exact hcell
 clear hcell
 go_wp2
 go_ret
 exact⟨_,rfl,by rw[ξg (by rw[HN.out];exact hj)];exact ξj _,hc1⟩
theorem row_form0 {w:World} {base n:Nat} {T:TypeId} {v:Value} {us:List Value} {m:Nat} (h:w.ownsRow base T m v n us):∃a c,v= .slice a n c:=by
 rcases h.2 with ⟨h,h2⟩ | ⟨g,cap,cur,h,_⟩
 · exact⟨none,0,by rw[h,h2]⟩
 · exact⟨_,_,h⟩
def OwR (w:World) (base:Nat) (v:Value) (xs:List Int):Prop:=w.ownsRow base 3 1 v xs.length (ints xs)
theorem OwR.kept {w w':World} {base:Nat} {v:Value} {xs:List Int} (h:OwR w base v xs) (hk:∀g,v.ownBlock=some g→w'.heap[g]?= w.heap[g]?):OwR w' base v xs:=row_kept0 h hk
theorem OwR.lt {w:World} {base:Nat} {v:Value} {xs:List Int} (h:OwR w base v xs):∀g,v.ownBlock=some g→base≤g∧g<w.heap.size:=World.ownsRow.lt h
theorem OwR.own {w:World} {base:Nat} {v:Value} {xs:List Int} (h:OwR w base v xs):Own w base v xs:=ξa4 h
theorem OwR.below {w w':World} {base:Nat} {v:Value} {xs:List Int} (h:OwR w base v xs) (hb:Below w.heap.size w w'):OwR w' base v xs:=h.kept fun g hg=>hb.block g (h.lt g hg).2
theorem OwR.base {w:World} {base base':Nat} {v:Value} {xs:List Int} (h:OwR w base v xs) (hb:base'≤base):OwR w base' v xs:=
 ⟨h.1,h.2.imp id fun⟨g,cap,cur,k1,k2,k3⟩=>⟨g,cap,cur,k1,ξs hb k2,k3⟩⟩
theorem OwR.oth {w:World} {base b j:Nat} {v u:Value} {xs:List Int} (h:OwR w base v xs) (hb:∀k,v.ownBlock=some k→k≠b):OwR (w.setCell ⟨b,j,none⟩ u) base v xs:=
 h.kept fun k hk=>ξm w ⟨b,j,none⟩ k u (hb k hk)
end Go.Proofs.YtofcicomhnkocaaGreat
