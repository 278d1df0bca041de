/- Joined: XPld XCmrS. -/
import Derived.Test.YtofcicomhnkocaaGreatBp20
import Derived.Test.YtofcicomhnkocaaGreatBp21
import Derived.Test.YtofcicomhnkocaaGreatBp09
import Derived.Test.YtofcicomhnkocaaGreatBp05
import Derived.Test.YtofcicomhnkocaaGreatBp15
import Derived.Test.YtofcicomhnkocaaGreatBp07
import Derived.Test.YtofcicomhnkocaaGreatBp08
import Derived.BigQuiet
import Derived.Lib.QuietBelow
set_option linter.unusedVariables false
namespace Go.Proofs.YtofcicomhnkocaaGreat
set_option maxHeartbeats 12800000
open Go.RowKit Go.Sort
set_option maxRecDepth 100000
theorem Tryz.infoPln:(Tryz.prog.info? 75).map (fun i=>(i.zero,i.size,i.bytes))=some (some (.agg #[.slice none 0 0,.slice none 0 0,.slice none 0 0]),3,72):=by kernel_rfl
def planO (n:Net) (fs:List Fmt) (gs:List Gro):Option (List (List Lgt) × PRun):=if fmOk fs&&grsOk n gs then runP n fs gs 8 else none
def PldP (n:Net) (fs:List Fmt) (gs:List Gro) (w:World) (e:Ending) (w':World):Prop:=Below w.heap.size w w'∧
 match planO n fs gs with
 | none=>e= .returned (.tuple #[.slice none 0 0,.slice none 0 0,.bool false])
 | some (ps,r)=>∃s b,e= .returned (.tuple #[s,b,.bool true])∧GrwX w' w.heap.size 75 3 s 8 ((ps.map (Pln.mk n)).flatMap plnD) (fun k=>b.ownBlock=some k)∧Own w' w.heap.size b (srt r.bl)∧ ∀g,s.ownBlock=some g→b.ownBlock≠some g
theorem pld_none {n:Net} {fs:List Fmt} {gs:List Gro} {w w':World} (h:planO n fs gs=none) (hb:Below w.heap.size w w'):PldP n fs gs w (.returned (.tuple #[.slice none 0 0,.slice none 0 0,.bool false])) w':=by
 unfold PldP;rw[h];exact⟨hb,rfl⟩
theorem pld_some {n:Net} {fs:List Fmt} {gs:List Gro} {w w1 w':World} {ps:List (List Lgt)} {r:PRun} {R:Nat→Prop} {bp:Nat} {s b:Value} {p:Pln} (h:planO n fs gs=some (ps,r)) (hp:PgB w w1 R bp s b p 8 (ps.map (Pln.mk n)) r.bl) (ho:Own w' w.heap.size b (srt r.bl)) (hg:w1.grownBy w' b.ownBlock):PldP n fs gs w (.returned (.tuple #[s,b,.bool true])) w':=by
 unfold PldP;rw[h]
 obtain⟨-,a1,m1,c1,a2,m2,c2,a3,m3,c3,-,h2⟩:=hp
 refine⟨h2.bel.grown hg h2.bel.size fun q hq=>(h2.blo.lt q hq).1,s,b,rfl,h2.out.kept (fun k _ q1 q2=>hg.block k q1 fun e=> ?_) (fun k _ hy=> .inr hy),ho,fun g hg=>(h2.aps g hg).2⟩
 rcases q2 with q2 | q2
 · exact q2 (.inr e.symm)
 · exact(h2.aps k q2).2 e.symm
def LsK (n:Net) (ls:List Lgt):Prop:=ls.length≤12∧ ∀x∈ls,lgtOk n x=true
theorem LsK.lgo {n:Net} {ls:List Lgt} (h:LsK n ls) (hn:netOk n=true):∀x∈ls,LgO n.fs.length x:=fun x hx=>(lgtOk_o hn (h.2 x hx)).1
theorem LsK.fb {n:Net} {ls:List Lgt} (h:LsK n ls) (hn:netOk n=true):∀x∈ls,x.fb.length≤1000000:=fun x hx=>Nat.le_trans (lgtOk_o hn (h.2 x hx)).2 (by decide)
theorem LsK.fb9 {n:Net} {ls:List Lgt} (h:LsK n ls) (hn:netOk n=true):∀x∈ls,x.fb.length≤900000:=fun x hx=>Nat.le_trans (lgtOk_o hn (h.2 x hx)).2 (by decide)
theorem LsK.sub {n:Net} {ls ls':List Lgt} (h:LsK n ls) (hs:ls'.Sublist ls):LsK n ls':=⟨Nat.le_trans hs.length_le h.1,fun x hx=>h.2 x (hs.subset hx)⟩
theorem RunOk.lsk {n:Net} {gs:List Gro} {t:Int} {i:Nat} {r:PRun} (hg:GrsP n gs) (h:RunOk n gs t i r):LsK n r.ls:=⟨h.len hg,h.ok⟩
theorem slice_ofO {w:World} {n:Net} {u1 u2:Value} {fp:List Nat} (h:NetO w n (.agg #[u1,u2]) fp):(∃a m c,u1= .slice a m c)∧ ∃a m c,u2= .slice a m c:=by
 obtain⟨a5,n5,c5,a6,n6,c6,e⟩:=h.form
 simp only[Value.agg.injEq,Array.mk.injEq,List.cons.injEq,and_true] at e
 exact⟨⟨_,_,_,e.1⟩,⟨_,_,_,e.2⟩⟩
theorem PlG.slices {w:World} {base B:Nat} {u1 u2 u3:Value} {p:Pln} {fp:List Nat} (h:PlG w base B u1 u2 u3 p fp):(∃a m c,u1= .slice a m c)∧(∃a m c,u2= .slice a m c)∧ ∃a m c,u3= .slice a m c:=by
 obtain⟨h1,h2⟩:=slice_ofO h.net
 obtain⟨-,a7,c7,e⟩:=h.lig.form
 exact⟨h1,h2,_,_,_,e⟩
theorem runP_lsk {n:Net} {fs:List Fmt} {gs:List Gro} (hg:GrsP n gs):∀{k:Nat} {ps:List (List Lgt)} {r:PRun},runP n fs gs k=some (ps,r)→LsK n r.ls
 | 0,ps,r,h=>by
   rw[runP] at h
   cases h
   exact⟨by simp,fun x hx=>by cases hx⟩
 | k+1,ps,r,h=>by
   rw[runP] at h
   split at h
   · cases h
   · rename_i ps0 r0 h0
     split at h
     · cases h
     · rename_i r2 h2
       cases h
       have a:=(runP_all hg h0).1
       unfold perP at h2
       exact(addA_ok hg a (Nat.le_refl _) h2).1.lsk hg
theorem addA_bll {n:Net} {fs:List Fmt} {gs:List Gro} {t:Int} {r:PRun} :∀{i:Nat} {r2:PRun},addA n fs gs t (some r) i=some r2→r2.bl.length≤r.bl.length+i
 | 0,r2,h=>by
   unfold addA at h
   simp at h
   subst h
   omega
 | i+1,r2,h=>by
   rw[addA_step] at h
   cases h1:addA n fs gs t (some r) i with
   | none=>rw[h1] at h;cases h
   | some r1=>
     rw[h1] at h
     have:=addA_bll h1
     rcases addP_bl h with e | ⟨e,-⟩
     · rw[e];omega
     · rw[e,List.length_append];simp;omega
theorem runP_bll {n:Net} {fs:List Fmt} {gs:List Gro} :∀{k:Nat} {ps:List (List Lgt)} {r:PRun},runP n fs gs k=some (ps,r)→r.bl.length≤k*gs.length
 | 0,ps,r,h=>by
   rw[runP] at h
   cases h
   simp
 | k+1,ps,r,h=>by
   rw[runP] at h
   split at h
   · cases h
   · rename_i ps0 r0 h0
     split at h
     · cases h
     · rename_i r2 h2
       cases h
       have h3:=runP_bll h0
       have h4:r.bl.length≤r0.bl.length+gs.length:=addA_bll (r:=⟨delA gs k r0.ls gs.length,r0.bl⟩) h2
       rw[Nat.add_mul];omega
theorem planned_any (v vf vg:Value) (n:Net) (fs:List Fmt) (gs:List Gro) (w:World) (h:NetR w v n) (hf:Rdt w (flt 2 fmE fs) vf) (hg:Rdt w (flt 6 groE gs) vg):
 Calls Tryz.prog 64 #[v,vf,vg] w (PldP n fs gs w):=by
 obtain⟨NP,hNP⟩:∃NP,NP=PldP n fs gs w:=⟨_,rfl⟩
 rw[←hNP]
 have HNP:=Lib.hid hNP
 have HVF:=Lib.hid (fun w' (hb:Below w.heap.size w w')=>implFormats_any vf fs w' (hf.behind hb))
 have HVG:=Lib.hid (fun w' (hb:Below w.heap.size w w')=>implGrowths_any v vg n gs w' (h.behind hb) (hg.behind hb))
 have HRF:=Lib.hid (fun w' (hb:Below w.heap.size w w')=>hf.behind hb)
 obtain⟨u1,u2,rfl,r1,r2,hsm⟩:=h
 have hnet:NetR w (.agg #[u1,u2]) n:=⟨u1,u2,rfl,r1,r2,hsm⟩
 have HSM:=Lib.hid (show NetSm n from hsm)
 have HP0:=Lib.hid (show PlnR w (.agg #[u1,u2,.slice none 0 0]) ⟨n,[]⟩ from⟨u1,u2,_,rfl,r1,r2,.nil 5,hsm⟩)
 obtain⟨⟨a1,m1,c1,rfl⟩,a2,m2,c2,rfl⟩:=slice_of_net hnet
 obtain⟨af,mf,cf,rfl,-,-,-,-⟩:=flt_opn (m:=2) (enc:=fmE) (fun _=>rfl) (by omega) nilFm hf
 obtain⟨ag,mg,cg,rfl,HNG,hcg,hmg,hag⟩:=flt_opn (m:=6) (enc:=groE) (fun _=>rfl) (by omega) nilG hg
 have HAG:=Lib.hid hag
 have HPO:=Lib.hid (show planO n fs gs=if fmOk fs&&grsOk n gs then runP n fs gs 8 else none from rfl)
 have HGP:=Lib.hid (fun h=>@grsOk_parts n gs h)
 have HB1:=Lib.hid ((Below.refl w.heap.size w).alloc (Nat.le_refl _) (.cells #[.slice a1 m1 c1,.slice a2 m2 c2] 35))
 have HK1:=Lib.hid (heap_alloc_new w (.cells #[.slice a1 m1 c1,.slice a2 m2 c2] 35))
 clear hag r1 r2 hsm hnet hf hg hNP
 generalize hokf:fmOk fs=okf at HVF HPO
 generalize hokg:grsOk n gs=okg at HVG HPO HGP
 have HOKF:=Lib.hid hokf
 clear hokf hokg
 go_enter Tryz.func64,Tryz.ntmps64
 go_wp2_with fail
 generalize w.alloc (.cells #[.slice a1 m1 c1,.slice a2 m2 c2] 35)=w1 at *
 refine(HVF.out w1 HB1.out).mono ?_
 rintro e w2 ⟨rfl,b2⟩
 have HB2:=Lib.hid (HB1.out.trans (b2.mono HB1.out.size))
 have HK2:=Lib.hid (kept_o' HK1.out b2)
 clear b2
 cases okf
 · go_wp2
   rw[HNP.out]
   exact pld_none HPO.out HB2.out
 have y0:=blkc HK2.out (j:=0) (u:= .slice a1 m1 c1) rfl
 have y1:=blkc HK2.out (j:=1) (u:= .slice a2 m2 c2) rfl
 go_wp2_with fail
 refine(HVG.out w2 HB2.out).mono ?_
 rintro e w3 ⟨rfl,b3⟩
 have HB3:=Lib.hid (HB2.out.trans (b3.mono HB2.out.size))
 have HK3:=Lib.hid (kept_o' HK2.out b3)
 clear b3 y0 y1
 cases okg
 · go_wp2
   rw[HNP.out]
   exact pld_none HPO.out HB3.out
 have y0:=blkc HK3.out (j:=0) (u:= .slice a1 m1 c1) rfl
 have y1:=blkc HK3.out (j:=1) (u:= .slice a2 m2 c2) rfl
 obtain⟨hn,hgp⟩:=HGP.out rfl
 have HPOK:=Lib.hid (show planO n fs gs=runP n fs gs 8 from HPO.out)
 have HCN:=Lib.hid (fun(v':Value) (ls:List Lgt) (d:Dem) (w':World) (hb:Below w.heap.size w w') (h:PlnR w' v' ⟨n,ls⟩) (h3:demOk d n.ns.length=true) (h4:LsK n ls)=>considered_any v' (.slice af mf cf) ⟨n,ls⟩ fs d w' h (HRF.out w' hb) hn HOKF.out h3 (Nat.le_trans h4.1 (by decide)) (h4.lgo hn) (Nat.le_trans (netOk_yes hn).2.2.1 (by decide)))
 have HWU:=Lib.hid (fun(v':Value) (ls:List Lgt) (i:Nat) (w':World) (h:PlnR w' v' ⟨n,ls⟩) (hi:i<ls.length) (h4:LsK n ls)=>withoutLight_any v' ⟨n,ls⟩ i w' h hi (Nat.le_trans (netOk_yes hn).2.1 (by decide)) (Nat.le_trans (netOk_yes hn).2.2.1 (by decide)) (Nat.le_trans h4.1 (by decide)) (h4.fb hn))
 have HWT:=Lib.hid (fun(v' fv:Value) (ls:List Lgt) (x:Lgt) (w':World) (h:PlnR w' v' ⟨n,ls⟩) (hx:Rd w' fv x.fb) (hxl:x.fb.length≤1000000) (h4:LsK n ls)=>withLight_any v' fv ⟨n,ls⟩ x w' h hx hxl (Nat.le_trans (netOk_yes hn).2.1 (by decide)) (Nat.le_trans (netOk_yes hn).2.2.1 (by decide)) (Nat.le_trans h4.1 (by decide)) (h4.fb hn))
 have HCP:=Lib.hid (fun(v':Value) (ls:List Lgt) (w':World) (h:PlnR w' v' ⟨n,ls⟩) (h4:LsK n ls)=>copyPlan_any v' ⟨n,ls⟩ w' h (Nat.le_trans (netOk_yes hn).2.1 (by decide)) (Nat.le_trans (netOk_yes hn).2.2.1 (by decide)) (Nat.le_trans h4.1 (by decide)) (h4.fb hn))
 have hmg12:mg≤12:=by rw[←HNG.out];exact hgp.1
 have HGK:=Lib.hid hgp
 have HN:=Lib.hid hn
 have HG0:=Lib.hid (PgB.start HB3.out HP0.out)
 clear hn hgp HVF HVG HPO HGP HB1 HK1 HB2 HK2 hcg hmg
 go_wp2_with fail
 clear y0 y1
 obtain⟨bp,hbp⟩:∃bp,bp=w3.heap.size+1+1:=⟨_,rfl⟩
 have HR:=Lib.hid (show∃R:Nat→Prop,R=fun k=>k=w3.heap.size+1+1 from⟨_,rfl⟩)
 obtain⟨R,hR⟩:=HR.out
 rw[←hR,←hbp] at HG0
 generalize ((w3.alloc (.cells #[] 75)).alloc (.cells #[] 3)).alloc (.cells #[.slice a1 m1 c1,.slice a2 m2 c2,.slice none 0 0] 75)=w4 at *
 generalize (some ⟨w3.heap.size,0,none⟩:Option Addr)=as0 at *
 generalize (some ⟨w3.heap.size+1,0,none⟩:Option Addr)=ab0 at *
 rw[←hbp]
 clear HR hR hbp HB3 HK3 HP0 HRF
 go_loopw [10,11,34] (fun s10 s11 i wr=>∃(t:Nat) (aq:Option Addr) (cs:Nat) (ab:Option Addr) (nb cb:Nat) (psL:List (List Lgt)) (r:PRun),t≤8∧i= .int .i64 t∧s10= .slice aq t cs∧s11= .slice ab nb cb∧Hid (runP n fs gs t=some (psL,r))∧Hid (PgB w wr R bp (.slice aq t cs) (.slice ab nb cb) ⟨n,r.ls⟩ t (psL.map (Pln.mk n)) r.bl)) (fun _ _ i _=>8-(intOf i).toNat)
 case atStart=>exact⟨0,as0,0,ab0,0,0,[],⟨[],[]⟩,by omega,rfl,rfl,rfl,rfl,HG0.out⟩
 case round=>
  clear HG0
  obtain⟨t,aq,cs,ab,nb,cb,psL,r,ht,rfl,rfl,rfl,HRP,HPG⟩:=hrel
  by_cases hlt:t<8
  · have hltI:(t:Int)<8:=by omega
    have HNXT:=Lib.hid (show runP n fs gs (t+1)=(match addA n fs gs t (some ⟨delA gs t r.ls gs.length,r.bl⟩) gs.length with | none=>none | some r2=>some (psL++[r2.ls],r2)) from by rw[runP,HRP.out];rfl)
    have HROK:=Lib.hid ((runP_all HGK.out HRP.out).1)
    have HLS0:=Lib.hid (runP_lsk HGK.out HRP.out)
    obtain⟨D,hD⟩:∃D:Nat→List Lgt,D=fun k=>delA gs t r.ls k:=⟨_,rfl⟩
    have HD:=Lib.hid hD
    have HD0:=Lib.hid (show D 0=r.ls by rw[hD];rfl)
    have HDK:=Lib.hid (show∀k,LsK n (D k) from fun k=>by rw[hD];exact HLS0.out.sub (delA_sub gs t r.ls k))
    obtain⟨tm,htm⟩:∃tm,tm=(t:Int)-1:=⟨_,rfl⟩
    have htw:IntKind.i64.wrap ((t:Int)-1)=tm:=by rw[htm];exact IntWalk.i64_in _ (by omega)
    have htv:wrap64 ((t:Int)-1)=tm:=by rw[htm];exact IntWalk.wrap64_in _ (by omega)
    have HDS:=Lib.hid (show∀k,D (k+1)=if(gs[k]?.getD nilG).e=tm∧0≤lix ⟨n,D k⟩ ((k:Int)+1) then(D k).eraseIdx (lix ⟨n,D k⟩ ((k:Int)+1)).toNat else D k from fun k=>by rw[hD];rw[htm];exact(delA_step gs t r.ls k).trans (delP_lix n gs t _ k))
    clear hD htm
    go_wp2_with fail
    obtain⟨wo,hwo⟩:∃wo,wo=wr:=⟨_,rfl⟩
    subst hwo
    go_loopw [39] (fun i wr=>∃k:Nat,k≤mg∧i= .int .i64 k∧Hid (PgB w wr R bp (.slice aq t cs) (.slice ab nb cb) ⟨n,D k⟩ t (psL.map (Pln.mk n)) r.bl)) (fun i _=>mg-(intOf i).toNat)
    case atStart=>exact⟨0,by omega,rfl,by rw[HD0.out];exact HPG.out⟩
    case round=>
     obtain⟨k,hk,rfl,HPG2⟩:=hrel
     by_cases hltk:k<mg
     · have hltkI:(k:Int)<(mg:Int):=by omega
       obtain⟨b,off,rfl,hbs,hcs⟩:=HAG.out (by omega)
       have HBE:=Lib.hid HPG2.out.bel
       have hcw:=fun(r:Nat) (u:Value) (hu:(groE (gs[k]?.getD nilG))[r]?= some u)=>(HBE.out.cell (p:=⟨b,off+k*6+r,none⟩) hbs).trans (hcs k hltk r u hu)
       have c0:=hcw 0 _ rfl
       have c1:=hcw 1 _ rfl
       have c2:=hcw 2 _ rfl
       have c3:=hcw 3 _ rfl
       have c4:=hcw 4 _ rfl
       have c5:=hcw 5 _ rfl
       simp only[Nat.add_zero] at c0
       have HDX:=Lib.hid (HDS.out k)
       clear hcw hcs
       generalize gs[k]?.getD nilG=g at *
       obtain⟨hRb,e1,n1,d1,e2,n2,d2,e3,n3,d3,hbx,hpg⟩:=HPG2.out
       have HPR:=Lib.hid (hpg.pl.rd HBE.out)
       have HBX:=Lib.hid hbx
       clear hpg hbx
       go_upto_region 10 with fail
       have n2':=heap_alloc_new wr (.cells #[.int .i64 g.d.a,.int .i64 g.d.b,.int .i64 g.d.r,.int .i64 g.d.c,.int .i64 g.s,.int .i64 g.e] 55)
       have HB5:=Lib.hid ((Below.refl wr.heap.size wr).alloc (Nat.le_refl _) (.cells #[.int .i64 g.d.a,.int .i64 g.d.b,.int .i64 g.d.r,.int .i64 g.d.c,.int .i64 g.s,.int .i64 g.e] 55))
       obtain⟨bq,hbq⟩:∃bq,bq=wr.heap.size:=⟨_,rfl⟩
       rw[←hbq] at n2' ⊢
       clear hbq
       have HX5:=Lib.hid n2'
       clear n2' c0 c1 c2 c3 c4 c5
       generalize wr.alloc (.cells #[.int .i64 g.d.a,.int .i64 g.d.b,.int .i64 g.d.r,.int .i64 g.d.c,.int .i64 g.s,.int .i64 g.e] 55)=w5 at *
       have HK5:=Lib.hid (kept_o' HBX.out HB5.out)
       have HP5:=Lib.hid (HPR.out.behind HB5.out)
       have y0:=blkc HK5.out (j:=0) (u:= .slice e1 n1 d1) rfl
       have y1:=blkc HK5.out (j:=1) (u:= .slice e2 n2 d2) rfl
       have y2:=blkc HK5.out (j:=2) (u:= .slice e3 n3 d3) rfl
       go_wp2_with fail
       refine(lightAt_any _ ⟨n,D k⟩ ((k:Int)+1) w5 HP5.out).mono ?_
       rintro e w6 ⟨rfl,b6⟩
       have HB6:=Lib.hid (HB5.out.trans (b6.mono HB5.out.size))
       have HX6:=Lib.hid (kept_o' HX5.out b6)
       clear b6 y0 y1 y2
       have z5:=blkc HX6.out (j:=5) (u:= .int .i64 g.e) rfl
       have HP6:=Lib.hid (HPR.out.behind HB6.out)
       have HPG6:=Lib.hid (HPG2.out.below HB6.out)
       have hqb:=lix_bd ⟨n,D k⟩ ((k:Int)+1)
       have HQB:=Lib.hid hqb
       have HDK1:=Lib.hid (HDK.out k)
       generalize lix ⟨n,D k⟩ ((k:Int)+1)=q at *
       by_cases he:g.e=tm
       · have heB:(g.e==tm)=true:=by simpa using he
         by_cases hq:0≤q
         · have hqB:decide (0≤q)=true:=decide_eq_true hq
           have HDN:=Lib.hid (show D (k+1)=(D k).eraseIdx q.toNat from by rw[HDX.out,if_pos ⟨he,hq⟩])
           obtain⟨qi,rfl⟩:=Int.eq_ofNat_of_zero_le hq
           rw[Int.toNat_natCast] at HDN
           have HX:=Lib.hid (kept_o' HBX.out HB6.out)
           have y0:=blkc HX.out (j:=0) (u:= .slice e1 n1 d1) rfl
           have y1:=blkc HX.out (j:=1) (u:= .slice e2 n2 d2) rfl
           have y2:=blkc HX.out (j:=2) (u:= .slice e3 n3 d3) rfl
           have hqi:qi<(D k).length:=by have:=HQB.out.2;simpa using this
           clear hqb
           go_wp2_with fail
           refine(HWU.out _ (D k) qi w6 HP6.out hqi HDK1.out).mono ?_
           rintro e w7 ⟨u1,u2,u3,B,fp,rfl,hG,b7⟩
           obtain⟨⟨e4,n4,d4,rfl⟩,⟨e5,n5,d5,rfl⟩,e6,n6,d6,rfl⟩:=hG.slices
           have hx7:=kept_o' HX.out b7
           have f0:w7.frozen? ⟨bp,0,none⟩=false:=frozen_of_row _ _ _ _ _ hx7
           have f1:w7.frozen? ⟨bp,1,none⟩=false:=frozen_of_row _ _ _ _ _ hx7
           have f2:w7.frozen? ⟨bp,2,none⟩=false:=frozen_of_row _ _ _ _ _ hx7
           clear y0 y1 y2
           have y0:=blkc hx7 (j:=0) (u:= .slice e1 n1 d1) rfl
           have y1:=blkc hx7 (j:=1) (u:= .slice e2 n2 d2) rfl
           have y2:=blkc hx7 (j:=2) (u:= .slice e3 n3 d3) rfl
           have HNEW:=Lib.hid (HPG6.out.put b7 hG HSM.out)
           rw[←HDN.out] at HNEW
           clear hG b7 hx7
           go_wp2_with fail
           generalize ((w7.setCell ⟨bp,0,none⟩ (.slice e4 n4 d4)).setCell ⟨bp,1,none⟩ (.slice e5 n5 d5)).setCell ⟨bp,2,none⟩ (.slice e6 n6 d6)=w8 at *
           go_roundw
           case rel=>exact⟨k+1,by omega,by go_num,HNEW.out⟩
           case measure=>simp[intOf];omega
         · have hqB:decide (0≤q)=false:=decide_eq_false hq
           have HDN:=Lib.hid (show D (k+1)=D k from by rw[HDX.out,if_neg (fun h=>hq h.2)])
           go_wp2
           go_roundw
           case rel=>exact⟨k+1,by omega,by go_num,by rw[HDN.out];exact HPG6.out⟩
           case measure=>simp[intOf];omega
       · have heB:(g.e==tm)=false:=by simpa using he
         have HDN:=Lib.hid (show D (k+1)=D k from by rw[HDX.out,if_neg (fun h=>he h.1)])
         go_wp2
         go_roundw
         case rel=>exact⟨k+1,by omega,by go_num,by rw[HDN.out];exact HPG6.out⟩
         case measure=>simp[intOf];omega
     · obtain rfl:mg=k:=by omega
       have HGE:=HNG.out
       obtain⟨AA,hAA⟩:∃AA:Nat→Option PRun,AA=fun k=>addA n fs gs t (some ⟨delA gs t r.ls gs.length,r.bl⟩) k:=⟨_,rfl⟩
       have HA0:=Lib.hid (show AA 0=some ⟨D mg,r.bl⟩ from by rw[hAA,HD.out,HGE];rfl)
       have HAS:=Lib.hid (show∀k,AA (k+1)=addP n fs gs t (AA k) k from fun k=>by rw[hAA];exact addA_step _ _ _ _ _ _)
       have HAK:=Lib.hid (show∀k r2,k≤mg→AA k=some r2→LsK n r2.ls∧r2.bl.length≤1000 from fun k r2 hk e=>by
        rw[hAA] at e
        have h1:=(addA_ok HGK.out HROK.out (by omega) e).1.lsk HGK.out
        have h2:=addA_bll e
        have h3:=runP_bll HRP.out
        have h4:=HGK.out.1
        have h5:t * gs.length≤8*12:=Nat.mul_le_mul (by omega) h4
        have h6:r2.bl.length≤r.bl.length+k:=h2
        exact⟨h1,by omega⟩)
       have HFAIL:=Lib.hid (show∀k,k≤mg→AA k=none→planO n fs gs=none from fun k hk e=>by
        rw[HPOK.out]
        refine runP_fail (j:=t+1) ?_ (by omega)
        rw[hAA] at e
        rw[HNXT.out,addA_fail n fs gs t e (show k≤gs.length by omega)])
       have HNX2:=Lib.hid (show∀r2,AA mg=some r2→runP n fs gs (t+1)=some (psL++[r2.ls],r2) from fun r2 e=>by
        rw[hAA] at e
        simp only at e
        rw[HGE] at e
        rw[HNXT.out,HGE,e])
       have HDM:=Lib.hid (show∀k,k<mg→demOk (gs[k]?.getD nilG).d n.ns.length=true from fun k hk=>(HGK.out.2 k (by omega)).1)
       clear hAA HGE HNXT HROK HDS htw htv HLS0 HD0 HDK
       obtain⟨wo2,hwo2⟩:∃wo2,wo2=wr:=⟨_,rfl⟩
       subst hwo2
       go_wp2_with fail
       go_loopw [11,63] (fun s11 i wr=>∃(k:Nat) (ab:Option Addr) (nb cb:Nat) (r2:PRun),k≤mg∧i= .int .i64 k∧s11= .slice ab nb cb∧Hid (AA k=some r2)∧Hid (PgB w wr R bp (.slice aq t cs) (.slice ab nb cb) ⟨n,r2.ls⟩ t (psL.map (Pln.mk n)) r2.bl)) (fun _ i _=>mg-(intOf i).toNat)
       case atStart=>exact⟨0,_,_,_,_,by omega,rfl,rfl,HA0.out,HPG2.out⟩
       case round=>
        obtain⟨k,ab3,nb3,cb3,r2,hk,rfl,rfl,HAE,HPG3⟩:=hrel
        by_cases hltk:k<mg
        · have hltkI:(k:Int)<(mg:Int):=by omega
          obtain⟨b,off,rfl,hbs,hcs⟩:=HAG.out (by omega)
          have HBE:=Lib.hid HPG3.out.bel
          have hcw:=fun(r:Nat) (u:Value) (hu:(groE (gs[k]?.getD nilG))[r]?= some u)=>(HBE.out.cell (p:=⟨b,off+k*6+r,none⟩) hbs).trans (hcs k hltk r u hu)
          have c0:=hcw 0 _ rfl
          have c1:=hcw 1 _ rfl
          have c2:=hcw 2 _ rfl
          have c3:=hcw 3 _ rfl
          have c4:=hcw 4 _ rfl
          have c5:=hcw 5 _ rfl
          simp only[Nat.add_zero] at c0
          have HDM1:=Lib.hid (HDM.out k hltk)
          obtain⟨hlk,hbl⟩:=HAK.out k r2 hk HAE.out
          have HLK:=Lib.hid hlk
          have HBL:=Lib.hid hbl
          have HS:=Lib.hid (show AA (k+1)=addP n fs gs t (some r2) k from by rw[HAS.out,HAE.out])
          unfold addP at HS
          simp only at HS
          clear hcw hcs hlk hbl
          generalize gs[k]?.getD nilG=g at *
          obtain⟨hRb,e1,n1,d1,e2,n2,d2,e3,n3,d3,hbx,hpg⟩:=HPG3.out
          have HPR:=Lib.hid (hpg.pl.rd HBE.out)
          have HBX:=Lib.hid hbx
          clear hpg hbx
          go_upto_region 17 with fail
          have n2':=heap_alloc_new wr (.cells #[.int .i64 g.d.a,.int .i64 g.d.b,.int .i64 g.d.r,.int .i64 g.d.c,.int .i64 g.s,.int .i64 g.e] 55)
          have HB5:=Lib.hid ((Below.refl wr.heap.size wr).alloc (Nat.le_refl _) (.cells #[.int .i64 g.d.a,.int .i64 g.d.b,.int .i64 g.d.r,.int .i64 g.d.c,.int .i64 g.s,.int .i64 g.e] 55))
          obtain⟨bq,hbq⟩:∃bq,bq=wr.heap.size:=⟨_,rfl⟩
          rw[←hbq] at n2' ⊢
          clear hbq
          have HX5:=Lib.hid n2'
          clear n2' c0 c1 c2 c3 c4 c5
          generalize wr.alloc (.cells #[.int .i64 g.d.a,.int .i64 g.d.b,.int .i64 g.d.r,.int .i64 g.d.c,.int .i64 g.s,.int .i64 g.e] 55)=w5 at *
          have HK5:=Lib.hid (kept_o' HBX.out HB5.out)
          have HP5:=Lib.hid (HPR.out.behind HB5.out)
          have HPG5:=Lib.hid (HPG3.out.below HB5.out)
          have HBE5:=Lib.hid HPG5.out.bel
          have z4:=blkc HX5.out (j:=4) (u:= .int .i64 g.s) rfl
          by_cases hs:g.s=(t:Int)
          · have hsB:(g.s==(t:Int))=true:=by simpa using hs
            have hsN:(g.s != (t:Int))=false:=by simpa using hs
            have HS1:=Lib.hid (show AA (k+1)=_ from by rw[HS.out,if_neg (not_not_intro hs)])
            have y0:=blkc HK5.out (j:=0) (u:= .slice e1 n1 d1) rfl
            have y1:=blkc HK5.out (j:=1) (u:= .slice e2 n2 d2) rfl
            have y2:=blkc HK5.out (j:=2) (u:= .slice e3 n3 d3) rfl
            have z0:=blkc HX5.out (j:=0) (u:= .int .i64 g.d.a) rfl
            have z1:=blkc HX5.out (j:=1) (u:= .int .i64 g.d.b) rfl
            have z2:=blkc HX5.out (j:=2) (u:= .int .i64 g.d.r) rfl
            have z3:=blkc HX5.out (j:=3) (u:= .int .i64 g.d.c) rfl
            have HCN1:=Lib.hid (HCN.out _ r2.ls g.d w5 HBE5.out HP5.out HDM1.out HLK.out)
            clear hs HS
            unfold demV at HCN1
            go_wp2_with fail
            refine HCN1.out.mono ?_
            rintro e w7 ⟨b7,hcon⟩
            have HB7:=Lib.hid (HB5.out.trans (b7.mono HB5.out.size))
            have HPG7:=Lib.hid (HPG5.out.below b7)
            have HP7:=Lib.hid (HP5.out.behind b7)
            have HX7:=Lib.hid (kept_o' HK5.out b7)
            clear y0 y1 y2 z0 z1 z2 z3 z4 b7
            rcases hcon with ⟨hfu,rfl⟩ | ⟨hfu,ca,cm,cc,hcm,rfl,hcr⟩
            · have hfu:failU n g.d=true:=hfu
              have HNO:=Lib.hid (HFAIL.out (k+1) hltk (by rw[HS1.out,if_pos hfu]))
              have HBE7:=Lib.hid HPG7.out.bel
              clear hfu
              go_wp2
              rw[HNP.out]
              exact pld_none HNO.out HBE7.out
            · have hfu:failU n g.d=false:=hfu
              have HS2:=Lib.hid (show AA (k+1)=_ from by rw[HS1.out,if_neg (by rw[hfu];simp)])
              unfold ConR at hcr
              simp only at hcr
              clear hfu
              cases hpk:pickU n fs g.d r2.ls with
              | none=>
                rw[hpk] at hcr
                simp only at hcr
                subst hcr
                have HS3:=Lib.hid (show AA (k+1)=some ⟨r2.ls,r2.bl++[(k:Int)]⟩ from by rw[HS2.out,hpk])
                obtain⟨_,_,_,_,_,_,_,_,_,_,_,hpg⟩:=HPG7.out
                have HO7:=Lib.hid hpg.blo
                have HBZ:=Lib.hid hpg.bel.size
                clear hpg hpk HS2
                go_wp2_with (at_builtin;refine wpList_pushI rfl (.tmp 85) (.tmp 87) 58 rfl Tryz.underlying58 Tryz.infoI w.heap.size (.slice ab3 nb3 cb3) r2.bl rfl HO7.out rfl (Nat.le_trans HBL.out (by decide)) HBZ.out ?_;intro v8 w8 o8 g8 l8;have HNEW:=Lib.hid (HPG7.out.push o8 g8 l8);obtain⟨a8,m8,c8,rfl⟩:=own_slice o8;clear o8 g8 l8)
                go_roundw
                case rel=>exact⟨k+1,a8,m8,c8,⟨r2.ls,r2.bl++[(k:Int)]⟩,by omega,by go_num,rfl,HS3.out,HNEW.out⟩
                case measure=>simp[intOf];omega
              | some ui=>
                obtain⟨u,ix⟩:=ui
                rw[hpk] at hcr
                simp only at hcr
                obtain⟨hcm0,b9,fv,rfl,hb9,x0,x1,x2,x3,x4,hrf⟩:=hcr
                have HS3:=Lib.hid (show AA (k+1)=some ⟨putL r2.ls (lgtU r2.ls ((k:Int)+1) g.d.a u),r2.bl⟩ from by rw[HS2.out,hpk])
                have HFL:=Lib.hid (show u.1.length≤1000000 from Nat.le_trans (lgtOk_o HN.out (new_ok (u:=(u,ix)) (id:=(k:Int)+1) hpk HDM1.out (by omega) HLK.out.2).1).2 (by decide))
                obtain⟨ax,nx,cx,rfl⟩:∃au nu cu,fv= .slice au nu cu:=by
                 obtain⟨au,cu,hv,-⟩:=full_ok hrf
                 exact⟨_,_,_,hv⟩
                have HRF:=Lib.hid hrf
                have hcmI:(0:Int)<(cm:Int):=by omega
                have hcmB:((cm:Int)==0)=false:=by simpa using(by omega:(cm:Int)≠0)
                have HWTX:=Lib.hid (fun w' (h:PlnR w' (.agg #[.slice e1 n1 d1,.slice e2 n2 d2,.slice e3 n3 d3]) ⟨n,r2.ls⟩) (h2:Rd w' (.slice ax nx cx) u.1)=>HWT.out (.agg #[.slice e1 n1 d1,.slice e2 n2 d2,.slice e3 n3 d3]) (.slice ax nx cx) r2.ls (lgtU r2.ls ((k:Int)+1) g.d.a u) w' h h2 HFL.out HLK.out)
                unfold lgtV at HWTX
                simp only[lgtU] at HWTX
                obtain⟨fu,hfu⟩:∃fu:Int,fu=(((fitU r2.ls u).headD 0:Nat):Int):=⟨_,rfl⟩
                have HLG:=Lib.hid (show lgtU r2.ls ((k:Int)+1) g.d.a u=⟨(k:Int)+1,g.d.a,u.1,fu,u.2⟩ from by rw[hfu];rfl)
                rw[HLG.out] at HS3
                rw[←hfu] at HWTX x3
                clear hfu
                clear hpk HS2 hrf
                go_upto_region 24 with fail
                have k8:=heap_alloc_new w7 (.cells #[.int .i64 0,.int .i64 g.d.a,.slice ax nx cx,.int .i64 fu,.int .i64 u.2] 86)
                have b8:=(Below.refl w7.heap.size w7).alloc (Nat.le_refl _) (.cells #[.int .i64 0,.int .i64 g.d.a,.slice ax nx cx,.int .i64 fu,.int .i64 u.2] 86)
                obtain⟨bl,hbl⟩:∃bl,bl=w7.heap.size:=⟨_,rfl⟩
                rw[←hbl] at k8 ⊢
                have HBLQ:=Lib.hid hbl
                have HK8:=Lib.hid k8
                have HB8:=Lib.hid b8
                clear x0 x1 x2 x3 x4 k8 b8 hbl hcmI hcmB
                generalize w7.alloc (.cells #[.int .i64 0,.int .i64 g.d.a,.slice ax nx cx,.int .i64 fu,.int .i64 u.2] 86)=w8 at *
                have t0:=blkc HK8.out (j:=0) (u:= .int .i64 0) rfl
                have f0:w8.frozen? ⟨bl,0,none⟩=false:=frozen_of_row _ _ _ _ _ HK8.out
                go_upto_region 25 with fail
                have HB9:=Lib.hid (HB8.out.setCell (p:=⟨bl,0,none⟩) (by show w7.heap.size≤bl;have:=HBLQ.out;omega) (.int .i64 ((k:Int)+1)))
                have HX9:=Lib.hid (show(w8.setCell ⟨bl,0,none⟩ (.int .i64 ((k:Int)+1))).heap[bl]?= some (.cells #[.int .i64 ((k:Int)+1),.int .i64 g.d.a,.slice ax nx cx,.int .i64 fu,.int .i64 u.2] 86) from by rw[heap_setCell_same w8 bl 0 _ 86 (.int .i64 ((k:Int)+1)) HK8.out];simp)
                generalize w8.setCell ⟨bl,0,none⟩ (.int .i64 ((k:Int)+1))=w9 at *
                clear t0 f0
                have HPG9:=Lib.hid (HPG7.out.below HB9.out)
                have HP9:=Lib.hid (HP7.out.behind HB9.out)
                have HRF9:=Lib.hid (HRF.out.belowAll HB9.out)
                have HBX9:=Lib.hid (kept_o' HX7.out HB9.out)
                have y0:=blkc HBX9.out (j:=0) (u:= .slice e1 n1 d1) rfl
                have y1:=blkc HBX9.out (j:=1) (u:= .slice e2 n2 d2) rfl
                have y2:=blkc HBX9.out (j:=2) (u:= .slice e3 n3 d3) rfl
                have t0:=blkc HX9.out (j:=0) (u:= .int .i64 ((k:Int)+1)) rfl
                have t1:=blkc HX9.out (j:=1) (u:= .int .i64 g.d.a) rfl
                have t2:=blkc HX9.out (j:=2) (u:= .slice ax nx cx) rfl
                have t3:=blkc HX9.out (j:=3) (u:= .int .i64 fu) rfl
                have t4:=blkc HX9.out (j:=4) (u:= .int .i64 u.2) rfl
                go_wp2_with fail
                refine(HWTX.out w9 HP9.out HRF9.out).mono ?_
                rintro e w10 ⟨u1,u2,u3,B,fp,rfl,hG,b10⟩
                obtain⟨⟨e4,n4,d4,rfl⟩,⟨e5,n5,d5,rfl⟩,e6,n6,d6,rfl⟩:=hG.slices
                have hx7:=kept_o' HBX9.out b10
                have f0:w10.frozen? ⟨bp,0,none⟩=false:=frozen_of_row _ _ _ _ _ hx7
                have f1:w10.frozen? ⟨bp,1,none⟩=false:=frozen_of_row _ _ _ _ _ hx7
                have f2:w10.frozen? ⟨bp,2,none⟩=false:=frozen_of_row _ _ _ _ _ hx7
                clear y0 y1 y2 t0 t1 t2 t3 t4
                have y0:=blkc hx7 (j:=0) (u:= .slice e1 n1 d1) rfl
                have y1:=blkc hx7 (j:=1) (u:= .slice e2 n2 d2) rfl
                have y2:=blkc hx7 (j:=2) (u:= .slice e3 n3 d3) rfl
                have HNEW:=Lib.hid (HPG9.out.put b10 hG HSM.out)
                clear hG b10 hx7
                go_wp2_with fail
                generalize ((w10.setCell ⟨bp,0,none⟩ (.slice e4 n4 d4)).setCell ⟨bp,1,none⟩ (.slice e5 n5 d5)).setCell ⟨bp,2,none⟩ (.slice e6 n6 d6)=w11 at *
                go_roundw
                case rel=>exact⟨k+1,ab3,nb3,cb3,_,by omega,by go_num,rfl,HS3.out,HNEW.out⟩
                case measure=>simp[intOf];omega
          · have hsB:(g.s==(t:Int))=false:=by simpa using hs
            have hsN:(g.s != (t:Int))=true:=by simpa using hs
            have HS1:=Lib.hid (show AA (k+1)=some r2 from by rw[HS.out,if_pos hs])
            go_wp2_with fail
            go_roundw
            case rel=>exact⟨k+1,ab3,nb3,cb3,r2,by omega,by go_num,rfl,HS1.out,HPG5.out⟩
            case measure=>simp[intOf];omega
        · obtain rfl:mg=k:=by omega
          have HNR:=Lib.hid (HNX2.out r2 HAE.out)
          obtain⟨hlk,-⟩:=HAK.out mg r2 (Nat.le_refl _) HAE.out
          have HLK:=Lib.hid hlk
          obtain⟨hRb,e1,n1,d1,e2,n2,d2,e3,n3,d3,hbx,hpg⟩:=HPG3.out
          have HBE:=Lib.hid hpg.bel
          have HPR:=Lib.hid (hpg.pl.rd HBE.out)
          have HBX:=Lib.hid hbx
          have HOU:=Lib.hid hpg.out
          have HRS:=Lib.hid hpg.rsv
          have HBLO:=Lib.hid hpg.blo.lt
          clear hlk hpg hbx
          have y0:=blkc HBX.out (j:=0) (u:= .slice e1 n1 d1) rfl
          have y1:=blkc HBX.out (j:=1) (u:= .slice e2 n2 d2) rfl
          have y2:=blkc HBX.out (j:=2) (u:= .slice e3 n3 d3) rfl
          go_wp2_with fail
          refine(HCP.out _ r2.ls wr HPR.out HLK.out).mono ?_
          rintro e w7 ⟨u1,u2,u3,B,fp,rfl,hG,b7⟩
          obtain⟨fq,ho,hnd,hlo⟩:=hG.o
          have HNW:=Lib.hid (newPln ho hnd fun k hk=>(hlo k hk).1)
          have HB7:=Lib.hid b7
          obtain⟨⟨e4,n4,d4,rfl⟩,⟨e5,n5,d5,rfl⟩,e6,n6,d6,rfl⟩:=hG.slices
          clear hG b7 ho hnd hlo y0 y1 y2
          go_wp2_with (at_builtin;refine wpList_growX rfl (.tmp 99) (.tmp 102) 93 75 rfl Tryz.underlying93 (.agg #[.slice none 0 0,.slice none 0 0,.slice none 0 0]) 3 72 Tryz.infoPln rfl (by decide) (by decide) w.heap.size t (.slice aq t cs) _ (plnD ⟨n,r2.ls⟩) _ (fun k hk=>hk.elim (fun h=>(HRS.out k h).2) (fun h=>(HBLO.out k h).2)) (by rfl) HOU.out HBE.out.size HB7.out [.slice e4 n4 d4,.slice e5 n5 d5,.slice e6 n6 d6] HNW.out rfl (fun z hz=>by simp only[List.mem_cons,List.not_mem_nil,or_false] at hz;rcases hz with e | e | e <;> rw[e] <;> rfl) (by rfl) (by omega) ?_;intro v8 w8 o8 g8 l8;have HNEW:=Lib.hid (HPG3.out.grow HB7.out o8 g8 l8);obtain⟨-,a8,c8,rfl⟩:=o8.grw.form;clear o8 g8 l8)
          go_roundw
          case rel=>exact⟨t+1,a8,c8,ab3,nb3,cb3,psL++[r2.ls],r2,by omega,by go_num,rfl,rfl,HNR.out,by rw[List.map_append];exact HNEW.out⟩
          case measure=>simp[intOf];omega
  · obtain rfl:t=8:=by omega
    have HPL:=Lib.hid (show planO n fs gs=some (psL,r) from by rw[HPOK.out];exact HRP.out)
    obtain⟨_,_,_,_,_,_,_,_,_,_,_,hpg⟩:=HPG.out
    have HO:=Lib.hid hpg.blo
    have HLB:=Lib.hid (show r.bl.length≤1099511627776 from by
     have h1:=runP_bll HRP.out
     have h2:=HGK.out.1
     omega)
    clear hpg
    go_wp2_with fail
    refine(sortI_own (.slice ab nb cb) r.bl w.heap.size wr HO.out HLB.out).mono ?_
    rintro e w7 ⟨rfl,o7,g7⟩
    have HEND:=Lib.hid (pld_some HPL.out HPG.out o7 g7)
    clear o7 g7
    go_wp2
    rw[HNP.out]
    exact HEND.out
theorem l4Sign_any (x:Int) (w:World):Calls Tryz.prog 263 #[.int .i64 x] w fun e w'=>e= .returned (.int .i64 (sgnI x))∧w=w':=by
 by_cases h1:x<0
 · have h1d:decide (x<0)=true:=decide_eq_true h1
   have HR:=Lib.hid (show sgnI x= -1 by unfold sgnI;rw[if_pos h1])
   go_enter Tryz.func263,Tryz.ntmps263
   go_wp2
   go_ret
   exact⟨by rw[HR.out];rfl,rfl⟩
 have h1d:decide (x<0)=false:=decide_eq_false h1
 by_cases h2:0<x
 · have h2d:decide (x>0)=true:=decide_eq_true h2
   have HR:=Lib.hid (show sgnI x=1 by unfold sgnI;rw[if_neg h1,if_pos h2])
   go_enter Tryz.func263,Tryz.ntmps263
   go_wp2
   go_ret
   exact⟨by rw[HR.out];rfl,rfl⟩
 · have h2d:decide (x>0)=false:=decide_eq_false h2
   have HR:=Lib.hid (show sgnI x=0 by unfold sgnI;rw[if_neg h1,if_neg h2])
   go_enter Tryz.func263,Tryz.ntmps263
   go_wp2
   go_ret
   exact⟨by rw[HR.out];rfl,rfl⟩
theorem l4Length_any (u1 u2 v:Value) (n:Net) (st:Int) (fs:List Int) (w:World) (h:Rdt w (flt 4 fibE n.fs) u2) (h1:∃a m c,u1= .slice a m c) (hr:Rd w v fs) (hl:fs.length≤1000) (hi:InNet n fs) (hb:LenOk n):
 Calls Tryz.prog 216 #[.agg #[u1,u2],.agg #[.int .i64 st,v]] w fun e w'=>e= .returned (.int .i64 (lenR n fs))∧Below w.heap.size w w':=by
 obtain⟨a1,m1,c1,rfl⟩:=h1
 obtain⟨a2,m2,c2,rfl,HN2,hc2,hm2,ha2⟩:=flt_opn (m:=4) (enc:=fibE) (fun _=>rfl) (by omega) nilB h
 obtain⟨a3,c3,m3,HN3,rfl,hc3,hm3,ha3⟩:=hr.opn
 have HA2:=Lib.hid ha2
 have HA3:=Lib.hid ha3
 have HT:=Lib.hid (fun k (hk:k<fs.length)=>@lenR_take n fs k hk)
 have HB:=Lib.hid (fun k=>lenR_bdt hb hl k)
 have HL:=Lib.hid hb
 have HI:=Lib.hid (show∀k:Nat,k<m3→0≤fs[k]?.getD 0∧fs[k]?.getD 0<m2 from fun k hk=>by
  have:=hi k (by have:=HN3.out;omega)
  rwa [show n.fs.length=m2 from HN2.out] at this)
 have HR:=Lib.hid (show lenR n (fs.take m3)=lenR n fs by rw[List.take_of_length_le (Nat.le_of_eq HN3.out)])
 have h10:m3≤1000:=by have:=HN3.out;omega
 rw[HN3.out] at HT
 obtain⟨bx,bc,blt,-⟩:=box_facts w #[.slice a1 m1 c1,.slice a2 m2 c2] 35
 obtain⟨by',bd,bmt,-⟩:=box_facts (w.alloc (.cells #[.slice a1 m1 c1,.slice a2 m2 c2] 35)) #[.int .i64 st,.slice a3 m3 c3] 82
 have q1:=(by'.cell (p:=⟨w.heap.size,1,none⟩) blt).trans (bc 1 _ rfl)
 have q3:=bd 1 _ rfl
 have hs1:(w.alloc (.cells #[.slice a1 m1 c1,.slice a2 m2 c2] 35)).heap.size=w.heap.size+1:=by simp
 rw[hs1] at q3 bmt
 have blt2:=Nat.lt_of_lt_of_le blt by'.size
 have HBX:=Lib.hid (bx.trans (by'.mono bx.size))
 clear bc bd bx by' hs1 ha2 ha3 h hr blt hl hi hb
 go_enter Tryz.func216,Tryz.ntmps216
 go_wp2
 generalize (w.alloc (.cells #[.slice a1 m1 c1,.slice a2 m2 c2] 35)).alloc (.cells #[.int .i64 st,.slice a3 m3 c3] 82)=W at *
 have HQ:=Lib.hid (fun w' (hb:Below W.heap.size W w')=>show w'.cell? ⟨w.heap.size,1,none⟩=some (.slice a2 m2 c2)∧w'.cell? ⟨w.heap.size+1,1,none⟩=some (.slice a3 m3 c3) from⟨(hb.cell blt2).trans q1,(hb.cell bmt).trans q3⟩)
 clear q1 q3
 go_loopw [5,6] (fun s5 i wr=>∃k:Nat,k≤m3∧i= .int .i64 k∧s5= .int .i64 (lenR n (fs.take k))∧Hid (Below W.heap.size W wr)) (fun _ i _=>m3-(intOf i).toNat)
 case atStart=>exact⟨0,Nat.zero_le _,rfl,rfl,Below.refl _ _⟩
 case round=>
  obtain⟨k,hk,rfl,rfl,HW⟩:=hrel
  obtain⟨q1,q3⟩:=HQ.out _ HW.out
  by_cases hlt:k<m3
  · have hltI:(k:Int)<(m3:Int):=by omega
    obtain⟨b,off,rfl,hbs,hcs⟩:=HA3.out (by omega)
    have HWW:=Lib.hid (HBX.out.trans (HW.out.mono HBX.out.size))
    have e0:=(HWW.out.cell (p:=⟨b,off+k,none⟩) hbs).trans (hcs k hlt)
    have hg:=HI.out k hlt
    have HTK:=Lib.hid (HT.out k hlt)
    have HBK:=HB.out k
    clear hcs
    generalize fs[k]?.getD 0=g at *
    obtain⟨gn,rfl⟩:∃gn:Nat,g=(gn:Int):=⟨g.toNat,by omega⟩
    have hgn:gn<m2:=by omega
    have hgnI:(gn:Int)<(m2:Int):=by omega
    obtain⟨b1,off1,rfl,hbs1,hcs1⟩:=HA2.out (by omega)
    have e1:=(HWW.out.cell (p:=⟨b1,off1+gn*4+2,none⟩) hbs1).trans (hcs1 gn hgn 2 _ rfl)
    have hlg:=HL.out gn
    rw[show((gn:Int)).toNat=gn from rfl] at HTK
    clear hcs1 hg
    unfold fbA at HTK hlg
    generalize (n.fs[gn]?.getD nilB).l=lg at *
    generalize lenR n (fs.take k)=s at *
    have hw:wrap64 (s+lg)=s+lg:=IntWalk.wrap64_in _ (by omega)
    go_wp2_with fail
    go_quiet (fail)
    have HW2:=Lib.hid (show Below W.heap.size W (wr.drewN nq) from Dr.below ⟨nq,rfl⟩ HW.out)
    go_wp2
    go_roundw
    case rel=>exact⟨k+1,hlt,by go_num,by rw[HTK.out],HW2⟩
    case measure=>simp[intOf];omega
  · obtain rfl:m3=k:=by omega
    go_wp2
    go_ret
    exact⟨by rw[←HR.out];rfl,HBX.out.trans (HW.out.mono HBX.out.size)⟩
theorem lexI_same {a b:List Int} {k:Nat} (h1:k<a.length) (h2:k<b.length) (e:a[k]?.getD 0=b[k]?.getD 0):lexI (a.drop (k+1)) (b.drop (k+1))=lexI (a.drop k) (b.drop k):=
 lexI_go h1 h2 (by rw[e];unfold cmpI;rw[if_neg (by omega),if_neg (by omega)])
theorem lexI_diff {a b:List Int} {k:Nat} (h1:k<a.length) (h2:k<b.length) (e:a[k]?.getD 0≠b[k]?.getD 0):lexI (a.drop k) (b.drop k)=sgnI (a[k]?.getD 0-b[k]?.getD 0):=by
 rw[lexI_step h1 h2]
 generalize a[k]?.getD 0=x at *
 generalize b[k]?.getD 0=y at *
 unfold cmpI sgnI
 by_cases h:x<y
 · rw[if_pos h,if_neg (by omega),if_pos (by omega)]
 · rw[if_neg h,if_pos (show y<x by omega),if_neg (by omega),if_neg (by omega),if_pos (by omega)]
theorem cmpR_len {n:Net} {a b:List Int} (h:lenR n a≠lenR n b):cmpR n a b=sgnI (lenR n a-lenR n b):=by unfold cmpR;rw[if_neg h]
theorem cmpR_cnt {n:Net} {a b:List Int} (h:lenR n a=lenR n b) (h2:a.length≠b.length):cmpR n a b=sgnI ((a.length:Int)-b.length):=by unfold cmpR;rw[if_pos h,if_neg h2]
theorem cmpR_lex {n:Net} {a b:List Int} (h:lenR n a=lenR n b) (h2:a.length=b.length):cmpR n a b=lexI (a.drop 0) (b.drop 0):=by unfold cmpR;rw[if_pos h,if_pos h2];rfl
theorem l4Compare_any (u1 u2 va vb:Value) (n:Net) (st:Int) (xs ys:List Int) (w:World) (h:Rdt w (flt 4 fibE n.fs) u2) (h1:∃a m c,u1= .slice a m c) (ha:Rd w va xs) (hb:Rd w vb ys)
 (hlx:xs.length≤1000) (hly:ys.length≤1000) (hix:InNet n xs) (hiy:InNet n ys) (hL:LenOk n):
 Calls Tryz.prog 253 #[.agg #[u1,u2],.agg #[.int .i64 st,va],.agg #[.int .i64 st,vb]] w fun e w'=>e= .returned (.int .i64 (cmpR n xs ys))∧Below w.heap.size w w':=by
 have HX:=Lib.hid (fun w' (hw:Below w.heap.size w w')=>l4Length_any u1 u2 va n st xs w' (h.behind hw) h1 (ha.belowAll hw) hlx hix hL)
 have HY:=Lib.hid (fun w' (hw:Below w.heap.size w w')=>l4Length_any u1 u2 vb n st ys w' (h.behind hw) h1 (hb.belowAll hw) hly hiy hL)
 have hLX:=lenR_bd hL xs
 have hLY:=lenR_bd hL ys
 have HCL:=Lib.hid (@cmpR_len n xs ys)
 have HCC:=Lib.hid (@cmpR_cnt n xs ys)
 have HCX:=Lib.hid (@cmpR_lex n xs ys)
 have HSM:=Lib.hid (fun k (h1:k<xs.length) (h2:k<ys.length)=>@lexI_same xs ys k h1 h2)
 have HDF:=Lib.hid (fun k (h1:k<xs.length) (h2:k<ys.length)=>@lexI_diff xs ys k h1 h2)
 have HEN:=Lib.hid (fun(h:xs.length=ys.length)=>show lexI (xs.drop xs.length) (ys.drop xs.length)=0 from by rw[lexI_end2 rfl (by omega),if_neg (by omega)])
 have HIX:=Lib.hid hix
 have HIY:=Lib.hid hiy
 obtain⟨a1,m1,c1,rfl⟩:=h1
 obtain⟨a2,m2,c2,rfl,HN2,-,hm2,-⟩:=flt_opn (m:=4) (enc:=fibE) (fun _=>rfl) (by omega) nilB h
 obtain⟨a3,c3,m3,HN3,rfl,-,hm3,ha3⟩:=ha.opn
 obtain⟨a4,c4,m4,HN4,rfl,-,hm4,ha4⟩:=hb.opn
 have HA3:=Lib.hid ha3
 have HA4:=Lib.hid ha4
 rw[show xs.length=m3 from HN3.out] at HCC HCX HSM HDF HEN hlx hLX
 rw[show ys.length=m4 from HN4.out] at HCC HCX HSM HDF HEN hly hLY
 have HIX:=Lib.hid (show∀k:Nat,k<m3→0≤xs[k]?.getD 0∧xs[k]?.getD 0<m2 from fun k hk=>by
  have:=HIX.out k (by have:=HN3.out;omega)
  rwa [show n.fs.length=m2 from HN2.out] at this)
 have HIY:=Lib.hid (show∀k:Nat,k<m4→0≤ys[k]?.getD 0∧ys[k]?.getD 0<m2 from fun k hk=>by
  have:=HIY.out k (by have:=HN4.out;omega)
  rwa [show n.fs.length=m2 from HN2.out] at this)
 clear h ha hb hix hiy hL ha3 ha4
 generalize lenR n xs=lx at *
 generalize lenR n ys=ly at *
 generalize cmpR n xs ys=R at *
 obtain⟨hBX,g0,g1,g2,hsz⟩:=box3_facts w (.cells #[.slice a1 m1 c1,.slice a2 m2 c2] 35) (.cells #[.int .i64 st,.slice a3 m3 c3] 82) (.cells #[.int .i64 st,.slice a4 m4 c4] 82)
 have HBX:=Lib.hid hBX
 have q0:=blkc g0 (j:=0) (show _=some (.slice a1 m1 c1) from rfl)
 have q1:=blkc g0 (j:=1) (show _=some (.slice a2 m2 c2) from rfl)
 have q2:=blkc g1 (j:=0) (show _=some (.int .i64 st) from rfl)
 have q3:=blkc g1 (j:=1) (show _=some (.slice a3 m3 c3) from rfl)
 have q4:=blkc g2 (j:=0) (show _=some (.int .i64 st) from rfl)
 have q5:=blkc g2 (j:=1) (show _=some (.slice a4 m4 c4) from rfl)
 clear g0 g1 g2 hBX
 go_enter Tryz.func253,Tryz.ntmps253
 go_wp2
 generalize ((w.alloc (.cells #[.slice a1 m1 c1,.slice a2 m2 c2] 35)).alloc (.cells #[.int .i64 st,.slice a3 m3 c3] 82)).alloc (.cells #[.int .i64 st,.slice a4 m4 c4] 82)=w2 at *
 have HS:=Lib.hid (fun(w':World) (hb:Below w2.heap.size w2 w')=>show w'.cell? ⟨w.heap.size,0,none⟩=some (.slice a1 m1 c1)∧w'.cell? ⟨w.heap.size,1,none⟩=some (.slice a2 m2 c2)∧w'.cell? ⟨w.heap.size+1,0,none⟩=some (.int .i64 st)∧w'.cell? ⟨w.heap.size+1,1,none⟩=some (.slice a3 m3 c3)∧w'.cell? ⟨w.heap.size+1+1,0,none⟩=some (.int .i64 st)∧w'.cell? ⟨w.heap.size+1+1,1,none⟩=some (.slice a4 m4 c4) from
  ⟨(hb.cell (show w.heap.size<_ by omega)).trans q0,(hb.cell (show w.heap.size<_ by omega)).trans q1,(hb.cell (show w.heap.size+1<_ by omega)).trans q2,(hb.cell (show w.heap.size+1<_ by omega)).trans q3,(hb.cell (show w.heap.size+1+1<_ by omega)).trans q4,(hb.cell (show w.heap.size+1+1<_ by omega)).trans q5⟩)
 have HXB:=Lib.hid (fun d os=>HX.out (grow (redrawn w2 d) os) (HBX.out.trans ((below_regrown _ _ _).mono HBX.out.size)))
 have HYB:=Lib.hid (fun d os=>HY.out (grow (redrawn w2 d) os) (HBX.out.trans ((below_regrown _ _ _).mono HBX.out.size)))
 have j0:=rg q0
 have j1:=rg q1
 have j2:=rg q2
 have j3:=rg q3
 have j4:=rg q4
 have j5:=rg q5
 have hsub:IntKind.i64.wrap (lx-ly)=lx-ly:=IntWalk.i64_in _ (by omega)
 clear q0 q1 q2 q3 q4 q5
 refine wp_region_quiet_below (by kernel_rfl) (by kernel_rfl) ?_
 repeat (go_big_quiet_step (first | (go_at_call 216;first | (with_reducible exact Calls.regrown_of (HXB.out _ _)) | (with_reducible exact Calls.regrown_of (HYB.out _ _)))))
 refine wpQuiet_nil ?_
 rintro _ ⟨⟨dq,osq⟩,rfl⟩
 have HB2:=Lib.hid (show Below w2.heap.size w2 (grow (redrawn w2 dq) osq) from below_regrown _ dq osq)
 clear j0 j1 j2 j3 j4 j5
 generalize grow (redrawn w2 dq) osq=w3 at *
 by_cases hd:lx=ly
 · have hdb:(lx-ly != 0)=false:=by rw[hd];simp
   obtain⟨q0,q1,q2,q3,q4,q5⟩:=HS.out _ HB2.out
   by_cases hc:m3=m4
   · have HR:=Lib.hid (HCX.out hd hc)
     obtain rfl:m4=m3:=hc.symm
     have hcb:(((m4:Int)-(m4:Int)) != 0)=false:=by simp
     clear hd HCC HCL hc
     go_wp2
     go_loopw [9] (fun i wr=>∃k:Nat,k≤m4∧i= .int .i64 k∧Hid (lexI (xs.drop k) (ys.drop k)=R)∧Hid (Below w2.heap.size w2 wr)) (fun i _=>m4-(intOf i).toNat)
     case atStart=>exact⟨0,Nat.zero_le _,rfl,HR.out.symm,HB2.out⟩
     case round=>
      obtain⟨k,hk,rfl,HK,HW⟩:=hrel
      obtain⟨q0,q1,q2,q3,q4,q5⟩:=HS.out _ HW.out
      by_cases hlt:k<m4
      · have hltI:(k:Int)<(m4:Int):=by omega
        obtain⟨b,off,rfl,hbs,hcs⟩:=HA3.out (by omega)
        obtain⟨b2,off2,rfl,hbs2,hcs2⟩:=HA4.out (by omega)
        have HWW:=Lib.hid (HBX.out.trans (HW.out.mono HBX.out.size))
        have e0:=(HWW.out.cell (p:=⟨b,off+k,none⟩) hbs).trans (hcs k hlt)
        have e1:=(HWW.out.cell (p:=⟨b2,off2+k,none⟩) hbs2).trans (hcs2 k hlt)
        have hx:=HIX.out k hlt
        have hy:=HIY.out k hlt
        have HS1:=Lib.hid (HSM.out k hlt hlt)
        have HD1:=Lib.hid (HDF.out k hlt hlt)
        clear hcs hcs2
        generalize xs[k]?.getD 0=x at *
        generalize ys[k]?.getD 0=y at *
        by_cases he:x=y
        · have HT:=Lib.hid ((HS1.out he).trans HK.out)
          have heb:(x != y)=false:=by rw[he];simp
          clear he
          go_wp2_with fail
          go_quiet (fail)
          have HW2:=Lib.hid (show Below w2.heap.size w2 (wr.drewN nq) from Dr.below ⟨nq,rfl⟩ HW.out)
          go_wp2
          go_roundw
          case rel=>exact⟨k+1,hlt,by go_num,HT,HW2⟩
          case measure=>simp[intOf];omega
        · have HT:=Lib.hid ((HD1.out he).symm.trans HK.out)
          have heb:(x != y)=true:=by rw[bne_iff_ne];exact he
          clear he
          have HSG:=Lib.hid (fun w'=>l4Sign_any (x-y) w')
          rw[HT.out] at HSG
          have hsb:IntKind.i64.wrap (x-y)=x-y:=IntWalk.i64_in _ (by omega)
          have hsb2:wrap64 (x-y)=x-y:=IntWalk.wrap64_in _ (by omega)
          go_wp2_with fail
          go_quiet (fail)
          have HW2:=Lib.hid (show Below w2.heap.size w2 (wr.drewN nq) from Dr.below ⟨nq,rfl⟩ HW.out)
          have e0:(wr.drewN nq).cell? ⟨b,off+k,none⟩=some (.int .i64 x):=e0
          have e1:(wr.drewN nq).cell? ⟨b2,off2+k,none⟩=some (.int .i64 y):=e1
          clear q0 q1 q2 q3 q4 q5
          obtain⟨q0,q1,q2,q3,q4,q5⟩:=HS.out _ HW2
          go_wp2_with fail
          generalize wr.drewN nq=w5 at *
          go_quiet ((go_at_call 263;exact Calls.quiet_of_same ((HSG.out _).mono fun _ _ h=>⟨h.1,h.2.symm⟩)))
          go_wp2
          go_ret
          exact⟨rfl,HBX.out.trans ((Dr.below ⟨_,rfl⟩ HW2).mono HBX.out.size)⟩
      · obtain rfl:k=m4:=by omega
        have HR0:=Lib.hid ((HEN.out trivial).symm.trans HK.out)
        have HSG:=Lib.hid (fun w'=>l4Sign_any 0 w')
        rw[show sgnI 0=0 from rfl] at HSG
        go_wp2_with (go_at_call 263;refine(HSG.out _).mono ?_;rintro e w' ⟨rfl,rfl⟩)
        go_ret
        exact⟨by rw[←HR0.out];rfl,HBX.out.trans (HW.out.mono HBX.out.size)⟩
   · have hcb:(((m3:Int)-(m4:Int)) != 0)=true:=by rw[bne_iff_ne];omega
     have HR:=Lib.hid (HCC.out hd hc)
     have HSG:=Lib.hid (fun w'=>l4Sign_any ((m3:Int)-(m4:Int)) w')
     rw[←HR.out] at HSG
     have hsb:IntKind.i64.wrap ((m3:Int)-(m4:Int))=(m3:Int)-(m4:Int):=IntWalk.i64_in _ (by omega)
     clear hd hc
     go_wp2_with (go_at_call 263;refine(HSG.out _).mono ?_;rintro e w' ⟨rfl,rfl⟩)
     go_ret
     exact⟨rfl,HBX.out.trans (HB2.out.mono HBX.out.size)⟩
 · have hdb:(lx-ly != 0)=true:=by rw[bne_iff_ne];omega
   have HR:=Lib.hid (HCL.out hd)
   have HSG:=Lib.hid (fun w'=>l4Sign_any (lx-ly) w')
   rw[←HR.out] at HSG
   clear hd
   go_wp2_with (go_at_call 263;refine(HSG.out _).mono ?_;rintro e w' ⟨rfl,rfl⟩)
   go_ret
   exact⟨rfl,HBX.out.trans (HB2.out.mono HBX.out.size)⟩
end Go.Proofs.YtofcicomhnkocaaGreat
