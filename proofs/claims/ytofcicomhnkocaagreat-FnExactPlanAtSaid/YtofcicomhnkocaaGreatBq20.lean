/- Joined: XPld XChs XDrd XDrf XDri. -/
import Derived.Test.YtofcicomhnkocaaGreatAls
import Derived.Test.YtofcicomhnkocaaGreatBq06
import Derived.Test.YtofcicomhnkocaaGreatBq10
import Derived.Test.YtofcicomhnkocaaGreatBq05
import Derived.Test.YtofcicomhnkocaaGreatBq12
import Derived.Test.YtofcicomhnkocaaGreatBq13
import Derived.Test.YtofcicomhnkocaaGreatBq19
import Derived.Test.YtofcicomhnkocaaGreatBq09
import Derived.Maps.AppendAt
import Derived.ArgAppend
import Derived.BigQuiet
import Derived.Deep.AppendLies
import Derived.Deep.CutRange
import Derived.Deep.DeepFit
import Derived.Deep.DeepMust
import Derived.Deep.LoopGhost
import Derived.Deep.MidRow
import Derived.Deep.QuietTactic
import Derived.Deep.RegionHeld3
import Derived.Deep.RegionLaw
import Derived.Deep.Slices
import Derived.Handy
import Derived.Laws.AppendOwnNone
import Derived.Laws.IdiomStrings
import Derived.Lib.Hide
import Derived.Lib.ItoaNum
import Derived.Lib.QuietBelow
import Derived.Lib.SlicesCompact
import Derived.Lib.SmallJoins
import Derived.OpenShut
import Derived.OwnWalk
import Derived.Sort.OwnSortedInts
import Derived.StillTailTactics
import Derived.Test.YtofcicomhnkocaaGreatProg
import Derived.Test.YtofcicomhnkocaaGreatShelf
import Derived.WalkKit
import Derived.WalkLawsBesides
import Derived.WalkSpells
import Derived.Test.YtofcicomhnkocaaGreatBq02
set_option linter.unusedVariables false
namespace Go.Proofs.YtofcicomhnkocaaGreat
set_option maxHeartbeats 12800000
open Go.RowKit Go.Sort
set_option maxRecDepth 100000
theorem Tryz.infoPln:(Tryz.prog.info? 75).map (fun i=>(i.zero,i.size,i.bytes))=some (some (.agg #[.slice none 0 0,.slice none 0 0,.slice none 0 0]),3,72):=by kernel_rfl
def planO (n:Net) (fs:List Fmt) (gs:List Gro):Option (List (List Lgt) × PRun):=if fmOk fs&&grsOk n gs then runP n fs gs 8 else none
def PldP (n:Net) (fs:List Fmt) (gs:List Gro) (w:World) (e:Ending) (w':World):Prop:=Below w.heap.size w w'∧
 match planO n fs gs with
 | none=>e= .returned (.tuple #[.slice none 0 0,.slice none 0 0,.bool false])
 | some (ps,r)=>∃s b,e= .returned (.tuple #[s,b,.bool true])∧GrwX w' w.heap.size 75 3 s 8 ((ps.map (Pln.mk n)).flatMap plnD) (fun k=>b.ownBlock=some k)∧Own w' w.heap.size b (srt r.bl)∧ ∀g,s.ownBlock=some g→b.ownBlock≠some g
theorem pld_none {n:Net} {fs:List Fmt} {gs:List Gro} {w w':World} (h:planO n fs gs=none) (hb:Below w.heap.size w w'):PldP n fs gs w (.returned (.tuple #[.slice none 0 0,.slice none 0 0,.bool false])) w':=by
 unfold PldP;rw[h];exact⟨hb,rfl⟩
theorem pld_some {n:Net} {fs:List Fmt} {gs:List Gro} {w w1 w':World} {ps:List (List Lgt)} {r:PRun} {R:Nat→Prop} {bp:Nat} {s b:Value} {p:Pln} (h:planO n fs gs=some (ps,r)) (hp:PgB w w1 R bp s b p 8 (ps.map (Pln.mk n)) r.bl) (ho:Own w' w.heap.size b (srt r.bl)) (hg:w1.grownBy w' b.ownBlock):PldP n fs gs w (.returned (.tuple #[s,b,.bool true])) w':=by
 unfold PldP;rw[h]
 obtain⟨-,a1,m1,c1,a2,m2,c2,a3,m3,c3,-,h2⟩:=hp
 refine⟨h2.bel.grown hg h2.bel.size fun q hq=>(h2.blo.lt q hq).1,s,b,rfl,h2.out.kept (fun k _ q1 q2=>hg.block k q1 fun e=> ?_) (fun k _ hy=> .inr hy),ho,fun g hg=>(h2.aps g hg).2⟩
 rcases q2 with q2 | q2
 · exact q2 (.inr e.symm)
 · exact(h2.aps k q2).2 e.symm
def LsK (n:Net) (ls:List Lgt):Prop:=ls.length≤12∧ ∀x∈ls,lgtOk n x=true
theorem LsK.lgo {n:Net} {ls:List Lgt} (h:LsK n ls) (hn:netOk n=true):∀x∈ls,LgO n.fs.length x:=fun x hx=>(lgtOk_o hn (h.2 x hx)).1
theorem LsK.fb {n:Net} {ls:List Lgt} (h:LsK n ls) (hn:netOk n=true):∀x∈ls,x.fb.length≤1000000:=fun x hx=>ξs (lgtOk_o hn (h.2 x hx)).2 (by decide)
theorem LsK.fb9 {n:Net} {ls:List Lgt} (h:LsK n ls) (hn:netOk n=true):∀x∈ls,x.fb.length≤900000:=fun x hx=>ξs (lgtOk_o hn (h.2 x hx)).2 (by decide)
theorem LsK.sub {n:Net} {ls ls':List Lgt} (h:LsK n ls) (hs:ls'.Sublist ls):LsK n ls':=⟨ξs hs.length_le h.1,fun x hx=>h.2 x (hs.subset hx)⟩
theorem RunOk.lsk {n:Net} {gs:List Gro} {t:Int} {i:Nat} {r:PRun} (hg:GrsP n gs) (h:RunOk n gs t i r):LsK n r.ls:=⟨h.len hg,h.ok⟩
theorem slice_ofO {w:World} {n:Net} {u1 u2:Value} {fp:List Nat} (h:NetO w n (.agg #[u1,u2]) fp):(∃a m c,u1= .slice a m c)∧ ∃a m c,u2= .slice a m c:=by
 obtain⟨a5,n5,c5,a6,n6,c6,e⟩:=h.form
 simp only[Value.agg.injEq,Array.mk.injEq,List.cons.injEq,and_true] at e
 exact⟨⟨_,_,_,e.1⟩,⟨_,_,_,e.2⟩⟩
theorem PlG.slices {w:World} {base B:Nat} {u1 u2 u3:Value} {p:Pln} {fp:List Nat} (h:PlG w base B u1 u2 u3 p fp):(∃a m c,u1= .slice a m c)∧(∃a m c,u2= .slice a m c)∧ ∃a m c,u3= .slice a m c:=by
 obtain⟨h1,h2⟩:=slice_ofO h.net
 obtain⟨-,a7,c7,e⟩:=h.lig.form
 exact⟨h1,h2,_,_,_,e⟩
theorem runP_lsk {n:Net} {fs:List Fmt} {gs:List Gro} (hg:GrsP n gs):∀{k:Nat} {ps:List (List Lgt)} {r:PRun},runP n fs gs k=some (ps,r)→LsK n r.ls
 | 0,ps,r,h=>by
   rw[runP] at h
   cases h
   exact⟨by simp,fun x hx=>by cases hx⟩
 | k+1,ps,r,h=>by
   rw[runP] at h
   split at h
   · cases h
   · rename_i ps0 r0 h0
     split at h
     · cases h
     · rename_i r2 h2
       cases h
       have a:=(runP_all hg h0).1
       unfold perP at h2
       exact(addA_ok hg a (ξr _) h2).1.lsk hg
theorem addA_bll {n:Net} {fs:List Fmt} {gs:List Gro} {t:Int} {r:PRun} :∀{i:Nat} {r2:PRun},addA n fs gs t (some r) i=some r2→r2.bl.length≤r.bl.length+i
 | 0,r2,h=>by
   unfold addA at h
   simp at h
   subst h
   omega
 | i+1,r2,h=>by
   rw[addA_step] at h
   cases h1:addA n fs gs t (some r) i with
   | none=>rw[h1] at h;cases h
   | some r1=>
     rw[h1] at h
     have:=addA_bll h1
     rcases addP_bl h with e | ⟨e,-⟩
     · rw[e];omega
     · rw[e,List.length_append];simp;omega
theorem runP_bll {n:Net} {fs:List Fmt} {gs:List Gro} :∀{k:Nat} {ps:List (List Lgt)} {r:PRun},runP n fs gs k=some (ps,r)→r.bl.length≤k*gs.length
 | 0,ps,r,h=>by
   rw[runP] at h
   cases h
   simp
 | k+1,ps,r,h=>by
   rw[runP] at h
   split at h
   · cases h
   · rename_i ps0 r0 h0
     split at h
     · cases h
     · rename_i r2 h2
       cases h
       have h3:=runP_bll h0
       have h4:r.bl.length≤r0.bl.length+gs.length:=addA_bll (r:=⟨delA gs k r0.ls gs.length,r0.bl⟩) h2
       rw[Nat.add_mul];omega
theorem planned_any (v vf vg:Value) (n:Net) (fs:List Fmt) (gs:List Gro) (w:World) (h:NetR w v n) (hf:Rdt w (flt 2 fmE fs) vf) (hg:Rdt w (flt 6 groE gs) vg):
 Calls Tryz.prog 64 #[v,vf,vg] w (PldP n fs gs w):=by
 obtain⟨NP,hNP⟩:∃NP,NP=PldP n fs gs w:=⟨_,rfl⟩
 rw[←hNP]
 have HNP:=ξh hNP
 have HVF:=ξh (fun w' (hb:Below w.heap.size w w')=>implFormats_any vf fs w' (hf.behind hb))
 have HVG:=ξh (fun w' (hb:Below w.heap.size w w')=>implGrowths_any v vg n gs w' (h.behind hb) (hg.behind hb))
 have HRF:=ξh (fun w' (hb:Below w.heap.size w w')=>hf.behind hb)
 obtain⟨u1,u2,rfl,r1,r2,hsm⟩:=h
 have hnet:NetR w (.agg #[u1,u2]) n:=⟨u1,u2,rfl,r1,r2,hsm⟩
 have HSM:=ξh (show NetSm n from hsm)
 have HP0:=ξh (show PlnR w (.agg #[u1,u2,.slice none 0 0]) ⟨n,[]⟩ from⟨u1,u2,_,rfl,r1,r2,.nil 5,hsm⟩)
 obtain⟨⟨a1,m1,c1,rfl⟩,a2,m2,c2,rfl⟩:=slice_of_net hnet
 obtain⟨af,mf,cf,rfl,-,-,-,-⟩:=flt_opn (m:=2) (enc:=fmE) (fun _=>rfl) (by omega) nilFm hf
 obtain⟨ag,mg,cg,rfl,HNG,hcg,hmg,hag⟩:=flt_opn (m:=6) (enc:=groE) (fun _=>rfl) (by omega) nilG hg
 have HAG:=ξh hag
 have HPO:=ξh (show planO n fs gs=if fmOk fs&&grsOk n gs then runP n fs gs 8 else none from rfl)
 have HGP:=ξh (fun h=>@grsOk_parts n gs h)
 have HB1:=ξh ((ξb w.heap.size w).alloc (ξr _) (.cells #[.slice a1 m1 c1,.slice a2 m2 c2] 35))
 have HK1:=ξh (ξn w (.cells #[.slice a1 m1 c1,.slice a2 m2 c2] 35))
 clear hag r1 r2 hsm hnet hf hg hNP
 generalize hokf:fmOk fs=okf at HVF HPO
 generalize hokg:grsOk n gs=okg at HVG HPO HGP
 have HOKF:=ξh hokf
 clear hokf hokg
 go_enter Tryz.func64,Tryz.ntmps64
 go_wp2_with fail
 generalize w.alloc (.cells #[.slice a1 m1 c1,.slice a2 m2 c2] 35)=w1 at *
 refine(HVF.out w1 HB1.out).mono ?_
 rintro e w2 ⟨rfl,b2⟩
 have HB2:=ξh (HB1.out.trans (b2.mono HB1.out.size))
 have HK2:=ξh (kept_o' HK1.out b2)
 clear b2
 cases okf
 · go_wp2
   rw[HNP.out]
   exact pld_none HPO.out HB2.out
 have y0:=blkc HK2.out (j:=0) (u:= .slice a1 m1 c1) rfl
 have y1:=blkc HK2.out (j:=1) (u:= .slice a2 m2 c2) rfl
 go_wp2_with fail
 refine(HVG.out w2 HB2.out).mono ?_
 rintro e w3 ⟨rfl,b3⟩
 have HB3:=ξh (HB2.out.trans (b3.mono HB2.out.size))
 have HK3:=ξh (kept_o' HK2.out b3)
 clear b3 y0 y1
 cases okg
 · go_wp2
   rw[HNP.out]
   exact pld_none HPO.out HB3.out
 have y0:=blkc HK3.out (j:=0) (u:= .slice a1 m1 c1) rfl
 have y1:=blkc HK3.out (j:=1) (u:= .slice a2 m2 c2) rfl
 obtain⟨hn,hgp⟩:=HGP.out rfl
 have HPOK:=ξh (show planO n fs gs=runP n fs gs 8 from HPO.out)
 have HCN:=ξh (fun(v':Value) (ls:List Lgt) (d:Dem) (w':World) (hb:Below w.heap.size w w') (h:PlnR w' v' ⟨n,ls⟩) (h3:demOk d n.ns.length=true) (h4:LsK n ls)=>considered_any v' (.slice af mf cf) ⟨n,ls⟩ fs d w' h (HRF.out w' hb) hn HOKF.out h3 (ξs h4.1 (by decide)) (h4.lgo hn) (ξs (netOk_yes hn).2.2.1 (by decide)))
 have HWU:=ξh (fun(v':Value) (ls:List Lgt) (i:Nat) (w':World) (h:PlnR w' v' ⟨n,ls⟩) (hi:i<ls.length) (h4:LsK n ls)=>withoutLight_any v' ⟨n,ls⟩ i w' h hi (ξs (netOk_yes hn).2.1 (by decide)) (ξs (netOk_yes hn).2.2.1 (by decide)) (ξs h4.1 (by decide)) (h4.fb hn))
 have HWT:=ξh (fun(v' fv:Value) (ls:List Lgt) (x:Lgt) (w':World) (h:PlnR w' v' ⟨n,ls⟩) (hx:Rd w' fv x.fb) (hxl:x.fb.length≤1000000) (h4:LsK n ls)=>withLight_any v' fv ⟨n,ls⟩ x w' h hx hxl (ξs (netOk_yes hn).2.1 (by decide)) (ξs (netOk_yes hn).2.2.1 (by decide)) (ξs h4.1 (by decide)) (h4.fb hn))
 have HCP:=ξh (fun(v':Value) (ls:List Lgt) (w':World) (h:PlnR w' v' ⟨n,ls⟩) (h4:LsK n ls)=>copyPlan_any v' ⟨n,ls⟩ w' h (ξs (netOk_yes hn).2.1 (by decide)) (ξs (netOk_yes hn).2.2.1 (by decide)) (ξs h4.1 (by decide)) (h4.fb hn))
 have hmg12:mg≤12:=by rw[←HNG.out];exact hgp.1
 have HGK:=ξh hgp
 have HN:=ξh hn
 have HG0:=ξh (PgB.start HB3.out HP0.out)
 clear hn hgp HVF HVG HPO HGP HB1 HK1 HB2 HK2 hcg hmg
 go_wp2_with fail
 clear y0 y1
 obtain⟨bp,hbp⟩:∃bp,bp=w3.heap.size+1+1:=⟨_,rfl⟩
 have HR:=ξh (show∃R:Nat→Prop,R=fun k=>k=w3.heap.size+1+1 from⟨_,rfl⟩)
 obtain⟨R,hR⟩:=HR.out
 rw[←hR,←hbp] at HG0
 generalize ((w3.alloc (.cells #[] 75)).alloc (.cells #[] 3)).alloc (.cells #[.slice a1 m1 c1,.slice a2 m2 c2,.slice none 0 0] 75)=w4 at *
 generalize (some ⟨w3.heap.size,0,none⟩:Option Addr)=as0 at *
 generalize (some ⟨w3.heap.size+1,0,none⟩:Option Addr)=ab0 at *
 rw[←hbp]
 clear HR hR hbp HB3 HK3 HP0 HRF
 go_loopw [10,11,34] (fun s10 s11 i wr=>∃(t:Nat) (aq:Option Addr) (cs:Nat) (ab:Option Addr) (nb cb:Nat) (psL:List (List Lgt)) (r:PRun),t≤8∧i= .int .i64 t∧s10= .slice aq t cs∧s11= .slice ab nb cb∧Hid (runP n fs gs t=some (psL,r))∧Hid (PgB w wr R bp (.slice aq t cs) (.slice ab nb cb) ⟨n,r.ls⟩ t (psL.map (Pln.mk n)) r.bl)) (fun _ _ i _=>8-(intOf i).toNat)
 case atStart=>exact⟨0,as0,0,ab0,0,0,[],⟨[],[]⟩,by omega,rfl,rfl,rfl,rfl,HG0.out⟩
 case round=>
  clear HG0
  obtain⟨t,aq,cs,ab,nb,cb,psL,r,ht,rfl,rfl,rfl,HRP,HPG⟩:=hrel
  by_cases hlt:t<8
  · have hltI:(t:Int)<8:=by omega
    have HNXT:=ξh (show runP n fs gs (t+1)=(match addA n fs gs t (some ⟨delA gs t r.ls gs.length,r.bl⟩) gs.length with | none=>none | some r2=>some (psL++[r2.ls],r2)) from by rw[runP,HRP.out];rfl)
    have HROK:=ξh ((runP_all HGK.out HRP.out).1)
    have HLS0:=ξh (runP_lsk HGK.out HRP.out)
    obtain⟨D,hD⟩:∃D:Nat→List Lgt,D=fun k=>delA gs t r.ls k:=⟨_,rfl⟩
    have HD:=ξh hD
    have HD0:=ξh (show D 0=r.ls by rw[hD];rfl)
    have HDK:=ξh (show∀k,LsK n (D k) from fun k=>by rw[hD];exact HLS0.out.sub (delA_sub gs t r.ls k))
    obtain⟨tm,htm⟩:∃tm,tm=(t:Int)-1:=⟨_,rfl⟩
    have htw:IntKind.i64.wrap ((t:Int)-1)=tm:=by rw[htm];exact ξi _ (by omega)
    have htv:wrap64 ((t:Int)-1)=tm:=by rw[htm];exact ξw _ (by omega)
    have HDS:=ξh (show∀k,D (k+1)=if(gs[k]?.getD nilG).e=tm∧0≤lix ⟨n,D k⟩ ((k:Int)+1) then(D k).eraseIdx (lix ⟨n,D k⟩ ((k:Int)+1)).toNat else D k from fun k=>by rw[hD];rw[htm];exact(delA_step gs t r.ls k).trans (delP_lix n gs t _ k))
    clear hD htm
    go_wp2_with fail
    obtain⟨wo,hwo⟩:∃wo,wo=wr:=⟨_,rfl⟩
    subst hwo
    go_loopw [39] (fun i wr=>∃k:Nat,k≤mg∧i= .int .i64 k∧Hid (PgB w wr R bp (.slice aq t cs) (.slice ab nb cb) ⟨n,D k⟩ t (psL.map (Pln.mk n)) r.bl)) (fun i _=>mg-(intOf i).toNat)
    case atStart=>exact⟨0,by omega,rfl,by rw[HD0.out];exact HPG.out⟩
    case round=>
     obtain⟨k,hk,rfl,HPG2⟩:=hrel
     by_cases hltk:k<mg
     · have hltkI:(k:Int)<(mg:Int):=by omega
       obtain⟨b,off,rfl,hbs,hcs⟩:=HAG.out (by omega)
       have HBE:=ξh HPG2.out.bel
       have hcw:=fun(r:Nat) (u:Value) (hu:(groE (gs[k]?.getD nilG))[r]?= some u)=>(HBE.out.cell (p:=⟨b,off+k*6+r,none⟩) hbs).trans (hcs k hltk r u hu)
       have c0:=hcw 0 _ rfl
       have c1:=hcw 1 _ rfl
       have c2:=hcw 2 _ rfl
       have c3:=hcw 3 _ rfl
       have c4:=hcw 4 _ rfl
       have c5:=hcw 5 _ rfl
       simp only[Nat.add_zero] at c0
       have HDX:=ξh (HDS.out k)
       clear hcw hcs
       generalize gs[k]?.getD nilG=g at *
       obtain⟨hRb,e1,n1,d1,e2,n2,d2,e3,n3,d3,hbx,hpg⟩:=HPG2.out
       have HPR:=ξh (hpg.pl.rd HBE.out)
       have HBX:=ξh hbx
       clear hpg hbx
       go_upto_region 10 with fail
       have n2':=ξn wr (.cells #[.int .i64 g.d.a,.int .i64 g.d.b,.int .i64 g.d.r,.int .i64 g.d.c,.int .i64 g.s,.int .i64 g.e] 55)
       have HB5:=ξh ((ξb wr.heap.size wr).alloc (ξr _) (.cells #[.int .i64 g.d.a,.int .i64 g.d.b,.int .i64 g.d.r,.int .i64 g.d.c,.int .i64 g.s,.int .i64 g.e] 55))
       obtain⟨bq,hbq⟩:∃bq,bq=wr.heap.size:=⟨_,rfl⟩
       rw[←hbq] at n2' ⊢
       clear hbq
       have HX5:=ξh n2'
       clear n2' c0 c1 c2 c3 c4 c5
       generalize wr.alloc (.cells #[.int .i64 g.d.a,.int .i64 g.d.b,.int .i64 g.d.r,.int .i64 g.d.c,.int .i64 g.s,.int .i64 g.e] 55)=w5 at *
       have HK5:=ξh (kept_o' HBX.out HB5.out)
       have HP5:=ξh (HPR.out.behind HB5.out)
       have y0:=blkc HK5.out (j:=0) (u:= .slice e1 n1 d1) rfl
       have y1:=blkc HK5.out (j:=1) (u:= .slice e2 n2 d2) rfl
       have y2:=blkc HK5.out (j:=2) (u:= .slice e3 n3 d3) rfl
       go_wp2_with fail
       refine(lightAt_any _ ⟨n,D k⟩ ((k:Int)+1) w5 HP5.out).mono ?_
       rintro e w6 ⟨rfl,b6⟩
       have HB6:=ξh (HB5.out.trans (b6.mono HB5.out.size))
       have HX6:=ξh (kept_o' HX5.out b6)
       clear b6 y0 y1 y2
       have z5:=blkc HX6.out (j:=5) (u:= .int .i64 g.e) rfl
       have HP6:=ξh (HPR.out.behind HB6.out)
       have HPG6:=ξh (HPG2.out.below HB6.out)
       have hqb:=lix_bd ⟨n,D k⟩ ((k:Int)+1)
       have HQB:=ξh hqb
       have HDK1:=ξh (HDK.out k)
       generalize lix ⟨n,D k⟩ ((k:Int)+1)=q at *
       by_cases he:g.e=tm
       · have heB:(g.e==tm)=true:=by simpa using he
         by_cases hq:0≤q
         · have hqB:decide (0≤q)=true:=ξt hq
           have HDN:=ξh (show D (k+1)=(D k).eraseIdx q.toNat from by rw[HDX.out,if_pos ⟨he,hq⟩])
           obtain⟨qi,rfl⟩:=Int.eq_ofNat_of_zero_le hq
           rw[Int.toNat_natCast] at HDN
           have HX:=ξh (kept_o' HBX.out HB6.out)
           have y0:=blkc HX.out (j:=0) (u:= .slice e1 n1 d1) rfl
           have y1:=blkc HX.out (j:=1) (u:= .slice e2 n2 d2) rfl
           have y2:=blkc HX.out (j:=2) (u:= .slice e3 n3 d3) rfl
           have hqi:qi<(D k).length:=by have:=HQB.out.2;simpa using this
           clear hqb
           go_wp2_with fail
           refine(HWU.out _ (D k) qi w6 HP6.out hqi HDK1.out).mono ?_
           rintro e w7 ⟨u1,u2,u3,B,fp,rfl,hG,b7⟩
           obtain⟨⟨e4,n4,d4,rfl⟩,⟨e5,n5,d5,rfl⟩,e6,n6,d6,rfl⟩:=hG.slices
           have hx7:=kept_o' HX.out b7
           have f0:w7.frozen? ⟨bp,0,none⟩=false:=ξz _ _ _ _ _ hx7
           have f1:w7.frozen? ⟨bp,1,none⟩=false:=ξz _ _ _ _ _ hx7
           have f2:w7.frozen? ⟨bp,2,none⟩=false:=ξz _ _ _ _ _ hx7
           clear y0 y1 y2
           have y0:=blkc hx7 (j:=0) (u:= .slice e1 n1 d1) rfl
           have y1:=blkc hx7 (j:=1) (u:= .slice e2 n2 d2) rfl
           have y2:=blkc hx7 (j:=2) (u:= .slice e3 n3 d3) rfl
           have HNEW:=ξh (HPG6.out.put b7 hG HSM.out)
           rw[←HDN.out] at HNEW
           clear hG b7 hx7
           go_wp2_with fail
           generalize ((w7.setCell ⟨bp,0,none⟩ (.slice e4 n4 d4)).setCell ⟨bp,1,none⟩ (.slice e5 n5 d5)).setCell ⟨bp,2,none⟩ (.slice e6 n6 d6)=w8 at *
           go_roundw
           case rel=>exact⟨k+1,by omega,by go_num,HNEW.out⟩
           case measure=>simp[intOf];omega
         · have hqB:decide (0≤q)=false:=ξf hq
           have HDN:=ξh (show D (k+1)=D k from by rw[HDX.out,if_neg (fun h=>hq h.2)])
           go_wp2
           go_roundw
           case rel=>exact⟨k+1,by omega,by go_num,by rw[HDN.out];exact HPG6.out⟩
           case measure=>simp[intOf];omega
       · have heB:(g.e==tm)=false:=by simpa using he
         have HDN:=ξh (show D (k+1)=D k from by rw[HDX.out,if_neg (fun h=>he h.1)])
         go_wp2
         go_roundw
         case rel=>exact⟨k+1,by omega,by go_num,by rw[HDN.out];exact HPG6.out⟩
         case measure=>simp[intOf];omega
     · obtain rfl:mg=k:=by omega
       have HGE:=HNG.out
       obtain⟨AA,hAA⟩:∃AA:Nat→Option PRun,AA=fun k=>addA n fs gs t (some ⟨delA gs t r.ls gs.length,r.bl⟩) k:=⟨_,rfl⟩
       have HA0:=ξh (show AA 0=some ⟨D mg,r.bl⟩ from by rw[hAA,HD.out,HGE];rfl)
       have HAS:=ξh (show∀k,AA (k+1)=addP n fs gs t (AA k) k from fun k=>by rw[hAA];exact addA_step _ _ _ _ _ _)
       have HAK:=ξh (show∀k r2,k≤mg→AA k=some r2→LsK n r2.ls∧r2.bl.length≤1000 from fun k r2 hk e=>by
        rw[hAA] at e
        have h1:=(addA_ok HGK.out HROK.out (by omega) e).1.lsk HGK.out
        have h2:=addA_bll e
        have h3:=runP_bll HRP.out
        have h4:=HGK.out.1
        have h5:t * gs.length≤8*12:=Nat.mul_le_mul (by omega) h4
        have h6:r2.bl.length≤r.bl.length+k:=h2
        exact⟨h1,by omega⟩)
       have HFAIL:=ξh (show∀k,k≤mg→AA k=none→planO n fs gs=none from fun k hk e=>by
        rw[HPOK.out]
        refine runP_fail (j:=t+1) ?_ (by omega)
        rw[hAA] at e
        rw[HNXT.out,addA_fail n fs gs t e (show k≤gs.length by omega)])
       have HNX2:=ξh (show∀r2,AA mg=some r2→runP n fs gs (t+1)=some (psL++[r2.ls],r2) from fun r2 e=>by
        rw[hAA] at e
        simp only at e
        rw[HGE] at e
        rw[HNXT.out,HGE,e])
       have HDM:=ξh (show∀k,k<mg→demOk (gs[k]?.getD nilG).d n.ns.length=true from fun k hk=>(HGK.out.2 k (by omega)).1)
       clear hAA HGE HNXT HROK HDS htw htv HLS0 HD0 HDK
       obtain⟨wo2,hwo2⟩:∃wo2,wo2=wr:=⟨_,rfl⟩
       subst hwo2
       go_wp2_with fail
       go_loopw [11,63] (fun s11 i wr=>∃(k:Nat) (ab:Option Addr) (nb cb:Nat) (r2:PRun),k≤mg∧i= .int .i64 k∧s11= .slice ab nb cb∧Hid (AA k=some r2)∧Hid (PgB w wr R bp (.slice aq t cs) (.slice ab nb cb) ⟨n,r2.ls⟩ t (psL.map (Pln.mk n)) r2.bl)) (fun _ i _=>mg-(intOf i).toNat)
       case atStart=>exact⟨0,_,_,_,_,by omega,rfl,rfl,HA0.out,HPG2.out⟩
       case round=>
        obtain⟨k,ab3,nb3,cb3,r2,hk,rfl,rfl,HAE,HPG3⟩:=hrel
        by_cases hltk:k<mg
        · have hltkI:(k:Int)<(mg:Int):=by omega
          obtain⟨b,off,rfl,hbs,hcs⟩:=HAG.out (by omega)
          have HBE:=ξh HPG3.out.bel
          have hcw:=fun(r:Nat) (u:Value) (hu:(groE (gs[k]?.getD nilG))[r]?= some u)=>(HBE.out.cell (p:=⟨b,off+k*6+r,none⟩) hbs).trans (hcs k hltk r u hu)
          have c0:=hcw 0 _ rfl
          have c1:=hcw 1 _ rfl
          have c2:=hcw 2 _ rfl
          have c3:=hcw 3 _ rfl
          have c4:=hcw 4 _ rfl
          have c5:=hcw 5 _ rfl
          simp only[Nat.add_zero] at c0
          have HDM1:=ξh (HDM.out k hltk)
          obtain⟨hlk,hbl⟩:=HAK.out k r2 hk HAE.out
          have HLK:=ξh hlk
          have HBL:=ξh hbl
          have HS:=ξh (show AA (k+1)=addP n fs gs t (some r2) k from by rw[HAS.out,HAE.out])
          unfold addP at HS
          simp only at HS
          clear hcw hcs hlk hbl
          generalize gs[k]?.getD nilG=g at *
          obtain⟨hRb,e1,n1,d1,e2,n2,d2,e3,n3,d3,hbx,hpg⟩:=HPG3.out
          have HPR:=ξh (hpg.pl.rd HBE.out)
          have HBX:=ξh hbx
          clear hpg hbx
          go_upto_region 17 with fail
          have n2':=ξn wr (.cells #[.int .i64 g.d.a,.int .i64 g.d.b,.int .i64 g.d.r,.int .i64 g.d.c,.int .i64 g.s,.int .i64 g.e] 55)
          have HB5:=ξh ((ξb wr.heap.size wr).alloc (ξr _) (.cells #[.int .i64 g.d.a,.int .i64 g.d.b,.int .i64 g.d.r,.int .i64 g.d.c,.int .i64 g.s,.int .i64 g.e] 55))
          obtain⟨bq,hbq⟩:∃bq,bq=wr.heap.size:=⟨_,rfl⟩
          rw[←hbq] at n2' ⊢
          clear hbq
          have HX5:=ξh n2'
          clear n2' c0 c1 c2 c3 c4 c5
          generalize wr.alloc (.cells #[.int .i64 g.d.a,.int .i64 g.d.b,.int .i64 g.d.r,.int .i64 g.d.c,.int .i64 g.s,.int .i64 g.e] 55)=w5 at *
          have HK5:=ξh (kept_o' HBX.out HB5.out)
          have HP5:=ξh (HPR.out.behind HB5.out)
          have HPG5:=ξh (HPG3.out.below HB5.out)
          have HBE5:=ξh HPG5.out.bel
          have z4:=blkc HX5.out (j:=4) (u:= .int .i64 g.s) rfl
          by_cases hs:g.s=(t:Int)
          · have hsB:(g.s==(t:Int))=true:=by simpa using hs
            have hsN:(g.s != (t:Int))=false:=by simpa using hs
            have HS1:=ξh (show AA (k+1)=_ from by rw[HS.out,if_neg (not_not_intro hs)])
            have y0:=blkc HK5.out (j:=0) (u:= .slice e1 n1 d1) rfl
            have y1:=blkc HK5.out (j:=1) (u:= .slice e2 n2 d2) rfl
            have y2:=blkc HK5.out (j:=2) (u:= .slice e3 n3 d3) rfl
            have z0:=blkc HX5.out (j:=0) (u:= .int .i64 g.d.a) rfl
            have z1:=blkc HX5.out (j:=1) (u:= .int .i64 g.d.b) rfl
            have z2:=blkc HX5.out (j:=2) (u:= .int .i64 g.d.r) rfl
            have z3:=blkc HX5.out (j:=3) (u:= .int .i64 g.d.c) rfl
            have HCN1:=ξh (HCN.out _ r2.ls g.d w5 HBE5.out HP5.out HDM1.out HLK.out)
            clear hs HS
            unfold demV at HCN1
            go_wp2_with fail
            refine HCN1.out.mono ?_
            rintro e w7 ⟨b7,hcon⟩
            have HB7:=ξh (HB5.out.trans (b7.mono HB5.out.size))
            have HPG7:=ξh (HPG5.out.below b7)
            have HP7:=ξh (HP5.out.behind b7)
            have HX7:=ξh (kept_o' HK5.out b7)
            clear y0 y1 y2 z0 z1 z2 z3 z4 b7
            rcases hcon with ⟨hfu,rfl⟩ | ⟨hfu,ca,cm,cc,hcm,rfl,hcr⟩
            · have hfu:failU n g.d=true:=hfu
              have HNO:=ξh (HFAIL.out (k+1) hltk (by rw[HS1.out,if_pos hfu]))
              have HBE7:=ξh HPG7.out.bel
              clear hfu
              go_wp2
              rw[HNP.out]
              exact pld_none HNO.out HBE7.out
            · have hfu:failU n g.d=false:=hfu
              have HS2:=ξh (show AA (k+1)=_ from by rw[HS1.out,if_neg (by rw[hfu];simp)])
              unfold ConR at hcr
              simp only at hcr
              clear hfu
              cases hpk:pickU n fs g.d r2.ls with
              | none=>
                rw[hpk] at hcr
                simp only at hcr
                subst hcr
                have HS3:=ξh (show AA (k+1)=some ⟨r2.ls,r2.bl++[(k:Int)]⟩ from by rw[HS2.out,hpk])
                obtain⟨_,_,_,_,_,_,_,_,_,_,_,hpg⟩:=HPG7.out
                have HO7:=ξh hpg.blo
                have HBZ:=ξh hpg.bel.size
                clear hpg hpk HS2
                go_wp2_with (at_builtin;refine wpList_pushI rfl (.tmp 85) (.tmp 87) 58 rfl Tryz.underlying58 Tryz.infoI w.heap.size (.slice ab3 nb3 cb3) r2.bl rfl HO7.out rfl (ξs HBL.out (by decide)) HBZ.out ?_;intro v8 w8 o8 g8 l8;have HNEW:=ξh (HPG7.out.push o8 g8 l8);obtain⟨a8,m8,c8,rfl⟩:=own_slice o8;clear o8 g8 l8)
                go_roundw
                case rel=>exact⟨k+1,a8,m8,c8,⟨r2.ls,r2.bl++[(k:Int)]⟩,by omega,by go_num,rfl,HS3.out,HNEW.out⟩
                case measure=>simp[intOf];omega
              | some ui=>
                obtain⟨u,ix⟩:=ui
                rw[hpk] at hcr
                simp only at hcr
                obtain⟨hcm0,b9,fv,rfl,hb9,x0,x1,x2,x3,x4,hrf⟩:=hcr
                have HS3:=ξh (show AA (k+1)=some ⟨putL r2.ls (lgtU r2.ls ((k:Int)+1) g.d.a u),r2.bl⟩ from by rw[HS2.out,hpk])
                have HFL:=ξh (show u.1.length≤1000000 from ξs (lgtOk_o HN.out (new_ok (u:=(u,ix)) (id:=(k:Int)+1) hpk HDM1.out (by omega) HLK.out.2).1).2 (by decide))
                obtain⟨ax,nx,cx,rfl⟩:∃au nu cu,fv= .slice au nu cu:=by
                 obtain⟨au,cu,hv,-⟩:=full_ok hrf
                 exact⟨_,_,_,hv⟩
                have HRF:=ξh hrf
                have hcmI:(0:Int)<(cm:Int):=by omega
                have hcmB:((cm:Int)==0)=false:=by simpa using(by omega:(cm:Int)≠0)
                have HWTX:=ξh (fun w' (h:PlnR w' (.agg #[.slice e1 n1 d1,.slice e2 n2 d2,.slice e3 n3 d3]) ⟨n,r2.ls⟩) (h2:Rd w' (.slice ax nx cx) u.1)=>HWT.out (.agg #[.slice e1 n1 d1,.slice e2 n2 d2,.slice e3 n3 d3]) (.slice ax nx cx) r2.ls (lgtU r2.ls ((k:Int)+1) g.d.a u) w' h h2 HFL.out HLK.out)
                unfold lgtV at HWTX
                simp only[lgtU] at HWTX
                obtain⟨fu,hfu⟩:∃fu:Int,fu=(((fitU r2.ls u).headD 0:Nat):Int):=⟨_,rfl⟩
                have HLG:=ξh (show lgtU r2.ls ((k:Int)+1) g.d.a u=⟨(k:Int)+1,g.d.a,u.1,fu,u.2⟩ from by rw[hfu];rfl)
                rw[HLG.out] at HS3
                rw[←hfu] at HWTX x3
                clear hfu
                clear hpk HS2 hrf
                go_upto_region 24 with fail
                have k8:=ξn w7 (.cells #[.int .i64 0,.int .i64 g.d.a,.slice ax nx cx,.int .i64 fu,.int .i64 u.2] 86)
                have b8:=(ξb w7.heap.size w7).alloc (ξr _) (.cells #[.int .i64 0,.int .i64 g.d.a,.slice ax nx cx,.int .i64 fu,.int .i64 u.2] 86)
                obtain⟨bl,hbl⟩:∃bl,bl=w7.heap.size:=⟨_,rfl⟩
                rw[←hbl] at k8 ⊢
                have HBLQ:=ξh hbl
                have HK8:=ξh k8
                have HB8:=ξh b8
                clear x0 x1 x2 x3 x4 k8 b8 hbl hcmI hcmB
                generalize w7.alloc (.cells #[.int .i64 0,.int .i64 g.d.a,.slice ax nx cx,.int .i64 fu,.int .i64 u.2] 86)=w8 at *
                have t0:=blkc HK8.out (j:=0) (u:= .int .i64 0) rfl
                have f0:w8.frozen? ⟨bl,0,none⟩=false:=ξz _ _ _ _ _ HK8.out
                go_upto_region 25 with fail
                have HB9:=ξh (HB8.out.setCell (p:=⟨bl,0,none⟩) (by show w7.heap.size≤bl;have:=HBLQ.out;omega) (.int .i64 ((k:Int)+1)))
                have HX9:=ξh (show(w8.setCell ⟨bl,0,none⟩ (.int .i64 ((k:Int)+1))).heap[bl]?= some (.cells #[.int .i64 ((k:Int)+1),.int .i64 g.d.a,.slice ax nx cx,.int .i64 fu,.int .i64 u.2] 86) from by rw[heap_setCell_same w8 bl 0 _ 86 (.int .i64 ((k:Int)+1)) HK8.out];simp)
                generalize w8.setCell ⟨bl,0,none⟩ (.int .i64 ((k:Int)+1))=w9 at *
                clear t0 f0
                have HPG9:=ξh (HPG7.out.below HB9.out)
                have HP9:=ξh (HP7.out.behind HB9.out)
                have HRF9:=ξh (HRF.out.belowAll HB9.out)
                have HBX9:=ξh (kept_o' HX7.out HB9.out)
                have y0:=blkc HBX9.out (j:=0) (u:= .slice e1 n1 d1) rfl
                have y1:=blkc HBX9.out (j:=1) (u:= .slice e2 n2 d2) rfl
                have y2:=blkc HBX9.out (j:=2) (u:= .slice e3 n3 d3) rfl
                have t0:=blkc HX9.out (j:=0) (u:= .int .i64 ((k:Int)+1)) rfl
                have t1:=blkc HX9.out (j:=1) (u:= .int .i64 g.d.a) rfl
                have t2:=blkc HX9.out (j:=2) (u:= .slice ax nx cx) rfl
                have t3:=blkc HX9.out (j:=3) (u:= .int .i64 fu) rfl
                have t4:=blkc HX9.out (j:=4) (u:= .int .i64 u.2) rfl
                go_wp2_with fail
                refine(HWTX.out w9 HP9.out HRF9.out).mono ?_
                rintro e w10 ⟨u1,u2,u3,B,fp,rfl,hG,b10⟩
                obtain⟨⟨e4,n4,d4,rfl⟩,⟨e5,n5,d5,rfl⟩,e6,n6,d6,rfl⟩:=hG.slices
                have hx7:=kept_o' HBX9.out b10
                have f0:w10.frozen? ⟨bp,0,none⟩=false:=ξz _ _ _ _ _ hx7
                have f1:w10.frozen? ⟨bp,1,none⟩=false:=ξz _ _ _ _ _ hx7
                have f2:w10.frozen? ⟨bp,2,none⟩=false:=ξz _ _ _ _ _ hx7
                clear y0 y1 y2 t0 t1 t2 t3 t4
                have y0:=blkc hx7 (j:=0) (u:= .slice e1 n1 d1) rfl
                have y1:=blkc hx7 (j:=1) (u:= .slice e2 n2 d2) rfl
                have y2:=blkc hx7 (j:=2) (u:= .slice e3 n3 d3) rfl
                have HNEW:=ξh (HPG9.out.put b10 hG HSM.out)
                clear hG b10 hx7
                go_wp2_with fail
                generalize ((w10.setCell ⟨bp,0,none⟩ (.slice e4 n4 d4)).setCell ⟨bp,1,none⟩ (.slice e5 n5 d5)).setCell ⟨bp,2,none⟩ (.slice e6 n6 d6)=w11 at *
                go_roundw
                case rel=>exact⟨k+1,ab3,nb3,cb3,_,by omega,by go_num,rfl,HS3.out,HNEW.out⟩
                case measure=>simp[intOf];omega
          · have hsB:(g.s==(t:Int))=false:=by simpa using hs
            have hsN:(g.s != (t:Int))=true:=by simpa using hs
            have HS1:=ξh (show AA (k+1)=some r2 from by rw[HS.out,if_pos hs])
            go_wp2_with fail
            go_roundw
            case rel=>exact⟨k+1,ab3,nb3,cb3,r2,by omega,by go_num,rfl,HS1.out,HPG5.out⟩
            case measure=>simp[intOf];omega
        · obtain rfl:mg=k:=by omega
          have HNR:=ξh (HNX2.out r2 HAE.out)
          obtain⟨hlk,-⟩:=HAK.out mg r2 (ξr _) HAE.out
          have HLK:=ξh hlk
          obtain⟨hRb,e1,n1,d1,e2,n2,d2,e3,n3,d3,hbx,hpg⟩:=HPG3.out
          have HBE:=ξh hpg.bel
          have HPR:=ξh (hpg.pl.rd HBE.out)
          have HBX:=ξh hbx
          have HOU:=ξh hpg.out
          have HRS:=ξh hpg.rsv
          have HBLO:=ξh hpg.blo.lt
          clear hlk hpg hbx
          have y0:=blkc HBX.out (j:=0) (u:= .slice e1 n1 d1) rfl
          have y1:=blkc HBX.out (j:=1) (u:= .slice e2 n2 d2) rfl
          have y2:=blkc HBX.out (j:=2) (u:= .slice e3 n3 d3) rfl
          go_wp2_with fail
          refine(HCP.out _ r2.ls wr HPR.out HLK.out).mono ?_
          rintro e w7 ⟨u1,u2,u3,B,fp,rfl,hG,b7⟩
          obtain⟨fq,ho,hnd,hlo⟩:=hG.o
          have HNW:=ξh (newPln ho hnd fun k hk=>(hlo k hk).1)
          have HB7:=ξh b7
          obtain⟨⟨e4,n4,d4,rfl⟩,⟨e5,n5,d5,rfl⟩,e6,n6,d6,rfl⟩:=hG.slices
          clear hG b7 ho hnd hlo y0 y1 y2
          go_wp2_with (at_builtin;refine wpList_growX rfl (.tmp 99) (.tmp 102) 93 75 rfl Tryz.underlying93 (.agg #[.slice none 0 0,.slice none 0 0,.slice none 0 0]) 3 72 Tryz.infoPln rfl (by decide) (by decide) w.heap.size t (.slice aq t cs) _ (plnD ⟨n,r2.ls⟩) _ (fun k hk=>hk.elim (fun h=>(HRS.out k h).2) (fun h=>(HBLO.out k h).2)) (by rfl) HOU.out HBE.out.size HB7.out [.slice e4 n4 d4,.slice e5 n5 d5,.slice e6 n6 d6] HNW.out rfl (fun z hz=>by simp only[List.mem_cons,List.not_mem_nil,or_false] at hz;rcases hz with e | e | e <;> rw[e] <;> rfl) (by rfl) (by omega) ?_;intro v8 w8 o8 g8 l8;have HNEW:=ξh (HPG3.out.grow HB7.out o8 g8 l8);obtain⟨-,a8,c8,rfl⟩:=o8.grw.form;clear o8 g8 l8)
          go_roundw
          case rel=>exact⟨t+1,a8,c8,ab3,nb3,cb3,psL++[r2.ls],r2,by omega,by go_num,rfl,rfl,HNR.out,by rw[List.map_append];exact HNEW.out⟩
          case measure=>simp[intOf];omega
  · obtain rfl:t=8:=by omega
    have HPL:=ξh (show planO n fs gs=some (psL,r) from by rw[HPOK.out];exact HRP.out)
    obtain⟨_,_,_,_,_,_,_,_,_,_,_,hpg⟩:=HPG.out
    have HO:=ξh hpg.blo
    have HLB:=ξh (show r.bl.length≤1099511627776 from by
     have h1:=runP_bll HRP.out
     have h2:=HGK.out.1
     omega)
    clear hpg
    go_wp2_with fail
    refine(sortI_own (.slice ab nb cb) r.bl w.heap.size wr HO.out HLB.out).mono ?_
    rintro e w7 ⟨rfl,o7,g7⟩
    have HEND:=ξh (pld_some HPL.out HPG.out o7 g7)
    clear o7 g7
    go_wp2
    rw[HNP.out]
    exact HEND.out
theorem l1OwnE_any (v:Value) (xs:List Int) (w:World) (h:Rd w v xs) (hl:xs.length≤900000):
 Calls Tryz.prog 187 #[v] w fun e w'=>∃v',e= .returned v'∧w'.ownsRow w.heap.size 3 1 v' xs.length (ints xs)∧Below w.heap.size w w':=by
 have hb0:=((ξb w.heap.size w).alloc (ξr _) (.cells #[] 3))
 have HOWN0:=ξh (World.ownsRow_lit (base:=w.heap.size) (e:=3) (size:=1) w #[] 0 (ξr _) (by simp) rfl)
 have hrd:=h.belowAll hb0
 obtain⟨a,cap,n,HN,rfl,hcap,hnone⟩:=full_opn h
 obtain⟨a',cap',n',HN',e,_,_,hc⟩:=hrd.opn
 simp only[Value.slice.injEq] at e
 obtain⟨rfl,rfl,rfl⟩:=e
 have HC:=ξh (fun h0=>by
  obtain⟨b,off,e1,e2,e3⟩:=hc h0
  exact(⟨b,off,e1,e3⟩:∃b off,a=some ⟨b,off,none⟩∧ ∀j,j<n→(w.alloc (.cells #[] 3)).cell? ⟨b,off+j,none⟩=some (.int .i64 (xs[j]?.getD 0))))
 have HNO:=ξh hnone
 have HB0:=ξh hb0
 have hn:n≤900000:=by have:=HN.out;omega
 rw[HN.out]
 clear hc hrd h hb0 hl HN' hnone
 go_enter Tryz.func187,Tryz.ntmps187
 go_wp2_with (at_builtin;go_loud (refine wpList_catA rfl (.tmp 3) (.tmp 4) 58 rfl Tryz.underlying58 Tryz.infoInt w.heap.size (.slice (some ⟨w.heap.size,0,none⟩) 0 0) 0 [] rfl HOWN0.out a n cap xs rfl HN.out HNO.out HC.out (by omega) (by simp) ?_);intro v' w1 hown1 hgrow1)
 go_ret
 exact⟨_,rfl,by simpa using hown1,HB0.out.grown hgrow1 (by simp) (fun k hk=>by have e:w.heap.size=k:=(by simpa[Value.ownBlock] using hk);exact Nat.le_of_eq e)⟩
theorem row_kept0 {w w':World} {base:Nat} {e:TypeId} {size:Nat} {v:Value} {n:Nat} {xs:List Value} (h:w.ownsRow base e size v n xs) (hk:∀g,v.ownBlock=some g→w'.heap[g]?= w.heap[g]?):w'.ownsRow base e size v n xs:=by
 refine⟨h.1,?_⟩
 rcases h.2 with q | ⟨g,cap,cur,rfl,q1,q2,q3⟩
 · exact .inl q
 · exact .inr ⟨g,cap,cur,rfl,q1,by rw[hk g rfl];exact q2,q3⟩
theorem row_form0 {w:World} {base n:Nat} {T:TypeId} {v:Value} {us:List Value} {m:Nat} (h:w.ownsRow base T m v n us):∃a c,v= .slice a n c:=by
 rcases h.2 with ⟨h,h2⟩ | ⟨g,cap,cur,h,_⟩
 · exact⟨none,0,by rw[h,h2]⟩
 · exact⟨_,_,h⟩
def OwR (w:World) (base:Nat) (v:Value) (xs:List Int):Prop:=w.ownsRow base 3 1 v xs.length (ints xs)
theorem OwR.kept {w w':World} {base:Nat} {v:Value} {xs:List Int} (h:OwR w base v xs) (hk:∀g,v.ownBlock=some g→w'.heap[g]?= w.heap[g]?):OwR w' base v xs:=row_kept0 h hk
theorem OwR.lt {w:World} {base:Nat} {v:Value} {xs:List Int} (h:OwR w base v xs):∀g,v.ownBlock=some g→base≤g∧g<w.heap.size:=World.ownsRow.lt h
theorem OwR.own {w:World} {base:Nat} {v:Value} {xs:List Int} (h:OwR w base v xs):Own w base v xs:=own_of_row h
theorem OwR.below {w w':World} {base:Nat} {v:Value} {xs:List Int} (h:OwR w base v xs) (hb:Below w.heap.size w w'):OwR w' base v xs:=h.kept fun g hg=>hb.block g (h.lt g hg).2
theorem OwR.base {w:World} {base base':Nat} {v:Value} {xs:List Int} (h:OwR w base v xs) (hb:base'≤base):OwR w base' v xs:=
 ⟨h.1,h.2.imp id fun⟨g,cap,cur,k1,k2,k3⟩=>⟨g,cap,cur,k1,ξs hb k2,k3⟩⟩
theorem OwR.oth {w:World} {base b j:Nat} {v u:Value} {xs:List Int} (h:OwR w base v xs) (hb:∀k,v.ownBlock=some k→k≠b):OwR (w.setCell ⟨b,j,none⟩ u) base v xs:=
 h.kept fun k hk=>heap_setCell_other w ⟨b,j,none⟩ k u (hb k hk)
section
variable {b0 : Nat} {n : Net} {w wr w' : World} {B K K' b6 : Nat} {c u1 u2 v sv : Value} {st : Int} {xs sn : List Int}
end
def OwnRtP (st:Int) (xs:List Int) (w:World) (e:Ending) (w':World):Prop:=∃v',e= .returned (.agg #[.int .i64 st,v'])∧OwR w' w.heap.size v' xs∧Below w.heap.size w w'
theorem l4Own_any (st:Int) (v:Value) (xs:List Int) (w:World) (h:Rd w v xs) (hl:xs.length≤900000):
 Calls Tryz.prog 152 #[.agg #[.int .i64 st,v]] w (OwnRtP st xs w):=by
 obtain⟨NP,hNP⟩:∃NP,NP=OwnRtP st xs w:=⟨_,rfl⟩
 rw[←hNP]
 have HOW:=ξh (fun w' (hb:Below w.heap.size w w')=>l1OwnE_any v xs w' (h.belowAll hb) hl)
 obtain⟨ax,cx,nx,HNX,rfl,-,-,-⟩:=h.opn
 have b1:=(ξb w.heap.size w).alloc (ξr _) (.cells #[.int .i64 st,.slice ax nx cx] 82)
 have b2:=b1.alloc b1.size (.cells #[.int .i64 0,.slice none 0 0] 82)
 have HB2:=ξh b2
 have HX1:=ξh (show((w.alloc (.cells #[.int .i64 st,.slice ax nx cx] 82)).alloc (.cells #[.int .i64 0,.slice none 0 0] 82)).heap[w.heap.size]?= some (.cells #[.int .i64 st,.slice ax nx cx] 82 (0,0)) from(heap_alloc_old _ _ (by simp)).trans (ξn w _))
 have HX2:=ξh (show((w.alloc (.cells #[.int .i64 st,.slice ax nx cx] 82)).alloc (.cells #[.int .i64 0,.slice none 0 0] 82)).heap[w.heap.size+1]?= some (.cells #[.int .i64 0,.slice none 0 0] 82 (0,0)) from by have:=ξn (w.alloc (.cells #[.int .i64 st,.slice ax nx cx] 82)) (.cells #[.int .i64 0,.slice none 0 0] 82);simpa using this)
 have HZ2:=ξh (show((w.alloc (.cells #[.int .i64 st,.slice ax nx cx] 82)).alloc (.cells #[.int .i64 0,.slice none 0 0] 82)).heap.size=w.heap.size+2 by simp)
 clear b1 b2 h
 go_enter Tryz.func152,Tryz.ntmps152
 go_upto_region 1 with fail
 generalize (w.alloc (.cells #[.int .i64 st,.slice ax nx cx] 82)).alloc (.cells #[.int .i64 0,.slice none 0 0] 82)=w2 at *
 have hlt1:w.heap.size<w2.heap.size:=by have:=HZ2.out;omega
 have HS:=ξh (fun(w':World) (hb:Below w2.heap.size w2 w')=>show w'.cell? ⟨w.heap.size,0,none⟩=some (.int .i64 st)∧w'.cell? ⟨w.heap.size,1,none⟩=some (.slice ax nx cx) from
  ⟨(hb.cell (p:=⟨w.heap.size,0,none⟩) hlt1).trans (blkc HX1.out rfl),(hb.cell (p:=⟨w.heap.size,1,none⟩) hlt1).trans (blkc HX1.out rfl)⟩)
 have HST:=ξh (fun(w':World) (hb:Below w2.heap.size w2 w') (a b:Value)=>show((w'.setCell ⟨w.heap.size+1,0,none⟩ a).setCell ⟨w.heap.size+1,1,none⟩ b).cell? ⟨w.heap.size,0,none⟩=some (.int .i64 st)∧((w'.setCell ⟨w.heap.size+1,0,none⟩ a).setCell ⟨w.heap.size+1,1,none⟩ b).cell? ⟨w.heap.size,1,none⟩=some (.slice ax nx cx) from by
  obtain⟨h1,h2⟩:=HS.out w' hb
  refine⟨?_,?_⟩
  · rw[World.cell?_setCell_other _ _ _ _ (by simp),World.cell?_setCell_other _ _ _ _ (by simp)];exact h1
  · rw[World.cell?_setCell_other _ _ _ _ (by simp),World.cell?_setCell_other _ _ _ _ (by simp)];exact h2)
 have hb0:=(ξb w2.heap.size w2).drew
 have HO2:=ξh (HOW.out w2.drew (HB2.out.trans (hb0.mono HB2.out.size)))
 go_region_held3 (fun w'=>w'.cell? ⟨w.heap.size,0,none⟩=some (.int .i64 st)∧w'.cell? ⟨w.heap.size,1,none⟩=some (.slice ax nx cx))
  (first | exact HS.out _ hb0 | exact HS.out _ B5 | exact HST.out _ B5 _ _)
  (first
    | (go_at_call 187;(with_reducible refine HO2.out.mono ?_);rintro e w5 ⟨v5,rfl,o5,b5⟩;(obtain⟨e5,f5,rfl⟩:=row_form0 o5);(have B5:Below w2.heap.size w2 w5:=hb0.trans (b5.mono hb0.size));(have x10:=kept_o' HX2.out B5);(have z0:=blkc x10 (show _=some (Value.int .i64 0) from rfl) (j:=0));(have z1:=blkc x10 (show _=some (Value.slice none 0 0) from rfl) (j:=1));(have f0:w5.frozen? ⟨w.heap.size+1,0,none⟩=false:=(by simp only[World.frozen?,x10];rfl));(have f1:w5.frozen? ⟨w.heap.size+1,1,none⟩=false:=(by simp only[World.frozen?,x10];rfl))))
 all_goals
  have HB5:=ξh B5
  have HO5:=ξh (show OwR w5 w2.heap.size _ xs from o5)
  clear b5 o5 B5
  go_wp2_with fail
  subst hNP
  have hz:=HZ2.out
  have hn:∀k,(Value.slice e5 xs.length f5).ownBlock=some k→k≠w.heap.size+1:=fun k hk=>by have:=(HO5.out.lt k hk).1;omega
  exact bodyPost_ret (v:= .agg #[.int .i64 st,.slice e5 xs.length f5]) (by simp[results,Tryz.results152,go_sem,z0,z1]) rfl ⟨_,rfl,(((HO5.out.oth hn).oth hn).base (by omega)),((HB2.out.trans (HB5.out.mono HB2.out.size)).setCell (p:=⟨w.heap.size+1,0,none⟩) (Nat.le_succ _) _).setCell (p:=⟨w.heap.size+1,1,none⟩) (Nat.le_succ _) _⟩
def CpP (x:Lgt) (w:World) (e:Ending) (w':World):Prop:=∃v',e= .returned (.agg #[.int .i64 x.id,.int .i64 x.st,v',.int .i64 x.fi,.int .i64 x.ct])∧OwR w' w.heap.size v' x.fb∧Below w.heap.size w w'
theorem l9Copy_any (x:Lgt) (v:Value) (w:World) (h:Rd w v x.fb) (hl:x.fb.length≤900000):
 Calls Tryz.prog 153 #[.agg #[.int .i64 x.id,.int .i64 x.st,v,.int .i64 x.fi,.int .i64 x.ct]] w (CpP x w):=by
 obtain⟨NP,hNP⟩:∃NP,NP=CpP x w:=⟨_,rfl⟩
 rw[←hNP]
 have HOW:=ξh (fun w' (hb:Below w.heap.size w w')=>l4Own_any x.st v x.fb w' (h.belowAll hb) hl)
 obtain⟨ax,cx,nx,HNX,rfl,-,-,-⟩:=h.opn
 have b1:=(ξb w.heap.size w).alloc (ξr _) (.cells #[.int .i64 x.id,.int .i64 x.st,.slice ax nx cx,.int .i64 x.fi,.int .i64 x.ct] 86)
 have b2:=b1.alloc b1.size (.cells #[.int .i64 0,.int .i64 0,.slice none 0 0,.int .i64 0,.int .i64 0] 86)
 have HB2:=ξh b2
 have HX1:=ξh (show((w.alloc (.cells #[.int .i64 x.id,.int .i64 x.st,.slice ax nx cx,.int .i64 x.fi,.int .i64 x.ct] 86)).alloc (.cells #[.int .i64 0,.int .i64 0,.slice none 0 0,.int .i64 0,.int .i64 0] 86)).heap[w.heap.size]?= some (.cells #[.int .i64 x.id,.int .i64 x.st,.slice ax nx cx,.int .i64 x.fi,.int .i64 x.ct] 86 (0,0)) from(heap_alloc_old _ _ (by simp)).trans (ξn w _))
 have HX2:=ξh (show((w.alloc (.cells #[.int .i64 x.id,.int .i64 x.st,.slice ax nx cx,.int .i64 x.fi,.int .i64 x.ct] 86)).alloc (.cells #[.int .i64 0,.int .i64 0,.slice none 0 0,.int .i64 0,.int .i64 0] 86)).heap[w.heap.size+1]?= some (.cells #[.int .i64 0,.int .i64 0,.slice none 0 0,.int .i64 0,.int .i64 0] 86 (0,0)) from by have:=ξn (w.alloc (.cells #[.int .i64 x.id,.int .i64 x.st,.slice ax nx cx,.int .i64 x.fi,.int .i64 x.ct] 86)) (.cells #[.int .i64 0,.int .i64 0,.slice none 0 0,.int .i64 0,.int .i64 0] 86);simpa using this)
 have HZ2:=ξh (show((w.alloc (.cells #[.int .i64 x.id,.int .i64 x.st,.slice ax nx cx,.int .i64 x.fi,.int .i64 x.ct] 86)).alloc (.cells #[.int .i64 0,.int .i64 0,.slice none 0 0,.int .i64 0,.int .i64 0] 86)).heap.size=w.heap.size+2 by simp)
 clear b1 b2 h
 go_enter Tryz.func153,Tryz.ntmps153
 go_upto_region 1 with fail
 generalize ((w.alloc (.cells #[.int .i64 x.id,.int .i64 x.st,.slice ax nx cx,.int .i64 x.fi,.int .i64 x.ct] 86)).alloc (.cells #[.int .i64 0,.int .i64 0,.slice none 0 0,.int .i64 0,.int .i64 0] 86))=w2 at *
 have hlt1:w.heap.size<w2.heap.size:=by have:=HZ2.out;omega
 have HS:=ξh (fun(w':World) (hb:Below w2.heap.size w2 w')=>show w'.cell? ⟨w.heap.size,0,none⟩=some (.int .i64 x.id)∧w'.cell? ⟨w.heap.size,1,none⟩=some (.int .i64 x.st)∧w'.cell? ⟨w.heap.size,2,none⟩=some (.slice ax nx cx)∧w'.cell? ⟨w.heap.size,3,none⟩=some (.int .i64 x.fi)∧w'.cell? ⟨w.heap.size,4,none⟩=some (.int .i64 x.ct) from
  ⟨(hb.cell (p:=⟨w.heap.size,0,none⟩) hlt1).trans (blkc HX1.out rfl),(hb.cell (p:=⟨w.heap.size,1,none⟩) hlt1).trans (blkc HX1.out rfl),(hb.cell (p:=⟨w.heap.size,2,none⟩) hlt1).trans (blkc HX1.out rfl),(hb.cell (p:=⟨w.heap.size,3,none⟩) hlt1).trans (blkc HX1.out rfl),(hb.cell (p:=⟨w.heap.size,4,none⟩) hlt1).trans (blkc HX1.out rfl)⟩)
 have HST:=ξh (fun(w':World) (hb:Below w2.heap.size w2 w') (a0 a1 a2 a3 a4:Value)=>show(((((w'.setCell ⟨w.heap.size+1,0,none⟩ a0).setCell ⟨w.heap.size+1,1,none⟩ a1).setCell ⟨w.heap.size+1,2,none⟩ a2).setCell ⟨w.heap.size+1,3,none⟩ a3).setCell ⟨w.heap.size+1,4,none⟩ a4).cell? ⟨w.heap.size,0,none⟩=some (.int .i64 x.id)∧(((((w'.setCell ⟨w.heap.size+1,0,none⟩ a0).setCell ⟨w.heap.size+1,1,none⟩ a1).setCell ⟨w.heap.size+1,2,none⟩ a2).setCell ⟨w.heap.size+1,3,none⟩ a3).setCell ⟨w.heap.size+1,4,none⟩ a4).cell? ⟨w.heap.size,1,none⟩=some (.int .i64 x.st)∧(((((w'.setCell ⟨w.heap.size+1,0,none⟩ a0).setCell ⟨w.heap.size+1,1,none⟩ a1).setCell ⟨w.heap.size+1,2,none⟩ a2).setCell ⟨w.heap.size+1,3,none⟩ a3).setCell ⟨w.heap.size+1,4,none⟩ a4).cell? ⟨w.heap.size,2,none⟩=some (.slice ax nx cx)∧(((((w'.setCell ⟨w.heap.size+1,0,none⟩ a0).setCell ⟨w.heap.size+1,1,none⟩ a1).setCell ⟨w.heap.size+1,2,none⟩ a2).setCell ⟨w.heap.size+1,3,none⟩ a3).setCell ⟨w.heap.size+1,4,none⟩ a4).cell? ⟨w.heap.size,3,none⟩=some (.int .i64 x.fi)∧(((((w'.setCell ⟨w.heap.size+1,0,none⟩ a0).setCell ⟨w.heap.size+1,1,none⟩ a1).setCell ⟨w.heap.size+1,2,none⟩ a2).setCell ⟨w.heap.size+1,3,none⟩ a3).setCell ⟨w.heap.size+1,4,none⟩ a4).cell? ⟨w.heap.size,4,none⟩=some (.int .i64 x.ct) from by
  obtain⟨h1,h2,h3,h4,h5⟩:=HS.out w' hb
  refine⟨?_,?_,?_,?_,?_⟩
  · rw[World.cell?_setCell_other _ _ _ _ (by simp),World.cell?_setCell_other _ _ _ _ (by simp),World.cell?_setCell_other _ _ _ _ (by simp),World.cell?_setCell_other _ _ _ _ (by simp),World.cell?_setCell_other _ _ _ _ (by simp)];exact h1
  · rw[World.cell?_setCell_other _ _ _ _ (by simp),World.cell?_setCell_other _ _ _ _ (by simp),World.cell?_setCell_other _ _ _ _ (by simp),World.cell?_setCell_other _ _ _ _ (by simp),World.cell?_setCell_other _ _ _ _ (by simp)];exact h2
  · rw[World.cell?_setCell_other _ _ _ _ (by simp),World.cell?_setCell_other _ _ _ _ (by simp),World.cell?_setCell_other _ _ _ _ (by simp),World.cell?_setCell_other _ _ _ _ (by simp),World.cell?_setCell_other _ _ _ _ (by simp)];exact h3
  · rw[World.cell?_setCell_other _ _ _ _ (by simp),World.cell?_setCell_other _ _ _ _ (by simp),World.cell?_setCell_other _ _ _ _ (by simp),World.cell?_setCell_other _ _ _ _ (by simp),World.cell?_setCell_other _ _ _ _ (by simp)];exact h4
  · rw[World.cell?_setCell_other _ _ _ _ (by simp),World.cell?_setCell_other _ _ _ _ (by simp),World.cell?_setCell_other _ _ _ _ (by simp),World.cell?_setCell_other _ _ _ _ (by simp),World.cell?_setCell_other _ _ _ _ (by simp)];exact h5)
 have hb0:=(ξb w2.heap.size w2).drew
 have HO2:=ξh (HOW.out w2.drew (HB2.out.trans (hb0.mono HB2.out.size)))
 go_region_held3 (fun w'=>w'.cell? ⟨w.heap.size,0,none⟩=some (.int .i64 x.id)∧w'.cell? ⟨w.heap.size,1,none⟩=some (.int .i64 x.st)∧w'.cell? ⟨w.heap.size,2,none⟩=some (.slice ax nx cx)∧w'.cell? ⟨w.heap.size,3,none⟩=some (.int .i64 x.fi)∧w'.cell? ⟨w.heap.size,4,none⟩=some (.int .i64 x.ct))
  (first | exact HS.out _ hb0 | exact HS.out _ B5 | exact HST.out _ B5 _ _ _ _ _)
  (first
    | (go_at_call 152;(with_reducible refine HO2.out.mono ?_);rintro e w5 ⟨v5,rfl,o5,b5⟩;(obtain⟨e5,f5,rfl⟩:=row_form0 o5);(have B5:Below w2.heap.size w2 w5:=hb0.trans (b5.mono hb0.size));(have x10:=kept_o' HX2.out B5);(have z0:=blkc x10 (show _=some (Value.int .i64 0) from rfl) (j:=0));(have f0:w5.frozen? ⟨w.heap.size+1,0,none⟩=false:=(by simp only[World.frozen?,x10];rfl));(have z1:=blkc x10 (show _=some (Value.int .i64 0) from rfl) (j:=1));(have f1:w5.frozen? ⟨w.heap.size+1,1,none⟩=false:=(by simp only[World.frozen?,x10];rfl));(have z2:=blkc x10 (show _=some (Value.slice none 0 0) from rfl) (j:=2));(have f2:w5.frozen? ⟨w.heap.size+1,2,none⟩=false:=(by simp only[World.frozen?,x10];rfl));(have z3:=blkc x10 (show _=some (Value.int .i64 0) from rfl) (j:=3));(have f3:w5.frozen? ⟨w.heap.size+1,3,none⟩=false:=(by simp only[World.frozen?,x10];rfl));(have z4:=blkc x10 (show _=some (Value.int .i64 0) from rfl) (j:=4));(have f4:w5.frozen? ⟨w.heap.size+1,4,none⟩=false:=(by simp only[World.frozen?,x10];rfl))))
 all_goals
  have HB5:=ξh B5
  have HO5:=ξh (show OwR w5 w2.heap.size _ x.fb from o5)
  clear b5 o5 B5
  go_wp2_with fail
  subst hNP
  have hz:=HZ2.out
  have hn:∀k,(Value.slice e5 x.fb.length f5).ownBlock=some k→k≠w.heap.size+1:=fun k hk=>by have:=(HO5.out.lt k hk).1;omega
  exact bodyPost_ret (v:= .agg #[.int .i64 x.id,.int .i64 x.st,.slice e5 x.fb.length f5,.int .i64 x.fi,.int .i64 x.ct]) (by simp[results,Tryz.results153,go_sem,z0,z1,z2,z3,z4]) rfl ⟨_,rfl,((((((HO5.out.oth hn).oth hn).oth hn).oth hn).oth hn).base (by omega)),((((((HB2.out.trans (HB5.out.mono HB2.out.size)).setCell (p:=⟨w.heap.size+1,0,none⟩) (Nat.le_succ _) _).setCell (p:=⟨w.heap.size+1,1,none⟩) (Nat.le_succ _) _).setCell (p:=⟨w.heap.size+1,2,none⟩) (Nat.le_succ _) _).setCell (p:=⟨w.heap.size+1,3,none⟩) (Nat.le_succ _) _).setCell (p:=⟨w.heap.size+1,4,none⟩) (Nat.le_succ _) _)⟩
end Go.Proofs.YtofcicomhnkocaaGreat
