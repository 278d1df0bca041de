/- Walk: the plans of all periods (the reference's). -/
import Derived.Test.YtofcicomhnkocaaGreatBx26
set_option linter.unusedVariables false
namespace Go.Proofs.YtofcicomhnkocaaGreat
set_option maxHeartbeats 12800000
open Go.RowKit Go.Sort
set_option maxRecDepth 100000
open Cpy
theorem Rd.keptB {w w':World} {v:Value} {xs:List Int} (h:Rd w v xs) (hs:w.heap.size≤w'.heap.size) (hk:∀q,v.ownBlock=some q→w'.heap[q]?= w.heap[q]?):Rd w' v xs:=by
 rcases h with h | ⟨b,off,cap,rfl,h1,h2,h3,h4⟩
 · exact .inl h
 · exact .inr ⟨b,off,cap,rfl,h1,h2,ξq h3 hs,fun j hj=>by rw[World.cell?_of_block (w:=w) (hk b rfl)];exact h4 j hj⟩
theorem PgB.stepR {w0 w w':World} {R:Nat→Prop} {bp m:Nat} {s b:Value} {p:Pln} {ps:List Pln} {bl:List Int} (h:PgB w0 w R bp s b p m ps bl) (hb:Below w0.heap.size w0 w') (hs:w.heap.size≤w'.heap.size) (hk:∀k,k<w.heap.size→ ¬R k→w'.heap[k]?= w.heap[k]?) (hbp:w'.heap[bp]?= w.heap[bp]?):PgB w0 w' R bp s b p m ps bl:=by
 obtain⟨h0,a1,m1,c1,a2,m2,c2,a3,m3,c3,h1,h2⟩:=h
 exact⟨h0,a1,m1,c1,a2,m2,c2,a3,m3,c3,hbp.trans h1,h2.step hb hs hk⟩
def PleP (n:Net) (fs:List Fmt) (gs:List Gro) (w:World) (e:Ending) (w':World):Prop:=Below w.heap.size w w'∧
 match ξR n fs gs with
 | none=>∃a1 m1 c1 a2 m2 c2,e= .returned (.tuple #[.agg #[.slice a1 m1 c1,.slice a2 m2 c2],.bool false])
 | some (ps,r)=>∃s b,e= .returned (.tuple #[.agg #[s,b],.bool true])∧GrwX w' w.heap.size 75 3 s 8 ((ps.map (Pln.mk n)).flatMap plnD) (fun k=>b.ownBlock=some k)∧Own w' w.heap.size b (ust r.bl)∧ ∀g,s.ownBlock=some g→b.ownBlock≠some g
theorem ple_none {n:Net} {fs:List Fmt} {gs:List Gro} {w w':World} {a1 a2:Option Addr} {m1 c1 m2 c2:Nat} (h:ξR n fs gs=none) (hb:Below w.heap.size w w'):PleP n fs gs w (.returned (.tuple #[.agg #[.slice a1 m1 c1,.slice a2 m2 c2],.bool false])) w':=by
 unfold PleP;rw[h];exact⟨hb,_,_,_,_,_,_,rfl⟩
theorem ple_some {n:Net} {fs:List Fmt} {gs:List Gro} {w w1 w':World} {ps:List (List Lgt)} {r:PRun} {R:Nat→Prop} {bp:Nat} {s b:Value} {p:Pln} (h:ξR n fs gs=some (ps,r)) (hp:PgB w w1 R bp s b p 8 (ps.map (Pln.mk n)) (ust r.bl)) (hb:Below w.heap.size w w') (hs:w1.heap.size≤w'.heap.size) (hk:∀k,¬R k→k<w1.heap.size→w'.heap[k]?= w1.heap[k]?):PleP n fs gs w (.returned (.tuple #[.agg #[s,b],.bool true])) w':=by
 unfold PleP;rw[h]
 obtain⟨-,a1,m1,c1,a2,m2,c2,a3,m3,c3,-,h2⟩:=hp
 have h3:=h2.step hb hs fun k h1 h2=>hk k h2 h1
 exact⟨hb,s,b,rfl,h3.out.kept (fun _ _ _ _=>rfl) (fun k _ hy=> .inr hy),h3.blo,fun g hg=>(h3.aps g hg).2⟩
theorem PgB.start2 {w0 w5:World} {base B b0 m1 c1 m2 c2:Nat} {a1 a2:Option Addr} {n:Net} {fp:List Nat} {R:Nat→Prop} (hG:PlG w5 base B (.slice a1 m1 c1) (.slice a2 m2 c2) (.slice none 0 0) ⟨n,[]⟩ fp) (hsm:NetSm n) (hb:Below w0.heap.size w0 w5) (hbp:R w5.heap.size) (hR:∀k,R k→k=w5.heap.size∨(w0.heap.size≤k∧k<base)) (h0:w5.heap[b0]?= some (.cells #[] 3 (0,0))) (hb0:w0.heap.size≤b0∧b0<base) (hR0:¬R b0):
 PgB w0 (w5.alloc (.cells #[.slice a1 m1 c1,.slice a2 m2 c2,.slice none 0 0] 75)) R w5.heap.size (.slice none 0 0) (.slice (some ⟨b0,0,none⟩) 0 0) ⟨n,[]⟩ 0 [] []:=by
 have hal:=(ξb w5.heap.size w5).alloc (ξr _) (.cells #[.slice a1 m1 c1,.slice a2 m2 c2,.slice none 0 0] 75)
 have hz:(w5.alloc (.cells #[.slice a1 m1 c1,.slice a2 m2 c2,.slice none 0 0] 75)).heap.size=w5.heap.size+1:=by simp
 have hbase:base≤w5.heap.size:=ξs hG.bas.1 hG.bas.2
 refine⟨hbp,a1,m1,c1,a2,m2,c2,none,0,0,ξn _ _,hb.trans (hal.mono hb.size),fun k hk=> ?_,fun w' _ hk=> ?_,⟨[],[],⟨by simp,.inl ⟨rfl,rfl⟩⟩,⟨rfl,rfl,(fun j d u f h=>by simp at h),List.nodup_nil,(fun k hk=>by simp at hk),(fun g _ hk=>by simp at hk)⟩,(fun k hk=>by simp at hk)⟩,?_,(fun g hg=>by cases hg),fun g hg=> ?_⟩
 · have:=hR k hk;omega
 · obtain⟨fq,ho,-,hl⟩:=hG.o
   refine((ho.behind hal).kept fun k hkq=> ?_).rd hsm
   have:=hl k hkq
   exact hk k (by omega) (by omega) (fun e=>by have:=hR k e;omega) (fun e=>by cases e) (fun e=>by have:b0=k:=ξo e;omega)
 · exact .inr ⟨b0,0,0,#[],rfl,hb0.1,⟨_,ξA h0 hal⟩,ξr _,by simp[maxLen],by simp,by simp[ints]⟩
 · have:b0=g:=ξo hg
   subst this
   exact hR0
theorem l26Plan_any (v vf vg:Value) (n:Net) (fs:List Fmt) (gs:List Gro) (w:World) (h:NetR w v n) (hf:Rdt w (flt 2 fmE fs) vf) (hg:Rdt w (flt 6 groE gs) vg):
 Calls Tryz.prog 58 #[v,vf,vg] w (PleP n fs gs w):=by
 obtain⟨NP,hNP⟩:∃NP,NP=PleP n fs gs w:=⟨_,rfl⟩
 rw[←hNP]
 have HNP:=ξh hNP
 have HVF:=ξh (fun w' (hb:Below w.heap.size w w')=>ξbW vf fs w' (hf.behind hb))
 have HVG:=ξh (fun w' (hb:Below w.heap.size w w')=>ξbS v vg n gs w' (h.behind hb) (hg.behind hb))
 have HRF:=ξh (fun w' (hb:Below w.heap.size w w')=>hf.behind hb)
 obtain⟨u1,u2,rfl,r1,r2,hsm⟩:=h
 have hnet:NetR w (.agg #[u1,u2]) n:=⟨u1,u2,rfl,r1,r2,hsm⟩
 have HSM:=ξh (show NetSm n from hsm)
 have HNET:=ξh (fun w' (hb:Below w.heap.size w w')=>hnet.behind hb)
 obtain⟨⟨a1,m1,c1,rfl⟩,a2,m2,c2,rfl⟩:=ξF hnet
 obtain⟨af,mf,cf,rfl,-,-,-,-⟩:=ξC (m:=2) (enc:=fmE) (fun _=>rfl) (by omega) ξJ hf
 obtain⟨ag,mg,cg,rfl,HNG,hcg,hmg,hag⟩:=ξC (m:=6) (enc:=groE) (fun _=>rfl) (by omega) nilG hg
 have HAG:=ξh hag
 have HPO:=ξh (show ξR n fs gs=if fmOk fs&&ξQ n gs then runP n fs gs 8 else none from rfl)
 have HGP:=ξh (fun h=>@ξaN n gs h)
 have HB1:=ξh (box4_facts w (.cells #[.slice a1 m1 c1,.slice a2 m2 c2] 35) (.cells #[.slice none 0 0,.slice none 0 0] 95) (.cells #[] 3) (.cells #[.slice none 0 0,.slice (some ⟨w.heap.size+1+1,0,none⟩) 0 0] 95))
 clear hag r1 r2 hsm hnet hf hg hNP
 generalize hokf:fmOk fs=okf at HVF HPO
 generalize hokg:ξQ n gs=okg at HVG HPO HGP
 have HOKF:=ξh hokf
 clear hokf hokg
 go_enter Tryz.func58,Tryz.ntmps58
 go_upto_region 2 with fail
 generalize (((w.alloc (.cells #[.slice a1 m1 c1,.slice a2 m2 c2] 35)).alloc (.cells #[.slice none 0 0,.slice none 0 0] 95)).alloc (.cells #[] 3)).alloc (.cells #[.slice none 0 0,.slice (some ⟨w.heap.size+1+1,0,none⟩) 0 0] 95)=w1 at *
 obtain⟨b1,g0,g1,g2,g3,hz1⟩:=HB1.out
 have HB:=ξh b1
 have HK0:=ξh g0
 have HK1:=ξh g1
 have HK2:=ξh g2
 have HK3:=ξh g3
 have HZ1:=ξh hz1
 have y0:=blkc g0 (j:=0) (u:= .slice a1 m1 c1) rfl
 have y1:=blkc g0 (j:=1) (u:= .slice a2 m2 c2) rfl
 clear b1 g0 g1 g2 g3 hz1
 go_wp2_with fail
 refine(HVG.out w1 HB.out).mono ?_
 rintro e w2 ⟨rfl,b2⟩
 have HB2:=ξh (HB.trans (b2.mono HB.size))
 have HBB2:=ξh b2
 clear b2 y0 y1
 cases okg
 · have HNO:=ξh (show ξR n fs gs=none from by rw[HPO.out];cases okf <;> rfl)
   clear HPO
   have HFB:=ξh HB2.out
   have hbr:=ξA HK3.out HBB2.out
   have hb6:=ξA HK1.out HBB2.out
   have kc0:=blkc hbr (j:=0) (u:= .slice none 0 0) rfl
   have kc1:=blkc hbr (j:=1) (u:= .slice (some ⟨w.heap.size+1+1,0,none⟩) 0 0) rfl
   have z0:=blkc hb6 (j:=0) (u:= .slice none 0 0) rfl
   have z1:=blkc hb6 (j:=1) (u:= .slice none 0 0) rfl
   have f0:w2.frozen? ⟨w.heap.size+1,0,none⟩=false:=ξz _ _ _ _ _ hb6
   have f1:w2.frozen? ⟨w.heap.size+1,1,none⟩=false:=ξz _ _ _ _ _ hb6
   obtain⟨q1,q2⟩:=ξav (.slice none 0 0) (.slice (some ⟨w.heap.size+1+1,0,none⟩) 0 0) hb6
   have HQ1:=ξh q1
   have HQ2:=ξh (q2 w.heap.size w (Nat.le_succ _) HFB.out)
   clear hbr hb6 q1 q2
   go_wp2_with fail
   generalize (w2.setCell ⟨w.heap.size+1,0,none⟩ (.slice none 0 0)).setCell ⟨w.heap.size+1,1,none⟩ (.slice (some ⟨w.heap.size+1+1,0,none⟩) 0 0)=wz at *
   have t0:=blkc HQ1.out (j:=0) (u:= .slice none 0 0) rfl
   have t1:=blkc HQ1.out (j:=1) (u:= .slice (some ⟨w.heap.size+1+1,0,none⟩) 0 0) rfl
   rw[HNP.out]
   exact bodyPost_ret (v:= .tuple #[.agg #[.slice none 0 0,.slice (some ⟨w.heap.size+1+1,0,none⟩) 0 0],.bool false]) (by simp[results,Tryz.results58,go_sem,t0,t1]) rfl (ple_none HNO.out HQ2.out)
 go_wp2_with fail
 refine(HVF.out w2 HB2.out).mono ?_
 rintro e w3 ⟨rfl,b3⟩
 have HB3:=ξh (HB2.trans (b3.mono HB2.size))
 have HBB3:=ξh (HBB2.trans (b3.mono HBB2.size))
 clear b3
 cases okf
 · have HNO:=ξh (show ξR n fs gs=none from HPO.out)
   clear HPO
   have HFB:=ξh HB3.out
   have hbr:=ξA HK3.out HBB3.out
   have hb6:=ξA HK1.out HBB3.out
   have kc0:=blkc hbr (j:=0) (u:= .slice none 0 0) rfl
   have kc1:=blkc hbr (j:=1) (u:= .slice (some ⟨w.heap.size+1+1,0,none⟩) 0 0) rfl
   have z0:=blkc hb6 (j:=0) (u:= .slice none 0 0) rfl
   have z1:=blkc hb6 (j:=1) (u:= .slice none 0 0) rfl
   have f0:w3.frozen? ⟨w.heap.size+1,0,none⟩=false:=ξz _ _ _ _ _ hb6
   have f1:w3.frozen? ⟨w.heap.size+1,1,none⟩=false:=ξz _ _ _ _ _ hb6
   obtain⟨q1,q2⟩:=ξav (.slice none 0 0) (.slice (some ⟨w.heap.size+1+1,0,none⟩) 0 0) hb6
   have HQ1:=ξh q1
   have HQ2:=ξh (q2 w.heap.size w (Nat.le_succ _) HFB.out)
   clear hbr hb6 q1 q2
   go_wp2_with fail
   generalize (w3.setCell ⟨w.heap.size+1,0,none⟩ (.slice none 0 0)).setCell ⟨w.heap.size+1,1,none⟩ (.slice (some ⟨w.heap.size+1+1,0,none⟩) 0 0)=wz at *
   have t0:=blkc HQ1.out (j:=0) (u:= .slice none 0 0) rfl
   have t1:=blkc HQ1.out (j:=1) (u:= .slice (some ⟨w.heap.size+1+1,0,none⟩) 0 0) rfl
   rw[HNP.out]
   exact bodyPost_ret (v:= .tuple #[.agg #[.slice none 0 0,.slice (some ⟨w.heap.size+1+1,0,none⟩) 0 0],.bool false]) (by simp[results,Tryz.results58,go_sem,t0,t1]) rfl (ple_none HNO.out HQ2.out)
 obtain⟨hn,hgp⟩:=HGP.out (by first | exact rfl | trivial)
 have HPOK:=ξh (show ξR n fs gs=runP n fs gs 8 from HPO.out)
 have HCN:=ξh (fun(v':Value) (ls:List Lgt) (d:Dem) (id:Int) (w':World) (hb:Below w.heap.size w w') (h:PlnR w' v' ⟨n,ls⟩) (h3:demOk d n.ns.length=true) (h4:LsK n ls)=>l26Light_any v' (.slice af mf cf) ⟨n,ls⟩ fs d id w' h (HRF.out w' hb) hn HOKF.out h3 (h4.lgo hn))
 have HWU:=ξh (fun(v':Value) (ls:List Lgt) (i:Nat) (w':World) (h:PlnR w' v' ⟨n,ls⟩) (hi:i<ls.length) (h4:LsK n ls)=>l9WithoutG_any v' ⟨n,ls⟩ i w' h hi (ξs (ξM hn).2.1 (by decide)) (ξs (ξM hn).2.2.1 (by decide)) (ξs h4.1 (by decide)) (h4.fb9 hn))
 have HWT:=ξh (fun(v' fv:Value) (ls:List Lgt) (x:Lgt) (w':World) (h:PlnR w' v' ⟨n,ls⟩) (hx:Rd w' fv x.fb) (hxl:x.fb.length≤900000) (h4:LsK n ls)=>l9PutG_any v' fv ⟨n,ls⟩ x w' h hx hxl (ξs (ξM hn).2.1 (by decide)) (ξs (ξM hn).2.2.1 (by decide)) (ξs h4.1 (by decide)) (h4.fb9 hn))
 have HCP:=ξh (fun(v':Value) (ls:List Lgt) (w':World) (h:PlnR w' v' ⟨n,ls⟩) (h4:LsK n ls)=>ξc6 v' ⟨n,ls⟩ w' h (ξs (ξM hn).2.1 (by decide)) (ξs (ξM hn).2.2.1 (by decide)) (ξs h4.1 (by decide)) (h4.fb9 hn))
 have HOW:=ξh (fun w' (hb:Below w.heap.size w w')=>l2Own_any (.slice a1 m1 c1) (.slice a2 m2 c2) n w' (HNET.out w' hb) (ξs (ξM hn).2.1 (by decide)) (ξs (ξM hn).2.2.1 (by decide)))
 have hmg12:mg≤12:=by rw[←HNG.out];exact hgp.1
 have HGK:=ξh hgp
 have HN:=ξh hn
 have hk0:=ξA HK0.out HBB3.out
 have y0:=blkc hk0 (j:=0) (u:= .slice a1 m1 c1) rfl
 have y1:=blkc hk0 (j:=1) (u:= .slice a2 m2 c2) rfl
 clear hn hgp HVF HVG HPO HGP HB1 HB HB2 HBB2 hcg hmg hk0
 go_wp2_with fail
 refine(HOW.out w3 HB3.out).mono ?_
 rintro e w4 ⟨v4,fp,rfl,ho,hnd,hlt,b4⟩
 obtain⟨a5,n5,c5,a6,n6,c6,rfl⟩:=ho.form
 have HPG:=ξh (show PlG w4 w3.heap.size w4.heap.size (.slice a5 n5 c5) (.slice a6 n6 c6) (.slice none 0 0) ⟨n,[]⟩ fp from⟨ho,hnd,hlt,⟨b4.size,ξr _⟩,grw_nil _ _ _ _⟩)
 have HB4:=ξh (HB3.trans (b4.mono HB3.size))
 have HBB4:=ξh (HBB3.trans (b4.mono HBB3.size))
 obtain⟨R,hR⟩:∃R:Nat→Prop,R=fun k=>k=w.heap.size+1∨k=w.heap.size+1+1+1∨k=w4.heap.size:=⟨_,rfl⟩
 have hz13:w.heap.size+1+1+1+1≤w3.heap.size:=by have:=HZ1.out;have:=HBB3.size;omega
 have hz34:=b4.size
 have hpgb:=PgB.start2 (R:=R) (b0:=w.heap.size+1+1) HPG.out HSM.out HB4.out (by rw[hR];exact .inr (.inr rfl)) (fun k hk=>by rw[hR] at hk;rcases hk with e | e | e <;> omega) (ξA HK2.out HBB4.out) ⟨by omega,by omega⟩ (by rw[hR];rintro(e | e | e) <;> omega)
 have HG0:=ξh hpgb
 have hal:=(ξb w4.heap.size w4).alloc (ξr _) (.cells #[.slice a5 n5 c5,.slice a6 n6 c6,.slice none 0 0] 75)
 have HR6:=ξh (show R (w.heap.size+1)∧R (w.heap.size+1+1+1) from by rw[hR];exact⟨.inl rfl,.inr (.inl rfl)⟩)
 have HX6:=ξh (ξA (ξA HK1.out HBB4.out) hal)
 have HX8:=ξh (ξA (ξA HK3.out HBB4.out) hal)
 have HNE:=ξh (show w.heap.size+1+1+1<w4.heap.size from by omega)
 clear ho hnd hlt b4 hpgb hal hz13 hz34 hR y0 y1 HPG HB3 HBB3 HBB4 HB4
 go_wp2_with fail
 obtain⟨bp,hbp⟩:∃bp,bp=w4.heap.size:=⟨_,rfl⟩
 rw[←hbp] at HG0 HNE ⊢
 generalize w4.alloc (.cells #[.slice a5 n5 c5,.slice a6 n6 c6,.slice none 0 0] 75)=w5 at *
 generalize (some ⟨w.heap.size+1+1,0,none⟩:Option Addr)=ab0 at *
 clear hbp HK0 HK1 HK2 HK3 HZ1 HNET
 obtain⟨br,hbr⟩:∃br,br=w.heap.size+1+1+1:=⟨_,rfl⟩
 rw[←hbr] at HX8 HR6 HNE ⊢
 have HBR:=ξh hbr
 clear hbr
 go_loopw [10] (fun i wr=>∃(t:Nat) (aq:Option Addr) (cs:Nat) (ab:Option Addr) (nb cb:Nat) (psL:List (List Lgt)) (r:PRun),t≤8∧i= .int .i64 t∧Hid (wr.heap[br]?= some (.cells #[.slice aq t cs,.slice ab nb cb] 95 (0,0)))∧Hid (wr.heap[w.heap.size+1]?= some (.cells #[.slice none 0 0,.slice none 0 0] 95 (0,0)))∧Hid (runP n fs gs t=some (psL,r))∧Hid (PgB w wr R bp (.slice aq t cs) (.slice ab nb cb) ⟨n,r.ls⟩ t (psL.map (Pln.mk n)) (ust r.bl))) (fun i _=>8-(intOf i).toNat)
 case atStart=>exact⟨0,none,0,ab0,0,0,[],⟨[],[]⟩,by omega,rfl,HX8.out,HX6.out,rfl,by rw[show ust ([]:List Int)=[] from List.eq_nil_of_length_eq_zero (by have:=ust_len [];simpa using this)];exact HG0.out⟩
 case round=>
  clear HG0 HX6 HX8
  obtain⟨t,aq,cs,ab,nb,cb,psL,r,ht,rfl,HXR,HX6,HRP,HPG⟩:=hrel
  by_cases hlt:t<8
  · have hltI:(t:Int)<8:=by omega
    have HNXT:=ξh (show runP n fs gs (t+1)=(match addA n fs gs t (some ⟨delA gs t r.ls gs.length,r.bl⟩) gs.length with | none=>none | some r2=>some (psL++[r2.ls],r2)) from by rw[runP,HRP.out];rfl)
    have HROK:=ξh ((ξaz HGK.out HRP.out).1)
    have HLS0:=ξh (runP_lsk HGK.out HRP.out)
    obtain⟨D,hD⟩:∃D:Nat→List Lgt,D=fun k=>delA gs t r.ls k:=⟨_,rfl⟩
    have HD:=ξh hD
    have HD0:=ξh (show D 0=r.ls by rw[hD];rfl)
    have HDK:=ξh (show∀k,LsK n (D k) from fun k=>by rw[hD];exact HLS0.sub (ξaP gs t r.ls k))
    obtain⟨tm,htm⟩:∃tm,tm=(t:Int)-1:=⟨_,rfl⟩
    have htw:IntKind.i64.wrap ((t:Int)-1)=tm:=by rw[htm];exact ξi _ (by omega)
    have htv:wrap64 ((t:Int)-1)=tm:=by rw[htm];exact ξw _ (by omega)
    have HDS:=ξh (show∀k,D (k+1)=if(gs[k]?.getD nilG).e=tm∧0≤lix ⟨n,D k⟩ ((k:Int)+1) then(D k).eraseIdx (lix ⟨n,D k⟩ ((k:Int)+1)).toNat else D k from fun k=>by rw[hD];rw[htm];exact(ξbI gs t r.ls k).trans (delP_lix n gs t _ k))
    clear hD htm
    go_wp2_with fail
    obtain⟨wo,hwo⟩:∃wo,wo=wr:=⟨_,rfl⟩
    subst hwo
    go_loopw [11] (fun i wr=>∃k:Nat,k≤mg∧i= .int .i64 k∧Hid (wr.heap[br]?= some (.cells #[.slice aq t cs,.slice ab nb cb] 95 (0,0)))∧Hid (wr.heap[w.heap.size+1]?= some (.cells #[.slice none 0 0,.slice none 0 0] 95 (0,0)))∧Hid (PgB w wr R bp (.slice aq t cs) (.slice ab nb cb) ⟨n,D k⟩ t (psL.map (Pln.mk n)) (ust r.bl))) (fun i _=>mg-(intOf i).toNat)
    case atStart=>exact⟨0,by omega,rfl,HXR.out,HX6.out,by rw[HD0.out];exact HPG.out⟩
    case round=>
     obtain⟨k,hk,rfl,HXR2,HX62,HPG2⟩:=hrel
     by_cases hltk:k<mg
     · have hltkI:(k:Int)<(mg:Int):=by omega
       obtain⟨b,off,rfl,hbs,hcs⟩:=HAG.out (by omega)
       have HBE:=ξh HPG2.bel
       have c5:=(HBE.cell (p:=⟨b,off+k*6+5,none⟩) hbs).trans (hcs k hltk 5 _ rfl)
       have HDX:=ξh (HDS.out k)
       generalize gs[k]?.getD nilG=g at *
       obtain⟨hRb,e1,n1,d1,e2,n2,d2,e3,n3,d3,hbx,hpg⟩:=HPG2.out
       have HPR:=ξh (hpg.pl.rd HBE.out)
       have HBX:=ξh hbx
       have HC5:=ξh c5
       clear hpg hcs c5
       have y0:=blkc hbx (j:=0) (u:= .slice e1 n1 d1) rfl
       have y1:=blkc hbx (j:=1) (u:= .slice e2 n2 d2) rfl
       have y2:=blkc hbx (j:=2) (u:= .slice e3 n3 d3) rfl
       have hbw:b<wr.heap.size:=ξq hbs HBE.size
       clear hbx
       go_wp2_with fail
       refine(l9Find_any _ ⟨n,D k⟩ ((k:Int)+1) wr HPR.out).mono ?_
       rintro e w6 ⟨rfl,b6⟩
       have HB6:=ξh b6
       have z5:=(b6.cell (p:=⟨b,off+k*6+5,none⟩) hbw).trans HC5.out
       clear b6 y0 y1 y2
       have HP6:=ξh (HPR.behind HB6.out)
       have HPG6:=ξh (HPG2.below HB6.out)
       have HXR6:=ξh (ξA HXR2.out HB6.out)
       have HX66:=ξh (ξA HX62.out HB6.out)
       have hqb:=lix_bd ⟨n,D k⟩ ((k:Int)+1)
       have HQB:=ξh hqb
       have HDK1:=ξh (HDK.out k)
       generalize lix ⟨n,D k⟩ ((k:Int)+1)=q at *
       by_cases he:g.e=tm
       · have heB:(g.e==tm)=true:=by simpa using he
         by_cases hq:0≤q
         · have hqB:decide (0≤q)=true:=ξt hq
           have HDN:=ξh (show D (k+1)=(D k).eraseIdx q.toNat from by rw[HDX.out,if_pos ⟨he,hq⟩])
           obtain⟨qi,rfl⟩:=Int.eq_ofNat_of_zero_le hq
           rw[Int.toNat_natCast] at HDN
           have HX:=ξh (ξA HBX.out HB6.out)
           have y0:=blkc HX.out (j:=0) (u:= .slice e1 n1 d1) rfl
           have y1:=blkc HX.out (j:=1) (u:= .slice e2 n2 d2) rfl
           have y2:=blkc HX.out (j:=2) (u:= .slice e3 n3 d3) rfl
           have hqi:qi<(D k).length:=by have:=HQB.2;simpa using this
           clear hqb
           go_wp2_with fail
           refine(HWU.out _ (D k) qi w6 HP6.out hqi HDK1.out).mono ?_
           rintro e w7 ⟨u1,u2,u3,B,fp,rfl,hG,b7⟩
           obtain⟨⟨e4,n4,d4,rfl⟩,⟨e5,n5,d5,rfl⟩,e6,n6,d6,rfl⟩:=hG.slices
           have hx7:=ξA HX.out b7
           have f0:w7.frozen? ⟨bp,0,none⟩=false:=ξz _ _ _ _ _ hx7
           have f1:w7.frozen? ⟨bp,1,none⟩=false:=ξz _ _ _ _ _ hx7
           have f2:w7.frozen? ⟨bp,2,none⟩=false:=ξz _ _ _ _ _ hx7
           clear y0 y1 y2
           have y0:=blkc hx7 (j:=0) (u:= .slice e1 n1 d1) rfl
           have y1:=blkc hx7 (j:=1) (u:= .slice e2 n2 d2) rfl
           have y2:=blkc hx7 (j:=2) (u:= .slice e3 n3 d3) rfl
           have HNEW:=ξh (HPG6.put b7 hG HSM.out)
           rw[←HDN.out] at HNEW
           obtain⟨-,q2,-,-⟩:=ξaq (.slice e4 n4 d4) (.slice e5 n5 d5) (.slice e6 n6 d6) hx7
           have HXR7:=ξh ((q2 br (by have:=HNE.out;omega)).trans (ξA HXR6.out b7))
           have HX67:=ξh ((q2 (w.heap.size+1) (by have:=HNE.out;have:=HBR.out;omega)).trans (ξA HX66.out b7))
           clear hG b7 hx7 q2
           go_wp2_with fail
           generalize ((w7.setCell ⟨bp,0,none⟩ (.slice e4 n4 d4)).setCell ⟨bp,1,none⟩ (.slice e5 n5 d5)).setCell ⟨bp,2,none⟩ (.slice e6 n6 d6)=w8 at *
           go_roundw
           case rel=>exact⟨k+1,by omega,by go_num,HXR7.out,HX67.out,HNEW.out⟩
           case measure=>simp[intOf];omega
         · have hqB:decide (0≤q)=false:=ξf hq
           have HDN:=ξh (show D (k+1)=D k from by rw[HDX.out,if_neg (fun h=>hq h.2)])
           go_wp2
           go_roundw
           case rel=>exact⟨k+1,by omega,by go_num,HXR6.out,HX66.out,by rw[HDN.out];exact HPG6.out⟩
           case measure=>simp[intOf];omega
       · have heB:(g.e==tm)=false:=by simpa using he
         have HDN:=ξh (show D (k+1)=D k from by rw[HDX.out,if_neg (fun h=>he h.1)])
         go_wp2
         go_roundw
         case rel=>exact⟨k+1,by omega,by go_num,HXR6.out,HX66.out,by rw[HDN.out];exact HPG6.out⟩
         case measure=>simp[intOf];omega
     · obtain rfl:mg=k:=by omega
       have HGE:=HNG.out
       obtain⟨AA,hAA⟩:∃AA:Nat→Option PRun,AA=fun k=>addA n fs gs t (some ⟨delA gs t r.ls gs.length,r.bl⟩) k:=⟨_,rfl⟩
       have HA0:=ξh (show AA 0=some ⟨D mg,r.bl⟩ from by rw[hAA,HD.out,HGE];rfl)
       have HAS:=ξh (show∀k,AA (k+1)=addP n fs gs t (AA k) k from fun k=>by rw[hAA];exact ξaV _ _ _ _ _ _)
       have HAK:=ξh (show∀k r2,k≤mg→AA k=some r2→LsK n r2.ls∧r2.bl.length≤1000 from fun k r2 hk e=>by
        rw[hAA] at e
        have h1:=(ξbw HGK.out HROK.out (by omega) e).1.lsk HGK.out
        have h2:=addA_bll e
        have h3:=runP_bll HRP.out
        have h4:=HGK.1
        have h5:t * gs.length≤8*12:=Nat.mul_le_mul (by omega) h4
        have h6:r2.bl.length≤r.bl.length+k:=h2
        exact⟨h1,by omega⟩)
       have HFAIL:=ξh (show∀k,k≤mg→AA k=none→ξR n fs gs=none from fun k hk e=>by
        rw[HPOK.out]
        refine runP_fail (j:=t+1) ?_ (by omega)
        rw[hAA] at e
        rw[HNXT.out,addA_fail n fs gs t e (show k≤gs.length by omega)])
       have HNX2:=ξh (show∀r2,AA mg=some r2→runP n fs gs (t+1)=some (psL++[r2.ls],r2) from fun r2 e=>by
        rw[hAA] at e
        simp only at e
        rw[HGE] at e
        rw[HNXT.out,HGE,e])
       have HDM:=ξh (show∀k,k<mg→demOk (gs[k]?.getD nilG).d n.ns.length=true from fun k hk=>(HGK.2 k (by omega)).1)
       clear hAA HGE HNXT HROK HDS htw htv HLS0 HD0 HDK
       obtain⟨wo2,hwo2⟩:∃wo2,wo2=wr:=⟨_,rfl⟩
       subst hwo2
       go_wp2_with fail
       go_loopw [13] (fun i wr=>∃(k:Nat) (ab:Option Addr) (nb cb:Nat) (r2:PRun),k≤mg∧i= .int .i64 k∧Hid (wr.heap[br]?= some (.cells #[.slice aq t cs,.slice ab nb cb] 95 (0,0)))∧Hid (wr.heap[w.heap.size+1]?= some (.cells #[.slice none 0 0,.slice none 0 0] 95 (0,0)))∧Hid (AA k=some r2)∧Hid (PgB w wr R bp (.slice aq t cs) (.slice ab nb cb) ⟨n,r2.ls⟩ t (psL.map (Pln.mk n)) (ust r2.bl))) (fun i _=>mg-(intOf i).toNat)
       case atStart=>exact⟨0,_,_,_,_,by omega,rfl,HXR2.out,HX62.out,HA0.out,HPG2.out⟩
       case round=>
        obtain⟨k,ab3,nb3,cb3,r2,hk,rfl,HXR3,HX63,HAE,HPG3⟩:=hrel
        by_cases hltk:k<mg
        · have hltkI:(k:Int)<(mg:Int):=by omega
          obtain⟨b,off,rfl,hbs,hcs⟩:=HAG.out (by omega)
          have HBE:=ξh HPG3.bel
          have hcw:=fun(r:Nat) (u:Value) (hu:(groE (gs[k]?.getD nilG))[r]?= some u)=>(HBE.cell (p:=⟨b,off+k*6+r,none⟩) hbs).trans (hcs k hltk r u hu)
          have c0:=hcw 0 _ rfl
          have c1':=hcw 1 _ rfl
          have c2':=hcw 2 _ rfl
          have c3':=hcw 3 _ rfl
          have c4':=hcw 4 _ rfl
          simp only[Nat.add_zero] at c0
          have HDM1:=ξh (HDM.out k hltk)
          obtain⟨hlk,hbl⟩:=HAK.out k r2 hk HAE.out
          have HLK:=ξh hlk
          have HBL:=ξh hbl
          have HS:=ξh (show AA (k+1)=addP n fs gs t (some r2) k from by rw[HAS.out,HAE.out])
          unfold addP at HS
          simp only at HS
          have hbw:b<wr.heap.size:=ξq hbs HBE.size
          clear hcw hcs hlk hbl
          generalize gs[k]?.getD nilG=g at *
          by_cases hs:g.s=(t:Int)
          · have hsB:(g.s==(t:Int))=true:=by simpa using hs
            have hsN:(g.s != (t:Int))=false:=by simpa using hs
            have HS1:=ξh (show AA (k+1)=_ from by rw[HS.out,if_neg (not_not_intro hs)])
            obtain⟨hRb,e1,n1,d1,e2,n2,d2,e3,n3,d3,hbx,hpg⟩:=HPG3.out
            have HPR:=ξh (hpg.pl.rd HBE.out)
            have HBX:=ξh hbx
            clear hpg hbx hs HS
            go_wp2_with fail
            have HCN1:=ξh (fun w' (hb:Below wr.heap.size wr w')=>HCN.out (.agg #[.slice e1 n1 d1,.slice e2 n2 d2,.slice e3 n3 d3]) r2.ls g.d ((k:Int)+1) w' (HBE.trans (hb.mono HBE.size)) (HPR.behind hb) HDM1.out HLK.out)
            unfold demV at HCN1
            have hkw:IntKind.i64.wrap ((k:Int)+1)=(k:Int)+1:=ξi _ (by omega)
            have HCL:=ξh (fun(w':World) (hb:Below wr.heap.size wr w')=>show w'.cell? ⟨bp,0,none⟩=some (.slice e1 n1 d1)∧w'.cell? ⟨bp,1,none⟩=some (.slice e2 n2 d2)∧w'.cell? ⟨bp,2,none⟩=some (.slice e3 n3 d3)∧w'.cell? ⟨b,off+k*6,none⟩=some (.int .i64 g.d.a)∧w'.cell? ⟨b,off+k*6+1,none⟩=some (.int .i64 g.d.b)∧w'.cell? ⟨b,off+k*6+2,none⟩=some (.int .i64 g.d.r)∧w'.cell? ⟨b,off+k*6+3,none⟩=some (.int .i64 g.d.c) from
             have hz:∀j v,wr.cell? ⟨b,j,none⟩=some v→w'.cell? ⟨b,j,none⟩=some v:=fun j v h=>(hb.cell (p:=⟨b,j,none⟩) hbw).trans h
             ⟨blkc (ξA HBX.out hb) rfl,blkc (ξA HBX.out hb) rfl,blkc (ξA HBX.out hb) rfl,hz _ _ c0,hz _ _ c1',hz _ _ c2',hz _ _ c3'⟩)
            clear c0 c1' c2' c3' c4' hsB hsN
            refine ξH [0,1,2,3,4,5,6,7,8,9,10,11,12,13,14,15,16,17] (S:=fun w'=>w'.cell? ⟨bp,0,none⟩=some (.slice e1 n1 d1)∧w'.cell? ⟨bp,1,none⟩=some (.slice e2 n2 d2)∧w'.cell? ⟨bp,2,none⟩=some (.slice e3 n3 d3)∧w'.cell? ⟨b,off+k*6,none⟩=some (.int .i64 g.d.a)∧w'.cell? ⟨b,off+k*6+1,none⟩=some (.int .i64 g.d.b)∧w'.cell? ⟨b,off+k*6+2,none⟩=some (.int .i64 g.d.r)∧w'.cell? ⟨b,off+k*6+3,none⟩=some (.int .i64 g.d.c)) (by kernel_rfl) (HCL.out _ (ξb _ _).drew) (fun hH=> ?_)
            have BL:Below wr.heap.size wr wr.drew:=(ξb _ _).drew
            obtain⟨wc,hwc⟩:∃wc,wc=wr.drew:=⟨_,rfl⟩
            rw[←hwc] at BL hH ⊢
            clear hwc
            refine hlF 0 rfl hH ?_
            try simp only[Act.put,hlA,hlB,hlC]
            refine hlF 1 rfl hH ?_
            try simp only[Act.put,hlA,hlB,hlC]
            refine hlF 2 rfl hH ?_
            try simp only[Act.put,hlA,hlB,hlC]
            refine hlF 3 rfl hH ?_
            try simp only[Act.put,hlA,hlB,hlC]
            refine hlF 4 rfl hH ?_
            try simp only[Act.put,hlA,hlB,hlC]
            refine hlF 5 rfl hH ?_
            try simp only[Act.put,hlA,hlB,hlC]
            refine hlF 6 rfl hH ?_
            try simp only[Act.put,hlA,hlB,hlC]
            refine hlF 7 rfl hH ?_
            try simp only[Act.put,hlA,hlB,hlC]
            refine hlF 8 rfl hH ?_
            try simp only[Act.put,hlA,hlB,hlC]
            refine ξB (rs:=[9,14]) (by kernel_rfl) (by simp) ?_
            refine AllReadyL.cons rfl (fun KK hKK=> ?_) (AllReadyL.cons rfl (fun KK hKK=> ?_) AllReadyL.nil)
            go_simp
            go_at_call 105
            refine(HCN1.out _ BL).mono ?_
            rintro e wn ⟨b84,x0,x1,ax,nx,cx,x3,x4,fo,ok,rfl,hlit⟩
            have K14L:wr.heap.size≤wc.heap.size:=BL.size
            have HLT:=ξh (show∃lo wq,LitR n fs g.d r2.ls ((k:Int)+1) lo wq x0 x1 (.slice ax nx cx) x3 x4 fo ok∧Below wq.heap.size wq wn∧(wq=wn) from⟨_,_,hlit,ξb _ _,rfl⟩)
            skip
            have BL:=BL.trans (b84.mono BL.size)
            clear b84 hlit K14L
            obtain⟨wc,hwc⟩:∃wc,wc=wn:=⟨_,rfl⟩
            subst hwc
            refine hKK.out _ _ (HCL.out _ BL) (fun hH=> ?_)
            clear hKK KK
            try simp only[Act.put,hlA,hlB,hlC]
            have R9:True:=trivial
            refine hlF 10 rfl hH ?_
            try simp only[Act.put,hlA,hlB,hlC]
            refine hlF 11 rfl hH ?_
            try simp only[Act.put,hlA,hlB,hlC]
            refine hlF 12 rfl hH ?_
            try simp only[Act.put,hlA,hlB,hlC]
            refine hlF 13 rfl hH ?_
            try simp only[Act.put,hlA,hlB,hlC]
            rotate_left 1
            go_simp
            obtain⟨bl,hbl⟩:∃bb,bb=wc.heap.size:=⟨_,rfl⟩
            have BA:Below wc.heap.size wc (wc.alloc (.cells #[.int .i64 0,.int .i64 0,.slice none 0 0,.int .i64 0,.int .i64 0] 86)):=(ξb _ _).alloc (ξr _) _
            have K14:=ξn wc (.cells #[.int .i64 0,.int .i64 0,.slice none 0 0,.int .i64 0,.int .i64 0] 86)
            have Y14:wr.heap.size≤bl:=by rw[hbl];exact BL.size
            skip
            rw[←hbl] at K14 ⊢
            have K14:=ξh K14
            have BL:=BL.trans (BA.mono BL.size)
            clear hbl BA
            generalize wc.alloc (.cells #[.int .i64 0,.int .i64 0,.slice none 0 0,.int .i64 0,.int .i64 0] 86)=wn at *
            obtain⟨wc,hwc⟩:∃wc,wc=wn:=⟨_,rfl⟩
            subst hwc
            refine hKK.out _ _ (HCL.out _ BL) (fun hH=> ?_)
            clear hKK KK
            try simp only[Act.put,hlA,hlB,hlC]
            have R14:True:=trivial
            rotate_left 1
            all_goals
             first
              | have hD:True:=R9
                clear hD
                refine ξB (rs:=[14]) (by kernel_rfl) (by simp) ?_
                refine AllReadyL.cons rfl (fun KK hKK=> ?_) AllReadyL.nil
                go_simp
                obtain⟨bl,hbl⟩:∃bb,bb=wc.heap.size:=⟨_,rfl⟩
                have BA:Below wc.heap.size wc (wc.alloc (.cells #[.int .i64 0,.int .i64 0,.slice none 0 0,.int .i64 0,.int .i64 0] 86)):=(ξb _ _).alloc (ξr _) _
                have K14:=ξn wc (.cells #[.int .i64 0,.int .i64 0,.slice none 0 0,.int .i64 0,.int .i64 0] 86)
                have Y14:wr.heap.size≤bl:=by rw[hbl];exact BL.size
                have HLT:=ξh (show∃lo wq,LitR n fs g.d r2.ls ((k:Int)+1) lo wq x0 x1 (.slice ax nx cx) x3 x4 fo ok∧Below wq.heap.size wq (wc.alloc (.cells #[.int .i64 0,.int .i64 0,.slice none 0 0,.int .i64 0,.int .i64 0] 86))∧(bl<lo∨wq.heap.size≤bl) from by obtain⟨lo,wq,h1,h2,h3⟩:=HLT.out;exact⟨lo,wq,h1,h2.trans (BA.mono h2.size),.inr (by rw[h3,hbl];exact ξr _)⟩)
                rw[←hbl] at K14 ⊢
                have K14:=ξh K14
                have BL:=BL.trans (BA.mono BL.size)
                clear hbl BA
                generalize wc.alloc (.cells #[.int .i64 0,.int .i64 0,.slice none 0 0,.int .i64 0,.int .i64 0] 86)=wn at *
                obtain⟨wc,hwc⟩:∃wc,wc=wn:=⟨_,rfl⟩
                subst hwc
                refine hKK.out _ _ (HCL.out _ BL) (fun hH=> ?_)
                clear hKK KK
                try simp only[Act.put,hlA,hlB,hlC]
                have R14:True:=trivial
              | have hD:True:=R14
                clear hD
                refine ξB (rs:=[9]) (by kernel_rfl) (by simp) ?_
                refine AllReadyL.cons rfl (fun KK hKK=> ?_) AllReadyL.nil
                go_simp
                go_at_call 105
                refine(HCN1.out _ BL).mono ?_
                rintro e wn ⟨b84,x0,x1,ax,nx,cx,x3,x4,fo,ok,rfl,hlit⟩
                have K14L:bl<wc.heap.size:=(ξa K14.out).1
                have HLT:=ξh (show∃lo wq,LitR n fs g.d r2.ls ((k:Int)+1) lo wq x0 x1 (.slice ax nx cx) x3 x4 fo ok∧Below wq.heap.size wq wn∧(bl<lo) from⟨_,_,hlit,ξb _ _,K14L⟩)
                have K14:=ξh (ξA K14.out b84)
                have BL:=BL.trans (b84.mono BL.size)
                clear b84 hlit K14L
                obtain⟨wc,hwc⟩:∃wc,wc=wn:=⟨_,rfl⟩
                subst hwc
                refine hKK.out _ _ (HCL.out _ BL) (fun hH=> ?_)
                clear hKK KK
                try simp only[Act.put,hlA,hlB,hlC]
                have R9:True:=trivial
                refine hlF 10 rfl hH ?_
                try simp only[Act.put,hlA,hlB,hlC]
                refine hlF 11 rfl hH ?_
                try simp only[Act.put,hlA,hlB,hlC]
                refine hlF 12 rfl hH ?_
                try simp only[Act.put,hlA,hlB,hlC]
                refine hlF 13 rfl hH ?_
                try simp only[Act.put,hlA,hlB,hlC]
            all_goals
             refine ξB (rs:=[15]) (by kernel_rfl) (by simp) ?_
             refine AllReadyL.cons rfl (fun KK hKK=> ?_) AllReadyL.nil
             have HLT:=ξh (show∃lo wq,LitR n fs g.d r2.ls ((k:Int)+1) lo wq x0 x1 (.slice ax nx cx) x3 x4 fo ok∧Below wq.heap.size wq wc∧(bl<lo∨wq.heap.size≤bl) from by obtain⟨lo,wq,h1,h2,h3⟩:=HLT.out;exact⟨lo,wq,h1,h2,by first | exact h3 | exact .inl h3⟩)
             have g0:wc.frozen? ⟨bl,0,none⟩=false:=ξz _ _ _ _ _ K14.out
             have g1:wc.frozen? ⟨bl,1,none⟩=false:=ξz _ _ _ _ _ K14.out
             have g2:wc.frozen? ⟨bl,2,none⟩=false:=ξz _ _ _ _ _ K14.out
             have g3:wc.frozen? ⟨bl,3,none⟩=false:=ξz _ _ _ _ _ K14.out
             have g4:wc.frozen? ⟨bl,4,none⟩=false:=ξz _ _ _ _ _ K14.out
             have z0:=blkc K14.out (j:=0) (u:= .int .i64 0) rfl
             have z1:=blkc K14.out (j:=1) (u:= .int .i64 0) rfl
             have z2:=blkc K14.out (j:=2) (u:= .slice none 0 0) rfl
             have z3:=blkc K14.out (j:=3) (u:= .int .i64 0) rfl
             have z4:=blkc K14.out (j:=4) (u:= .int .i64 0) rfl
             obtain⟨q1,q2,q3⟩:=ξbs (.int .i64 x0) (.int .i64 x1) (.slice ax nx cx) (.int .i64 x3) (.int .i64 x4) K14.out
             have BL:=q3 wr.heap.size wr Y14 BL
             have K15:=ξh q1
             have HK15:=ξh q2
             have HSZ:=ξh (show wc.heap.size≤(((((wc.setCell ⟨bl,0,none⟩ (.int .i64 x0)).setCell ⟨bl,1,none⟩ (.int .i64 x1)).setCell ⟨bl,2,none⟩ (.slice ax nx cx)).setCell ⟨bl,3,none⟩ (.int .i64 x3)).setCell ⟨bl,4,none⟩ (.int .i64 x4)).heap.size by simp)
             go_simp
             clear g0 g1 g2 g3 g4 z0 z1 z2 z3 z4 q1 q2 q3
             generalize ((((wc.setCell ⟨bl,0,none⟩ (.int .i64 x0)).setCell ⟨bl,1,none⟩ (.int .i64 x1)).setCell ⟨bl,2,none⟩ (.slice ax nx cx)).setCell ⟨bl,3,none⟩ (.int .i64 x3)).setCell ⟨bl,4,none⟩ (.int .i64 x4)=w9 at *
             refine hKK.out _ _ (HCL.out _ BL) (fun hH=> ?_)
             clear hKK KK
             try simp only[Act.put,hlA,hlB,hlC]
             have R15:True:=trivial
            all_goals
             refine ξB (rs:=[16]) (by kernel_rfl) (by simp) ?_
             refine AllReadyL.cons rfl (fun KK hKK=> ?_) AllReadyL.nil
             go_simp
             refine hKK.out _ _ (HCL.out _ BL) (fun hH=> ?_)
             clear hKK KK
             try simp only[Act.put,hlA,hlB,hlC]
             have R16:True:=trivial
            all_goals
             refine ξG 17 rfl (by kernel_rfl) (by kernel_rfl) (fun KK hKK=> ?_)
             go_simp
             refine hKK.out _ _ ?_
             clear hKK KK
             try simp only[Act.put,hlA,hlB,hlC]
             refine ξS (by kernel_rfl) ?_ _
            all_goals
             have HPG9:=ξh (HPG3.below BL)
             have HXR9:=ξh (ξA HXR3.out BL)
             have HX69:=ξh (ξA HX63.out BL)
             have HBX9:=ξh (ξA HBX.out BL)
             have HP9:=ξh (HPR.behind BL)
             have HBE9:=ξh HPG9.bel
             obtain⟨lo,wq,hlit,hbq,hor⟩:=HLT.out
             have HRD:=ξh (fun(xs:List Int) (h1:Rd wq (.slice ax nx cx) xs) (h2:∀q,(Value.slice ax nx cx).ownBlock=some q→lo≤q)=>show Rd w9 (.slice ax nx cx) xs from
              (h1.belowAll hbq).keptB HSZ.out fun q hq=>HK15.out q (fun e=>by have:=h1.lt q hq;have:=h2 q hq;omega))
             clear hbq hor BL HLT HK15 HSZ hH
             rcases hlit with ⟨hfu,rfl⟩ | ⟨hfu,rfl,hpk⟩
             · have HNO:=ξh (HFAIL.out (k+1) hltk (by rw[HS1.out,if_pos hfu]))
               clear hfu hkw
               have HFB:=ξh HBE9.out
               have hbr:=HXR9.out
               have hb6:=HX69.out
               have kc0:=blkc hbr (j:=0) (u:= .slice aq t cs) rfl
               have kc1:=blkc hbr (j:=1) (u:= .slice ab3 nb3 cb3) rfl
               have z0:=blkc hb6 (j:=0) (u:= .slice none 0 0) rfl
               have z1:=blkc hb6 (j:=1) (u:= .slice none 0 0) rfl
               have f0:w9.frozen? ⟨w.heap.size+1,0,none⟩=false:=ξz _ _ _ _ _ hb6
               have f1:w9.frozen? ⟨w.heap.size+1,1,none⟩=false:=ξz _ _ _ _ _ hb6
               obtain⟨q1,q2⟩:=ξav (.slice aq t cs) (.slice ab3 nb3 cb3) hb6
               have HQ1:=ξh q1
               have HQ2:=ξh (q2 w.heap.size w (Nat.le_succ _) HFB.out)
               clear hbr hb6 q1 q2
               go_wp2_with fail
               generalize (w9.setCell ⟨w.heap.size+1,0,none⟩ (.slice aq t cs)).setCell ⟨w.heap.size+1,1,none⟩ (.slice ab3 nb3 cb3)=wz at *
               have t0:=blkc HQ1.out (j:=0) (u:= .slice aq t cs) rfl
               have t1:=blkc HQ1.out (j:=1) (u:= .slice ab3 nb3 cb3) rfl
               rw[HNP.out]
               exact bodyPost_ret (v:= .tuple #[.agg #[.slice aq t cs,.slice ab3 nb3 cb3],.bool false]) (by simp[results,Tryz.results58,go_sem,t0,t1]) rfl (ple_none HNO.out HQ2.out)
             · have HS2:=ξh (show AA (k+1)=_ from by rw[HS1.out,if_neg (by rw[hfu];simp)])
               clear hfu
               cases hpu:pickU n fs g.d r2.ls with
               | none=>
                 rw[hpu] at hpk
                 simp only at hpk
                 subst hpk
                 have HS3:=ξh (show AA (k+1)=some ⟨r2.ls,r2.bl++[(k:Int)]⟩ from by rw[HS2.out,hpu])
                 obtain⟨_,_,_,_,_,_,_,_,_,_,_,hpg⟩:=HPG9.out
                 have HO9:=ξh hpg.blo
                 have HBR9:=ξh (hpg.rsv br HR6.2)
                 clear hpg hpu HS2
                 have y1:=blkc HXR9.out (j:=1) (u:= .slice ab3 nb3 cb3) rfl
                 go_wp2_with fail
                 refine(l1Put_any (.slice ab3 nb3 cb3) (ust r2.bl) (k:Int) w.heap.size w9 HO9.out HBE9.size (ξs (ust_len _) HBL.out)).mono ?_
                 rintro e w10 ⟨v10,rfl,o10,l10,b10⟩
                 obtain⟨a10,m10,c10,rfl⟩:=ξag o10
                 have hxr:=ξA HXR9.out b10
                 have y2:=blkc hxr (j:=1) (u:= .slice ab3 nb3 cb3) rfl
                 have f1:w10.frozen? ⟨br,1,none⟩=false:=ξz _ _ _ _ _ hxr
                 have hnew:=HPG9.push (b':= .slice a10 m10 c10) (bl':=ust (r2.bl++[(k:Int)])) (by rw[ust_put];exact o10) ⟨b10.os,b10.tape,b10.output,b10.size,fun k' hk' _=>b10.block k' hk'⟩ l10
                 have hset:=fun j (hj:j≠br)=>ξm w10 ⟨br,1,none⟩ j (.slice a10 m10 c10) hj
                 have hsz:(w10.setCell ⟨br,1,none⟩ (.slice a10 m10 c10)).heap.size=w10.heap.size:=by simp
                 have hbel:Below w.heap.size w (w10.setCell ⟨br,1,none⟩ (.slice a10 m10 c10)):=(HBE9.trans (b10.mono HBE9.size)).setCell (p:=⟨br,1,none⟩) (by show w.heap.size≤br;exact HBR9.1) _
                 have HNEW:=ξh (hnew.stepR hbel (Nat.le_of_eq hsz.symm) (fun k' _ hk'=>hset k' (fun e=>hk' (by rw[e];exact HR6.2))) (hset bp (by have:=HNE.out;omega)))
                 have HXRN:=ξh (show(w10.setCell ⟨br,1,none⟩ (.slice a10 m10 c10)).heap[br]?= some (.cells #[.slice aq t cs,.slice a10 m10 c10] 95 (0,0)) from by rw[ξe w10 br 1 _ 95 (.slice a10 m10 c10) hxr];simp)
                 have HX6N:=ξh ((hset (w.heap.size+1) (by have:=HBR.out;omega)).trans (ξA HX69.out b10))
                 clear o10 l10 b10 hxr hnew hset hsz hbel y1
                 go_wp2_with fail
                 generalize w10.setCell ⟨br,1,none⟩ (.slice a10 m10 c10)=w11 at *
                 go_roundw
                 case rel=>exact⟨k+1,a10,m10,c10,⟨r2.ls,r2.bl++[(k:Int)]⟩,by omega,by go_num,HXRN.out,HX6N.out,HS3.out,HNEW.out⟩
                 case measure=>simp[intOf];omega
               | some ui=>
                 obtain⟨u,ix⟩:=ui
                 rw[hpu] at hpk
                 simp only at hpk
                 obtain⟨rfl,hlg,hrd,hlo⟩:=hpk
                 have HS3:=ξh (show AA (k+1)=some ⟨putL r2.ls ⟨x0,x1,u.1,x3,x4⟩,r2.bl⟩ from by rw[HS2.out,hpu,←hlg])
                 have HFL:=ξh (show u.1.length≤900000 from ξs (lgtOk_o HN.out (new_ok (u:=(u,ix)) (id:=(k:Int)+1) hpu HDM1.out (by omega) HLK.2).1).2 (by decide))
                 have HRF:=ξh (HRD.out u.1 hrd hlo)
                 have HWTX:=ξh (HWT.out (.agg #[.slice e1 n1 d1,.slice e2 n2 d2,.slice e3 n3 d3]) (.slice ax nx cx) r2.ls ⟨x0,x1,u.1,x3,x4⟩ w9 HP9.out HRF.out HFL.out HLK.out)
                 unfold lgtV at HWTX
                 clear hlg hrd hlo hpu HS2 HRD
                 have y0:=blkc HBX9.out (j:=0) (u:= .slice e1 n1 d1) rfl
                 have y1:=blkc HBX9.out (j:=1) (u:= .slice e2 n2 d2) rfl
                 have y2:=blkc HBX9.out (j:=2) (u:= .slice e3 n3 d3) rfl
                 have t0:=blkc K15.out (j:=0) (u:= .int .i64 x0) rfl
                 have t1:=blkc K15.out (j:=1) (u:= .int .i64 x1) rfl
                 have t2:=blkc K15.out (j:=2) (u:= .slice ax nx cx) rfl
                 have t3:=blkc K15.out (j:=3) (u:= .int .i64 x3) rfl
                 have t4:=blkc K15.out (j:=4) (u:= .int .i64 x4) rfl
                 go_wp2_with fail
                 refine HWTX.mono ?_
                 rintro e w10 ⟨u1,u2,u3,B,fp,rfl,hG,b10⟩
                 obtain⟨⟨e4,n4,d4,rfl⟩,⟨e5,n5,d5,rfl⟩,e6,n6,d6,rfl⟩:=hG.slices
                 have hx7:=ξA HBX9.out b10
                 have f0:w10.frozen? ⟨bp,0,none⟩=false:=ξz _ _ _ _ _ hx7
                 have f1:w10.frozen? ⟨bp,1,none⟩=false:=ξz _ _ _ _ _ hx7
                 have f2:w10.frozen? ⟨bp,2,none⟩=false:=ξz _ _ _ _ _ hx7
                 clear y0 y1 y2 t0 t1 t2 t3 t4
                 have y0:=blkc hx7 (j:=0) (u:= .slice e1 n1 d1) rfl
                 have y1:=blkc hx7 (j:=1) (u:= .slice e2 n2 d2) rfl
                 have y2:=blkc hx7 (j:=2) (u:= .slice e3 n3 d3) rfl
                 have HNEW:=ξh (HPG9.put b10 hG HSM.out)
                 obtain⟨-,q2,-,-⟩:=ξaq (.slice e4 n4 d4) (.slice e5 n5 d5) (.slice e6 n6 d6) hx7
                 have HXRN:=ξh ((q2 br (by have:=HNE.out;omega)).trans (ξA HXR9.out b10))
                 have HX6N:=ξh ((q2 (w.heap.size+1) (by have:=HNE.out;have:=HBR.out;omega)).trans (ξA HX69.out b10))
                 clear hG b10 hx7 q2
                 go_wp2_with fail
                 generalize ((w10.setCell ⟨bp,0,none⟩ (.slice e4 n4 d4)).setCell ⟨bp,1,none⟩ (.slice e5 n5 d5)).setCell ⟨bp,2,none⟩ (.slice e6 n6 d6)=w11 at *
                 go_roundw
                 case rel=>exact⟨k+1,ab3,nb3,cb3,_,by omega,by go_num,HXRN.out,HX6N.out,HS3.out,HNEW.out⟩
                 case measure=>simp[intOf];omega
          · have hsB:(g.s==(t:Int))=false:=by simpa using hs
            have hsN:(g.s != (t:Int))=true:=by simpa using hs
            have HS1:=ξh (show AA (k+1)=some r2 from by rw[HS.out,if_pos hs])
            go_wp2_with fail
            go_roundw
            case rel=>exact⟨k+1,ab3,nb3,cb3,r2,by omega,by go_num,HXR3.out,HX63.out,HS1.out,HPG3.out⟩
            case measure=>simp[intOf];omega
        · obtain rfl:mg=k:=by omega
          have HNR:=ξh (HNX2.out r2 HAE.out)
          obtain⟨hlk,-⟩:=HAK.out mg r2 (ξr _) HAE.out
          have HLK:=ξh hlk
          obtain⟨hRb,e1,n1,d1,e2,n2,d2,e3,n3,d3,hbx,hpg⟩:=HPG3.out
          have HBE:=ξh hpg.bel
          have HPR:=ξh (hpg.pl.rd HBE.out)
          have HBX:=ξh hbx
          have HOU:=ξh hpg.out
          have HRS:=ξh hpg.rsv
          have HBLO:=ξh hpg.blo.lt
          have HAPS:=ξh hpg.aps
          clear hlk hpg hbx
          have HCL:=ξh (fun(w':World) (hb:Below wr.heap.size wr w')=>show w'.cell? ⟨bp,0,none⟩=some (.slice e1 n1 d1)∧w'.cell? ⟨bp,1,none⟩=some (.slice e2 n2 d2)∧w'.cell? ⟨bp,2,none⟩=some (.slice e3 n3 d3)∧w'.cell? ⟨br,0,none⟩=some (.slice aq t cs) from
           ⟨blkc (ξA HBX.out hb) rfl,blkc (ξA HBX.out hb) rfl,blkc (ξA HBX.out hb) rfl,blkc (ξA HXR3.out hb) rfl⟩)
          go_wp2_with fail
          refine ξH [0,1,2,3,4,5] (S:=fun w'=>w'.cell? ⟨bp,0,none⟩=some (.slice e1 n1 d1)∧w'.cell? ⟨bp,1,none⟩=some (.slice e2 n2 d2)∧w'.cell? ⟨bp,2,none⟩=some (.slice e3 n3 d3)∧w'.cell? ⟨br,0,none⟩=some (.slice aq t cs)) (by kernel_rfl) (HCL.out _ (ξb _ _).drew) (fun hH=> ?_)
          refine hlF 0 rfl hH ?_
          try simp only[Act.put,hlA,hlB,hlC]
          refine hlF 1 rfl hH ?_
          try simp only[Act.put,hlA,hlB,hlC]
          refine hlF 2 rfl hH ?_
          try simp only[Act.put,hlA,hlB,hlC]
          refine ξB (rs:=[3]) (by kernel_rfl) (by simp) ?_
          refine AllReadyL.cons rfl (fun KK hKK=> ?_) AllReadyL.nil
          go_simp
          go_at_call 108
          refine(HCP.out _ r2.ls wr.drew (HPR.behind (ξb _ _).drew) HLK.out).mono ?_
          rintro e w7 ⟨u1,u2,u3,B,fp,rfl,hG,b7⟩
          have B103:Below wr.heap.size wr w7:=(ξb wr.heap.size wr).drew.trans b7
          obtain⟨fq,ho,hnd,hlo⟩:=hG.o
          have HNW:=ξh (show Newd w7 wr.heap.size [u1,u2,u3] (plnD ⟨n,r2.ls⟩) from newPln ho hnd fun k hk=>(hlo k hk).1)
          obtain⟨⟨e4,n4,d4,rfl⟩,⟨e5,n5,d5,rfl⟩,e6,n6,d6,rfl⟩:=hG.slices
          clear hG b7 ho hnd hlo
          refine hKK.out _ _ (HCL.out _ B103) (fun hH=> ?_)
          clear hKK KK
          try simp only[Act.put,hlA,hlB,hlC]
          refine ξB (rs:=[4]) (by kernel_rfl) (by simp) ?_
          refine AllReadyL.cons rfl (fun KK hKK=> ?_) AllReadyL.nil
          go_simp
          have B104:=B103.alloc B103.size (.cells #[.slice e4 n4 d4,.slice e5 n5 d5,.slice e6 n6 d6] 75)
          refine hKK.out _ _ (HCL.out _ B104) (fun hH=> ?_)
          clear hKK KK
          try simp only[Act.put,hlA,hlB,hlC]
          refine ξG 5 rfl (by kernel_rfl) (by kernel_rfl) (fun KK hKK=> ?_)
          refine step_of_list rfl ?_
          refine ξck rfl (.tmp 101) (.tmp 104) 93 75 rfl Tryz.underlying93 (.agg #[.slice none 0 0,.slice none 0 0,.slice none 0 0]) 3 72 Tryz.infoPln rfl (by decide) (by decide) w.heap.size t (.slice aq t cs) _ (plnD ⟨n,r2.ls⟩) _ (fun k hk=>hk.elim (fun h=>(HRS.out k h).2) (fun h=>(HBLO.out k h).2)) (by rfl) HOU.out HBE.size B103 [.slice e4 n4 d4,.slice e5 n5 d5,.slice e6 n6 d6] HNW.out rfl (fun z hz=>by simp only[List.mem_cons,List.not_mem_nil,or_false] at hz;rcases hz with e | e | e <;> rw[e] <;> rfl) (by rfl) (by omega) ?_
          intro v8 w8 o8 g8 l8
          have HNEW:=ξh (HPG3.grow B103 o8 g8 l8)
          obtain⟨-,a8,c8,rfl⟩:=o8.grw.form
          have hxr:=(g8.block br (ξq (HRS.out br HR6.2).2 B103.size) (fun e=>(HAPS.out br e.symm).1 HR6.2)).trans (ξA HXR3.out B103)
          have hx6:=(g8.block (w.heap.size+1) (ξq (HRS.out _ HR6.1).2 B103.size) (fun e=>(HAPS.out _ e.symm).1 HR6.1)).trans (ξA HX63.out B103)
          have HXR8:=ξh hxr
          have HX68:=ξh hx6
          clear o8 g8 l8 hxr hx6
          unfold wpList
          refine⟨rfl,?_⟩
          refine hKK.out _ _ ?_
          clear hKK KK
          try simp only[Act.put,hlA,hlB,hlC]
          refine ξG 6 rfl (by kernel_rfl) (by kernel_rfl) (fun KK hKK=> ?_)
          go_simp
          refine hKK.out _ _ ?_
          clear hKK KK
          try simp only[Act.put,hlA,hlB,hlC]
          refine ξG 7 rfl (by kernel_rfl) (by kernel_rfl) (fun KK hKK=> ?_)
          have y0:=blkc HXR8.out (j:=0) (u:= .slice aq t cs) rfl
          have f0:w8.frozen? ⟨br,0,none⟩=false:=ξz _ _ _ _ _ HXR8.out
          go_simp
          refine hKK.out _ _ ?_
          clear hKK KK
          try simp only[Act.put,hlA,hlB,hlC]
          refine ξS (by kernel_rfl) ?_ _
          rotate_left 1
          have hset:=fun j (hj:j≠br)=>ξm w8 ⟨br,0,none⟩ j (.slice a8 (t+1) c8) hj
          have hsz:(w8.setCell ⟨br,0,none⟩ (.slice a8 (t+1) c8)).heap.size=w8.heap.size:=by simp
          have hbel:Below w.heap.size w (w8.setCell ⟨br,0,none⟩ (.slice a8 (t+1) c8)):=HNEW.bel.setCell (p:=⟨br,0,none⟩) (by show w.heap.size≤br;exact(HRS.out br HR6.2).1) _
          have HNEW2:=ξh (HNEW.stepR hbel (Nat.le_of_eq hsz.symm) (fun k' _ hk'=>hset k' (fun e=>hk' (by rw[e];exact HR6.2))) (hset bp (by have:=HNE.out;omega)))
          have HXRN:=ξh (show(w8.setCell ⟨br,0,none⟩ (.slice a8 (t+1) c8)).heap[br]?= some (.cells #[.slice a8 (t+1) c8,.slice ab3 nb3 cb3] 95 (0,0)) from by rw[ξe w8 br 0 _ 95 (.slice a8 (t+1) c8) HXR8.out];simp)
          have HX6N:=ξh ((hset (w.heap.size+1) (by have:=HBR.out;omega)).trans HX68.out)
          clear hset hsz hbel y0 f0 B103 B104
          generalize w8.setCell ⟨br,0,none⟩ (.slice a8 (t+1) c8)=w9 at *
          go_wp2_with fail
          go_roundw
          case rel=>exact⟨t+1,a8,c8,ab3,nb3,cb3,psL++[r2.ls],r2,by omega,by go_num,HXRN.out,HX6N.out,HNR.out,by rw[List.map_append];exact HNEW2.out⟩
          case measure=>simp[intOf];omega
  · obtain rfl:t=8:=by omega
    have HPL:=ξh (show ξR n fs gs=some (psL,r) from by rw[HPOK.out];exact HRP.out)
    have HBE:=ξh HPG.bel
    have kc0:=blkc HXR.out (j:=0) (u:= .slice aq 8 cs) rfl
    have kc1:=blkc HXR.out (j:=1) (u:= .slice ab nb cb) rfl
    have z0:=blkc HX6.out (j:=0) (u:= .slice none 0 0) rfl
    have z1:=blkc HX6.out (j:=1) (u:= .slice none 0 0) rfl
    have f0:wr.frozen? ⟨w.heap.size+1,0,none⟩=false:=ξz _ _ _ _ _ HX6.out
    have f1:wr.frozen? ⟨w.heap.size+1,1,none⟩=false:=ξz _ _ _ _ _ HX6.out
    obtain⟨q1,q2⟩:=ξav (.slice aq 8 cs) (.slice ab nb cb) HX6.out
    have hset:∀j,j≠w.heap.size+1→((wr.setCell ⟨w.heap.size+1,0,none⟩ (.slice aq 8 cs)).setCell ⟨w.heap.size+1,1,none⟩ (.slice ab nb cb)).heap[j]?= wr.heap[j]?:=fun j hj=>by
     rw[ξm _ ⟨w.heap.size+1,1,none⟩ j _ hj,ξm _ ⟨w.heap.size+1,0,none⟩ j _ hj]
    have HQ1:=ξh q1
    have HEND:=ξh (ple_some HPL.out HPG.out (q2 w.heap.size w (Nat.le_succ _) HBE.out) (by simp) (fun k hk _=>hset k (fun e=>hk (by rw[e];exact HR6.1))))
    clear q1 q2 hset
    go_wp2_with fail
    generalize (wr.setCell ⟨w.heap.size+1,0,none⟩ (.slice aq 8 cs)).setCell ⟨w.heap.size+1,1,none⟩ (.slice ab nb cb)=wz at *
    have t0:=blkc HQ1.out (j:=0) (u:= .slice aq 8 cs) rfl
    have t1:=blkc HQ1.out (j:=1) (u:= .slice ab nb cb) rfl
    rw[HNP.out]
    exact bodyPost_ret (v:= .tuple #[.agg #[.slice aq 8 cs,.slice ab nb cb],.bool true]) (by simp[results,Tryz.results58,go_sem,t0,t1]) rfl HEND.out
end Go.Proofs.YtofcicomhnkocaaGreat
