/- Joined: XUon XBlg XPkp XPus XUhp XUhw XUhs. -/
import Derived.Test.YtofcicomhnkocaaGreatBp06
import Derived.Test.YtofcicomhnkocaaGreatBp28
import Derived.Test.YtofcicomhnkocaaGreatBp09
set_option linter.unusedVariables false
namespace Go.Proofs.YtofcicomhnkocaaGreat
set_option maxHeartbeats 3200000
open Go.RowKit Go.Sort
set_option maxRecDepth 100000
def useL (M:List Nat):List Int:=M.map fun m=>((popN m:Nat):Int)
theorem useL_step {M:List Nat} {k:Nat} (hk:k<M.length):useL (M.take (k+1))=useL (M.take k)++[((popN (M[k]?.getD 0):Nat):Int)]:=by
 unfold useL
 rw[List.take_add_one,List.map_append,List.getElem?_eq_getElem hk];rfl
theorem useL_len (M:List Nat):(useL M).length=M.length:=by simp[useL]
theorem orAll_lt {ls:List Lgt} {nf:Nat} (h:∀x∈ls,LgO nf x) {i:Nat} (hi:i<nf):(orAll ls nf)[i]?.getD 0<16777216:=by
 rw[orAll_get hi (fun x hx f hf=>((h x hx).1 f hf).1)]
 exact usedN_lt h _
theorem usedOn_any (v:Value) (p:Pln) (w:World) (h:PlnR w v p) (hn2:p.n.fs.length≤1048576) (hl:p.ls.length≤1000) (hlo:∀x∈p.ls,LgO p.n.fs.length x):
 Calls Tryz.prog 85 #[v] w fun e w'=>∃v',e= .returned v'∧Own w' w.heap.size v' (useL (orAll p.ls p.n.fs.length))∧Below w.heap.size w w':=by
 have HFM:=Lib.hid (fun w' (hb:Below w.heap.size w w')=>fiberMasks_any v p w' (h.behind hb) hn2 hl hlo)
 have hMl:(orAll p.ls p.n.fs.length).length=p.n.fs.length:=(orLs_len p.ls _).trans (by simp)
 have HLT:=Lib.hid (fun i (hi:i<p.n.fs.length)=>orAll_lt (ls:=p.ls) hlo hi)
 obtain⟨u1,u2,u3,rfl,r1,r2,r3,hsm⟩:=h
 have hnet:NetR w (.agg #[u1,u2]) p.n:=⟨u1,u2,rfl,r1,r2,hsm⟩
 obtain⟨⟨a1,m1,c1,rfl⟩,a2,m2,c2,rfl⟩:=slice_of_net hnet
 obtain⟨a3,m3,c3,rfl,-⟩:=Rdt.opn r3
 generalize orAll p.ls p.n.fs.length=M at *
 generalize p.n.fs.length=nf at *
 have HB1:=Lib.hid ((Below.refl w.heap.size w).alloc (Nat.le_refl _) (.cells #[.slice a1 m1 c1,.slice a2 m2 c2,.slice a3 m3 c3] 75))
 have HO1:=Lib.hid (own_none (w.alloc (.cells #[.slice a1 m1 c1,.slice a2 m2 c2,.slice a3 m3 c3] 75)) 3)
 have HB2:=Lib.hid (HB1.out.alloc HB1.out.size (.cells #[] 3))
 clear hnet r1 r2 r3 hsm hlo hl
 go_enter Tryz.func85,Tryz.ntmps85
 go_wp2_with fail
 generalize hw1:w.alloc (.cells #[.slice a1 m1 c1,.slice a2 m2 c2,.slice a3 m3 c3] 75)=w1 at *
 have hz1:w1.heap.size=w.heap.size+1:=by rw[←hw1];simp
 rw[hz1] at HO1
 generalize hw2:w1.alloc (.cells #[] 3)=w2 at *
 have hz2:w2.heap.size=w.heap.size+1+1:=by rw[←hw2];simp[hz1]
 clear hw1 hw2
 refine(HFM.out _ HB2.out).mono ?_
 rintro e w3 ⟨v3,rfl,o3,b3⟩
 have hlt2:∀k,(Value.slice (some ⟨w.heap.size+1,0,none⟩) 0 0).ownBlock=some k→k<w2.heap.size:=fun k hk=>by
  obtain rfl:w.heap.size+1=k:=by simpa[Value.ownBlock] using hk
  omega
 have HO3:=Lib.hid ((HO1.out.below b3 hlt2).mono (Nat.le_succ _))
 have HB3:=Lib.hid (HB2.out.trans (b3.mono HB2.out.size))
 have HN3:=Lib.hid (show∀g,(Value.slice (some ⟨w.heap.size+1,0,none⟩) 0 0).ownBlock=some g→v3.ownBlock≠some g from fun g hg e=>by
  have h1:=(o3.lt g e).1
  obtain rfl:w.heap.size+1=g:=by simpa[Value.ownBlock] using hg
  omega)
 have HR3:=Lib.hid o3.rd
 obtain⟨a,c,m,HM,rfl,hmc,hm63,-⟩:=o3.rd.opn
 have hMM:M.length=m:=by have:=HM.out;rw[nats_len] at this;exact this
 have HMM:=Lib.hid hMM
 have hmnf:m=nf:=by omega
 have HNF:=Lib.hid hmnf
 clear hlt2 o3 b3 hz1 hz2 hMM hmnf hMl HO1 HFM
 go_wp2_with fail
 go_loopw [3,5,10] (fun s3 _ i wr=>∃(k:Nat) (ao:Option Addr) (no co:Nat),k≤m∧i= .int .i64 k∧s3= .slice ao no co∧Hid (Own wr w.heap.size (.slice ao no co) (useL (M.take k)))∧Hid (Rd wr (.slice a m c) (nats M))∧Hid (∀g,(Value.slice ao no co).ownBlock=some g→(Value.slice a m c).ownBlock≠some g)∧Hid (Below w.heap.size w wr)) (fun _ _ i _=>m-(intOf i).toNat)
 case atStart=>exact⟨0,_,_,_,Nat.zero_le _,rfl,rfl,HO3.out,HR3.out,HN3.out,HB3.out⟩
 case round=>
  obtain⟨k,ao,no,co,hk,rfl,rfl,HO,HR,HN,HB⟩:=hrel
  by_cases hlt:k<m
  · have hltI:(k:Int)<(m:Int):=by omega
    obtain⟨a',c',m',HM',e',hmc',hm63',hcs⟩:=HR.out.opn
    cases e'
    obtain⟨b,off,rfl,hbs,hcs⟩:=hcs (by omega)
    have c0:=hcs k hlt
    rw[nats_at] at c0
    have hx:M[k]?.getD 0<16777216:=HLT.out k (by have:=HNF.out;omega)
    have HST:=Lib.hid (useL_step (M:=M) (k:=k) (by rw[HMM.out];exact hlt))
    have HLO:=Lib.hid (show(useL (M.take k)).length≤4000000 by rw[useL_len,List.length_take];have:=HNF.out;omega)
    generalize M[k]?.getD 0=x at *
    have hu:=u64n (a:=x) (Nat.lt_of_lt_of_le hx (by decide))
    have HX:=Lib.hid hx
    generalize useL (M.take k)=ys at *
    clear hcs hbs hx HM' hmc'
    go_wp2_with (first
     | (go_at_call 134;refine(ones_any x HX.out _).mono ?_;rintro e w' ⟨rfl,rfl⟩)
     | (at_builtin;go_loud (refine wpList_pushI rfl (.tmp 14) (.tmp 18) 58 rfl Tryz.underlying58 Tryz.infoI w.heap.size (.slice ao no co) ys rfl HO.out rfl HLO.out HB.out.size ?_);intro v5 w5 o5 g5 l5;have HO5:=Lib.hid o5;have HB5:=Lib.hid (HB.out.grown g5 HB.out.size (fun q hq=>(HO.out.lt q hq).1));have HR5:=Lib.hid (HR.out.keptB g5.size (fun q hq=>g5.block q (HR.out.lt q hq) (fun e=>HN.out q e.symm hq)));have HN5:=Lib.hid (show∀g,v5.ownBlock=some g→(Value.slice (some ⟨b,off,none⟩) m c).ownBlock≠some g from fun g hg e=>(l5 g hg).elim (fun h=>HN.out g h e) (fun h=>absurd (HR.out.lt g e) (by omega)));obtain⟨a5,n5,c5,rfl⟩:∃a5 n5 c5,v5= .slice a5 n5 c5:=own_slice o5;clear o5 g5 l5))
    go_roundw
    case rel=>exact⟨k+1,_,_,_,by omega,by go_num,rfl,by rw[HST.out];exact HO5.out,HR5.out,HN5.out,HB5.out⟩
    case measure=>simp[intOf];omega
  · obtain rfl:k=m:=by omega
    have HT:=Lib.hid (show M.take k=M from List.take_of_length_le (Nat.le_of_eq HMM.out))
    rw[HT.out] at HO
    go_wp2_with fail
    go_ret
    exact⟨_,rfl,HO.out,HB.out⟩
def planK (n:Net) (fs:List Fmt) (gs:List Gro):Bool:=(planO n fs gs).isSome
def planB (n:Net) (fs:List Fmt) (gs:List Gro):List Int:=match planO n fs gs with
 | none=>[]
 | some (_,r)=>ust r.bl
theorem planO_some {n:Net} {fs:List Fmt} {gs:List Gro} {ps:List (List Lgt)} {r:PRun} (h:planO n fs gs=some (ps,r)):fmOk fs=true∧netOk n=true∧GrsP n gs∧runP n fs gs 8=some (ps,r):=by
 unfold planO at h
 split at h
 · rename_i hc
   rw[Bool.and_eq_true] at hc
   obtain⟨h1,h2⟩:=grsOk_parts hc.2
   exact⟨hc.1,h1,h2,h⟩
 · cases h
theorem planB_of {n:Net} {fs:List Fmt} {gs:List Gro} {ps:List (List Lgt)} {r:PRun} (h:planO n fs gs=some (ps,r)):planB n fs gs=ust r.bl∧srt r.bl=ust r.bl∧planK n fs gs=true:=by
 obtain⟨-,-,h3,h4⟩:=planO_some h
 refine⟨by unfold planB;rw[h],srt_ust (runP_nd h3 h4),by unfold planK;rw[h];rfl⟩
def PlsR (n:Net) (fs:List Fmt) (gs:List Gro) (base:Nat) (w':World) (s b:Value):Prop:=∀ps r,planO n fs gs=some (ps,r)→
 GrwX w' base 75 3 s 8 ((ps.map (Pln.mk n)).flatMap plnD) (fun k=>b.ownBlock=some k)∧Own w' base b (planB n fs gs)∧ ∀g,s.ownBlock=some g→b.ownBlock≠some g
def PldN (n:Net) (fs:List Fmt) (gs:List Gro) (w:World) (e:Ending) (w':World):Prop:=Below w.heap.size w w'∧ ∃aw ms cs a m c,e= .returned (.tuple #[.slice aw ms cs,.slice a m c,.bool (planK n fs gs)])∧PlsR n fs gs w.heap.size w' (.slice aw ms cs) (.slice a m c)∧(planK n fs gs=false→(.slice a m c:Value)= .slice none 0 0)
def PleN (n:Net) (fs:List Fmt) (gs:List Gro) (w:World) (e:Ending) (w':World):Prop:=Below w.heap.size w w'∧ ∃aw ms cs a m c,e= .returned (.tuple #[.agg #[.slice aw ms cs,.slice a m c],.bool (planK n fs gs)])∧PlsR n fs gs w.heap.size w' (.slice aw ms cs) (.slice a m c)
theorem planned_n (v vf vg:Value) (n:Net) (fs:List Fmt) (gs:List Gro) (w:World) (h:NetR w v n) (hf:Rdt w (flt 2 fmE fs) vf) (hg:Rdt w (flt 6 groE gs) vg):
 Calls Tryz.prog 64 #[v,vf,vg] w (PldN n fs gs w):=by
 refine(planned_any v vf vg n fs gs w h hf hg).mono ?_
 intro e w' hp
 obtain⟨hb,hp⟩:=hp
 refine⟨hb,?_⟩
 cases hO:planO n fs gs with
 | none=>
   rw[hO] at hp
   exact⟨_,_,_,_,_,_,by rw[show planK n fs gs=false by unfold planK;rw[hO];rfl];exact hp,(fun ps r e=>by rw[hO] at e;cases e),fun _=>rfl⟩
 | some x=>
   obtain⟨ps,r⟩:=x
   rw[hO] at hp
   obtain⟨s,b,he,h1,h2,h3⟩:=hp
   obtain⟨k1,k2,k3⟩:=planB_of hO
   obtain⟨-,a1,c1,rfl⟩:=h1.grw.form
   obtain⟨a2,m2,c2,rfl⟩:=own_slice h2
   refine⟨_,_,_,_,_,_,by rw[k3];exact he,(fun ps' r' e=> ?_),fun e=>by rw[k3] at e;cases e⟩
   rw[hO] at e
   cases e
   exact⟨h1,by rw[k1,←k2];exact h2,h3⟩
theorem l26Plan_n (v vf vg:Value) (n:Net) (fs:List Fmt) (gs:List Gro) (w:World) (h:NetR w v n) (hf:Rdt w (flt 2 fmE fs) vf) (hg:Rdt w (flt 6 groE gs) vg):
 Calls Tryz.prog 58 #[v,vf,vg] w (PleN n fs gs w):=by
 refine(l26Plan_any v vf vg n fs gs w h hf hg).mono ?_
 intro e w' hp
 obtain⟨hb,hp⟩:=hp
 refine⟨hb,?_⟩
 cases hO:planO n fs gs with
 | none=>
   rw[hO] at hp
   obtain⟨a1,m1,c1,a2,m2,c2,he⟩:=hp
   exact⟨_,_,_,_,_,_,by rw[show planK n fs gs=false by unfold planK;rw[hO];rfl];exact he,(fun ps r e=>by rw[hO] at e;cases e)⟩
 | some x=>
   obtain⟨ps,r⟩:=x
   rw[hO] at hp
   obtain⟨s,b,he,h1,h2,h3⟩:=hp
   obtain⟨k1,k2,k3⟩:=planB_of hO
   obtain⟨-,a1,c1,rfl⟩:=h1.grw.form
   obtain⟨a2,m2,c2,rfl⟩:=own_slice h2
   refine⟨_,_,_,_,_,_,by rw[k3];exact he,(fun ps' r' e=> ?_)⟩
   rw[hO] at e
   cases e
   exact⟨h1,by rw[k1];exact h2,h3⟩
theorem planB_no {n:Net} {fs:List Fmt} {gs:List Gro} (h:planO n fs gs=none):planB n fs gs=[]∧planK n fs gs=false:=by
 unfold planB planK;rw[h];exact⟨rfl,rfl⟩
theorem pln_nth (n:Net) (ps:List (List Lgt)) (t:Nat):(ps.map (Pln.mk n))[t]?.getD ⟨n,[]⟩=⟨n,ps[t]?.getD []⟩:=by
 rw[List.getElem?_map]
 cases ps[t]? <;> rfl
theorem pls_at {w':World} {base:Nat} {n:Net} {ps:List (List Lgt)} {s:Value} {X:Nat→Prop} (h:GrwX w' base 75 3 s 8 ((ps.map (Pln.mk n)).flatMap plnD) X) (hl:ps.length=8) (hs:NetSm n):
 ∃b off c,s= .slice (some ⟨b,off,none⟩) 8 c∧b<w'.heap.size∧Hid (∀t,t<8→ ∃a1 m1 c1 a2 m2 c2 a3 m3 c3,w'.cell? ⟨b,off+t * 3,none⟩=some (.slice a1 m1 c1)∧w'.cell? ⟨b,off+t * 3+1,none⟩=some (.slice a2 m2 c2)∧w'.cell? ⟨b,off+t * 3+2,none⟩=some (.slice a3 m3 c3)∧
  PlnR w' (.agg #[.slice a1 m1 c1,.slice a2 m2 c2,.slice a3 m3 c3]) ⟨n,ps[t]?.getD []⟩):=by
 have hr:Rdt w' (rws 3 plnD (ps.map (Pln.mk n))) s:=h.grw.ofr.rd
 obtain⟨a,nn,cap,rfl,HN,hc,-,ha⟩:=rws_opn (m:=3) (en:=plnD) (fun _=>rfl) (by omega) ⟨n,[]⟩ hr
 have hn:=HN.out
 rw[List.length_map,hl] at hn
 subst hn
 obtain⟨b,off,rfl,hb,ha⟩:=ha (by omega)
 refine⟨b,off,cap,rfl,hb,fun t ht=> ?_⟩
 have g:=fun r d hd=>ha t ht r d hd
 rw[pln_nth] at g
 obtain⟨u0,k0,l0⟩:=g 0 _ rfl
 obtain⟨u1,k1,l1⟩:=g 1 _ rfl
 obtain⟨u2,k2,l2⟩:=g 2 _ rfl
 obtain⟨a1,m1,c1,rfl⟩:=Rdt.slice' l0
 obtain⟨a2,m2,c2,rfl⟩:=Rdt.slice' l1
 obtain⟨a3,m3,c3,rfl,-⟩:=Rdt.opn l2
 exact⟨a1,m1,c1,a2,m2,c2,a3,m3,c3,k0,k1,k2,_,_,_,rfl,l0,l1,l2,hs⟩
theorem pls_ok {n:Net} {fs:List Fmt} {gs:List Gro} {ps:List (List Lgt)} {r:PRun} (h:planO n fs gs=some (ps,r)):ps.length=8∧netOk n=true∧ ∀t,t<8→LsK n (ps[t]?.getD []):=by
 obtain⟨-,h2,h3,h4⟩:=planO_some h
 refine⟨runP_len h4,h2,fun t ht=> ?_⟩
 obtain⟨rt,e1,hr,-⟩:=(runP_all h3 h4).2 t ht
 rw[e1]
 exact hr.lsk h3
def planU (n:Net) (fs:List Fmt) (gs:List Gro) (t i:Nat):Int:=match planO n fs gs with
 | none=>0
 | some (ps,_)=>((popN (usedN (ps[t]?.getD []) (i:Int)):Nat):Int)
theorem useL_get {n:Net} {ls:List Lgt} (h:∀x∈ls,LgO n.fs.length x) {i:Nat} (hi:i<n.fs.length):(useL (orAll ls n.fs.length))[i]?.getD 0=((popN (usedN ls (i:Int)):Nat):Int):=by
 have hl:(orAll ls n.fs.length).length=n.fs.length:=(orLs_len ls _).trans (by simp)
 rw[←orAll_get hi (fun x hx f hf=>((h x hx).1 f hf).1)]
 unfold useL
 rw[List.getElem?_map,List.getElem?_eq_getElem (by omega)];rfl
def sumK (M:List Nat):Nat→Int
 | 0=>0
 | k+1=>sumK M k+((popN (M[k]?.getD 0):Nat):Int)
theorem sumK_bd (M:List Nat):∀k,0≤sumK M k∧sumK M k≤24*(k:Int)
 | 0=>by simp[sumK]
 | k+1=>by
   have h:=sumK_bd M k
   have:=popN_le (M[k]?.getD 0)
   rw[sumK];omega
theorem or24 {a b:Nat} (ha:a<16777216) (hb:b<16777216):a ||| b<16777216:=by
 have:=or_lt (k:=24) (a:=a) (b:=b) (by omega) (by omega)
 omega
def orS (M:List Nat):Nat→Nat
 | 0=>0
 | k+1=>orS M k ||| (M[k]?.getD 0)
theorem PlanUseX_any (v:Value) (p:Pln) (w:World) (h:PlnR w v p) (hv:plnOk p=true) (hn2:p.n.fs.length≤14) (hl:p.ls.length≤1000) (hlo:∀x∈p.ls,LgO p.n.fs.length x) (hfb:∀i:Nat,(lgA p i).fb.length≤1100000):
 Calls Tryz.prog 95 #[v] w fun e w'=>e= .returned (.tuple #[.int .i64 (sumK (orAll p.ls p.n.fs.length) p.n.fs.length),.int .i64 ((popN (orS (orAll p.ls p.n.fs.length) p.n.fs.length):Nat):Int),.bool true])∧Below w.heap.size w w':=by
 have HVP:=Lib.hid (fun w' (hb:Below w.heap.size w w')=>by have:=IsValidPlan_any v p w' (h.behind hb) hfb;rw[hv] at this;exact this)
 have HFM:=Lib.hid (fun w' (hb:Below w.heap.size w w')=>fiberMasks_any v p w' (h.behind hb) (Nat.le_trans hn2 (by decide)) hl hlo)
 have hMl:(orAll p.ls p.n.fs.length).length=p.n.fs.length:=(orLs_len p.ls _).trans (by simp)
 have HLT:=Lib.hid (fun i (hi:i<p.n.fs.length)=>orAll_lt (ls:=p.ls) hlo hi)
 obtain⟨u1,u2,u3,rfl,r1,r2,r3,hsm⟩:=h
 have hnet:NetR w (.agg #[u1,u2]) p.n:=⟨u1,u2,rfl,r1,r2,hsm⟩
 obtain⟨⟨a1,m1,c1,rfl⟩,a2,m2,c2,rfl⟩:=slice_of_net hnet
 obtain⟨a3,m3,c3,rfl,-⟩:=Rdt.opn r3
 generalize orAll p.ls p.n.fs.length=M at *
 generalize p.n.fs.length=nf at *
 have HB1:=Lib.hid ((Below.refl w.heap.size w).alloc (Nat.le_refl _) (.cells #[.slice a1 m1 c1,.slice a2 m2 c2,.slice a3 m3 c3] 75))
 have HX1:=Lib.hid (heap_alloc_new w (.cells #[.slice a1 m1 c1,.slice a2 m2 c2,.slice a3 m3 c3] 75))
 clear hnet r1 r2 r3 hsm hlo hl hv hfb
 go_enter Tryz.func95,Tryz.ntmps95
 go_wp2_with fail
 obtain⟨bx,hbx⟩:∃bx,bx=w.heap.size:=⟨_,rfl⟩
 rw[←hbx] at HX1 ⊢
 clear hbx
 generalize w.alloc (.cells #[.slice a1 m1 c1,.slice a2 m2 c2,.slice a3 m3 c3] 75)=w1 at *
 refine(HVP.out _ HB1.out).mono ?_
 rintro e w2 ⟨rfl,b2⟩
 have HB2:=Lib.hid (HB1.out.trans (b2.mono HB1.out.size))
 have HX2:=Lib.hid (kept_o' HX1.out b2)
 have y0:=blkc HX2.out (j:=0) (u:= .slice a1 m1 c1) rfl
 have y1:=blkc HX2.out (j:=1) (u:= .slice a2 m2 c2) rfl
 have y2:=blkc HX2.out (j:=2) (u:= .slice a3 m3 c3) rfl
 clear b2
 go_wp2_with fail
 refine(HFM.out _ HB2.out).mono ?_
 rintro e w3 ⟨v3,rfl,o3,b3⟩
 have HB3:=Lib.hid (HB2.out.trans (b3.mono HB2.out.size))
 obtain⟨a,c,m,HM,rfl,hmc,hm63,hcs⟩:=o3.rd.opn
 have hMM:M.length=m:=by have:=HM.out;rw[nats_len] at this;exact this
 have hmnf:m=nf:=by omega
 subst hmnf
 have HCS:=Lib.hid hcs
 clear o3 b3 hMM hMl y0 y1 y2 hcs
 go_wp2_with fail
 go_loop [5,6,8,15] (fun s5 s6 _ i=>∃(k A:Nat),k≤m∧i= .int .i64 k∧s5= .int .i64 (sumK M k)∧s6= .int .i64 (A:Int)∧A<16777216∧Hid (A=orS M k)) (fun _ _ _ i=>m-(intOf i).toNat)
 case atStart=>exact⟨0,0,by omega,rfl,rfl,rfl,by omega,rfl⟩
 case round=>
  obtain⟨k,A,hk,rfl,rfl,rfl,hA,HAE⟩:=hrel
  by_cases hlt:k<m
  · have hltI:(k:Int)<(m:Int):=by omega
    obtain⟨b,off,rfl,hbs,hcs⟩:=HCS.out (by omega)
    have c0:=hcs k hlt
    rw[nats_at] at c0
    have hx:M[k]?.getD 0<16777216:=HLT.out k hlt
    have HST:=Lib.hid (show sumK M (k+1)=sumK M k+((popN (M[k]?.getD 0):Nat):Int) from rfl)
    have HSO:=Lib.hid (show A ||| (M[k]?.getD 0)=orS M (k+1) by rw[HAE.out];rfl)
    have hbd:=sumK_bd M k
    have hpl:=popN_le (M[k]?.getD 0)
    generalize M[k]?.getD 0=x at *
    generalize sumK M k=S at *
    have hu:=u64n (a:=x) (Nat.lt_of_lt_of_le hx (by decide))
    have ho:=bits_or hA hx
    have HOA:=Lib.hid (or24 hA hx)
    have HX:=Lib.hid hx
    have HPX:=Lib.hid (fun w=>ones_any x HX.out w)
    generalize A ||| x=A2 at *
    generalize popN x=P at *
    have hw1:IntKind.i64.wrap (S+(P:Int))=S+(P:Int):=IntWalk.i64_in _ (by omega)
    have hw2:wrap64 (S+(P:Int))=S+(P:Int):=IntWalk.wrap64_in _ (by omega)
    clear hcs hbs hx hbd hpl hA
    go_wp2_with (go_at_call 134;refine(HPX.out _).mono ?_;rintro e w' ⟨rfl,rfl⟩)
    go_round
    · exact⟨k+1,A2,by omega,by go_num,by rw[HST.out],rfl,HOA.out,HSO.out⟩
    · simp[intOf];omega
  · obtain rfl:k=m:=by omega
    have hu:=u64n (a:=A) (Nat.lt_of_lt_of_le hA (by decide))
    have HPX:=Lib.hid (fun w=>ones_any A hA w)
    obtain⟨S,hS⟩:∃S,S=sumK M k:=⟨_,rfl⟩
    have HSS:=Lib.hid hS
    rw[←hS]
    clear hA hS
    go_wp2_with (go_at_call 134;refine(HPX.out _).mono ?_;rintro e w' ⟨rfl,rfl⟩)
    exact bodyPost_ret (results_tmp3 (t:=2) (u:=3) (v:=4) rfl _ _ _) rfl ⟨by rw[←HSS.out,←HAE.out];rfl,HB3.out⟩
theorem PlanUse_any (v:Value) (p:Pln) (w:World) (h:PlnR w v p) (hv:plnOk p=true) (hn2:p.n.fs.length≤14) (hl:p.ls.length≤1000) (hlo:∀x∈p.ls,LgO p.n.fs.length x) (hfb:∀i:Nat,(lgA p i).fb.length≤1100000):
 Calls Tryz.prog 95 #[v] w fun e w'=>∃x:Int,e= .returned (.tuple #[.int .i64 (sumK (orAll p.ls p.n.fs.length) p.n.fs.length),.int .i64 x,.bool true])∧Below w.heap.size w w':=
 (PlanUseX_any v p w h hv hn2 hl hlo hfb).mono fun e w' ⟨a,b⟩=>⟨_,a,b⟩
theorem pls_atK {w3:World} {base:Nat} {n:Net} {ps:List (List Lgt)} {s:Value} {X:Nat→Prop} (h:GrwX w3 base 75 3 s 8 ((ps.map (Pln.mk n)).flatMap plnD) X) (hl:ps.length=8) (hs:NetSm n):
 ∃b off c,s= .slice (some ⟨b,off,none⟩) 8 c∧Hid (∀w',(∀k,base≤k→k<w3.heap.size→w'.heap[k]?= w3.heap[k]?)→ ∀t,t<8→ ∃a1 m1 c1 a2 m2 c2 a3 m3 c3,w'.cell? ⟨b,off+t * 3,none⟩=some (.slice a1 m1 c1)∧w'.cell? ⟨b,off+t * 3+1,none⟩=some (.slice a2 m2 c2)∧w'.cell? ⟨b,off+t * 3+2,none⟩=some (.slice a3 m3 c3)∧
  PlnR w' (.agg #[.slice a1 m1 c1,.slice a2 m2 c2,.slice a3 m3 c3]) ⟨n,ps[t]?.getD []⟩):=by
 obtain⟨b,off,c,rfl,-,-⟩:=pls_at h hl hs
 refine⟨b,off,c,rfl,fun w' hk t ht=> ?_⟩
 obtain⟨b',off',c',e,-,H⟩:=pls_at (h.kept (w':=w') (Y:=X) (fun k h1 h2 _=>hk k h1 h2) (fun _ _ h=>h)) hl hs
 cases e
 exact H.out t ht
def sumR (V:Nat→Int):Nat→Int
 | 0=>0
 | k+1=>sumR V k+V k
theorem sumK_R {M:List Nat} {V:Nat→Int} :∀k,(∀i,i<k→((popN (M[i]?.getD 0):Nat):Int)=V i)→sumK M k=sumR V k
 | 0,_=>rfl
 | k+1,h=>by rw[sumK,sumR,sumK_R k (fun i hi=>h i (by omega)),h k (by omega)]
theorem sumR_bd {V:Nat→Int} (h:∀i,0≤V i∧V i≤24):∀k,0≤sumR V k∧sumR V k≤24*(k:Int)
 | 0=>by simp[sumR]
 | k+1=>by
   have h1:=sumR_bd h k
   have h2:=h k
   rw[sumR];omega
theorem planU_bd (n:Net) (fs:List Fmt) (gs:List Gro) (t i:Nat):0≤planU n fs gs t i∧planU n fs gs t i≤24:=by
 unfold planU
 split
 · omega
 · rename_i ps r _
   have:=popN_le (usedN (ps[t]?.getD []) (i:Int))
   omega
def useT (n:Net) (fs:List Fmt) (gs:List Gro) (k:Nat):List Int:=(List.range k).map fun t=>sumR (planU n fs gs t) n.fs.length
theorem useT_step (n:Net) (fs:List Fmt) (gs:List Gro) (k:Nat):useT n fs gs (k+1)=useT n fs gs k++[sumR (planU n fs gs k) n.fs.length]:=by
 unfold useT;rw[List.range_succ,List.map_append];rfl
theorem useT_len (n:Net) (fs:List Fmt) (gs:List Gro) (k:Nat):(useT n fs gs k).length=k:=by simp[useT]
def useH (n:Net) (fs:List Fmt) (gs:List Gro):List Int:=if planK n fs gs then useT n fs gs 8 else[]
theorem useH_len (n:Net) (fs:List Fmt) (gs:List Gro):(useH n fs gs).length≤8:=by
 unfold useH
 split
 · rw[useT_len];omega
 · simp
def UhP (n:Net) (fs:List Fmt) (gs:List Gro) (w:World) (e:Ending) (w':World):Prop:=∃v,e= .returned (.tuple #[v,.bool (planK n fs gs)])∧Ofr w' w.heap.size (inD (useH n fs gs)) v∧Below w.heap.size w w'
theorem implUses_any (v vf vg:Value) (n:Net) (fs:List Fmt) (gs:List Gro) (w:World) (h:NetR w v n) (hf:Rdt w (flt 2 fmE fs) vf) (hg:Rdt w (flt 6 groE gs) vg):
 Calls Tryz.prog 50 #[v,vf,vg] w (UhP n fs gs w):=by
 obtain⟨NP,hNP⟩:∃NP,NP=UhP n fs gs w:=⟨_,rfl⟩
 rw[←hNP]
 have HNP:=Lib.hid hNP
 have HP:=Lib.hid (fun w' (hb:Below w.heap.size w w')=>planned_n v vf vg n fs gs w' (h.behind hb) (hf.behind hb) (hg.behind hb))
 have hnet:=h
 obtain⟨u1,u2,rfl,r1,r2,hsm⟩:=h
 obtain⟨⟨a1,m1,c1,rfl⟩,-⟩:=slice_of_net hnet
 obtain⟨a2,m2,c2,rfl,HN2,hc2,hm2,-⟩:=flt_opn (m:=4) (enc:=fibE) (fun _=>rfl) (by omega) nilB r2
 obtain⟨af,mf,cf,rfl,-,-,-,-⟩:=flt_opn (m:=2) (enc:=fmE) (fun _=>rfl) (by omega) nilFm hf
 obtain⟨ag,mg,cg,rfl,-,-,-,-⟩:=flt_opn (m:=6) (enc:=groE) (fun _=>rfl) (by omega) nilG hg
 have HSM:=Lib.hid (show NetSm n from hsm)
 have HB1:=Lib.hid ((Below.refl w.heap.size w).alloc (Nat.le_refl _) (.cells #[.slice a1 m1 c1,.slice a2 m2 c2] 35))
 have HX1:=Lib.hid (heap_alloc_new w (.cells #[.slice a1 m1 c1,.slice a2 m2 c2] 35))
 clear hnet hf hg hNP r1 r2 hsm
 go_enter Tryz.func50,Tryz.ntmps50
 go_wp2_with fail
 obtain⟨bx,hbx⟩:∃bx,bx=w.heap.size:=⟨_,rfl⟩
 rw[←hbx] at HX1 ⊢
 clear hbx
 generalize w.alloc (.cells #[.slice a1 m1 c1,.slice a2 m2 c2] 35)=w1 at *
 refine(HP.out w1 HB1.out).mono ?_
 rintro e w2 ⟨b2,aw,ms,cs,a,m,c,rfl,hpl,hno⟩
 have HB2:=Lib.hid (HB1.out.trans (b2.mono HB1.out.size))
 have HX2:=Lib.hid (kept_o' HX1.out b2)
 cases hO:planO n fs gs with
 | none=>
   obtain⟨-,k2⟩:=planB_no hO
   have HE:=Lib.hid (⟨k2,by unfold useH;rw[k2];rfl⟩:planK n fs gs=false∧useH n fs gs=[])
   rw[k2]
   clear b2 hpl hO hno k2
   go_wp2
   rw[HNP.out]
   exact⟨.slice none 0 0,by rw[HE.out.1];rfl,by rw[HE.out.2];exact Ofr.nil _ _ _,HB2.out⟩
 | some x=>
   obtain⟨ps,r⟩:=x
   have k3:=(planB_of hO).2.2
   have HE:=Lib.hid (⟨k3,by unfold useH;rw[k3];rfl⟩:planK n fs gs=true∧useH n fs gs=useT n fs gs 8)
   rw[k3]
   obtain⟨hg8,-,-⟩:=hpl ps r hO
   obtain⟨hl8,hnok,hlsk⟩:=pls_ok hO
   obtain⟨bs,offs,cc,es,hbs,HPL⟩:=pls_at hg8 hl8 HSM.out
   cases es
   have HLS:=Lib.hid hlsk
   have HNOK:=Lib.hid hnok
   have h14:n.fs.length≤14:=(netOk_yes hnok).2.2.1
   have HU:=Lib.hid (show∀t i,planU n fs gs t i=((popN (usedN (ps[t]?.getD []) (i:Int)):Nat):Int) from fun t i=>by unfold planU;rw[hO])
   have HRP:=Lib.hid (show∀t,t<8→plnOk ⟨n,ps[t]?.getD []⟩=true from fun t ht=>by
    obtain⟨-,h2,h3,h4⟩:=planO_some hO
    have he:ps[t]?= some (ps[t]?.getD []):=by rw[List.getElem?_eq_getElem (by omega)];rfl
    exact runP_pln h2 h3 h4 ht he)
   have HUS:=Lib.hid (fun t (ht:t<8) (vp:Value) w' (hp:PlnR w' vp ⟨n,ps[t]?.getD []⟩)=>PlanUse_any vp ⟨n,ps[t]?.getD []⟩ w' hp (HRP.out t ht) h14 (Nat.le_trans (HLS.out t ht).1 (by decide)) ((HLS.out t ht).lgo HNOK.out) (fun i=>by
    by_cases hi:i<(ps[t]?.getD []).length
    · show((ps[t]?.getD [])[i]?.getD nilL).fb.length≤1100000
      rw[List.getElem?_eq_getElem hi]
      exact Nat.le_trans ((HLS.out t ht).fb HNOK.out _ (List.getElem_mem hi)) (by decide)
    · show((ps[t]?.getD [])[i]?.getD nilL).fb.length≤1100000
      rw[List.getElem?_eq_none (by omega)];exact Nat.zero_le _))
   have HSU:=Lib.hid (show∀t,t<8→sumK (orAll (ps[t]?.getD []) n.fs.length) n.fs.length=sumR (planU n fs gs t) n.fs.length from fun t ht=>sumK_R _ fun i hi=>by
    rw[orAll_get hi (fun x hx f hf=>((((HLS.out t ht).lgo HNOK.out) x hx).1 f hf).1)];exact(HU.out t i).symm)
   have HST:=Lib.hid (fun k=>useT_step n fs gs k)
   have HLN:=Lib.hid (fun k=>useT_len n fs gs k)
   have HBS:=Lib.hid hbs
   have HO0:=Lib.hid (own_none w2 3)
   have HB0:=Lib.hid ((Below.refl w2.heap.size w2).alloc (Nat.le_refl _) (.cells #[] 3))
   clear b2 hpl hno k3 hg8 hl8 hnok hlsk hO hbs h14
   go_wp2_with fail
   obtain⟨bo,hbo⟩:∃bo,bo=w2.heap.size:=⟨_,rfl⟩
   rw[←hbo] at HO0 ⊢
   have HBO:=Lib.hid hbo
   clear hbo
   generalize w2.alloc (.cells #[] 3)=w3 at *
   go_loopw [11,30] (fun s11 i wr=>∃(t:Nat) (ao:Option Addr) (no co:Nat),t≤8∧i= .int .i64 t∧s11= .slice ao no co∧Hid (Own wr bo (.slice ao no co) (useT n fs gs t))∧Hid (Below w2.heap.size w2 wr)) (fun _ i _=>8-(intOf i).toNat)
   case atStart=>exact⟨0,_,_,_,by omega,rfl,rfl,HO0.out,HB0.out⟩
   case round=>
    obtain⟨t,ao,no,co,ht,rfl,rfl,HO,HB⟩:=hrel
    by_cases hlt:t<8
    · have hltI:(t:Int)<8:=by omega
      obtain⟨p1,q1,d1,p2,q2,d2,p3,q3,d3,k0,k1,k2,hpr⟩:=HPL.out t hlt
      have c0:=(HB.out.cell (p:=⟨bs,offs+t * 3,none⟩) HBS.out).trans k0
      have c1:=(HB.out.cell (p:=⟨bs,offs+t * 3+1,none⟩) HBS.out).trans k1
      have c2:=(HB.out.cell (p:=⟨bs,offs+t * 3+2,none⟩) HBS.out).trans k2
      have HPR:=Lib.hid (hpr.behind HB.out)
      clear k0 k1 k2 hpr
      go_upto_region 8 with fail
      have n2':=heap_alloc_new wr (.cells #[.slice p1 q1 d1,.slice p2 q2 d2,.slice p3 q3 d3] 75)
      have HB5:=Lib.hid ((Below.refl wr.heap.size wr).alloc (Nat.le_refl _) (.cells #[.slice p1 q1 d1,.slice p2 q2 d2,.slice p3 q3 d3] 75))
      obtain⟨bq,hbq⟩:∃bq,bq=wr.heap.size:=⟨_,rfl⟩
      rw[←hbq] at n2' ⊢
      clear hbq c0 c1 c2
      generalize wr.alloc (.cells #[.slice p1 q1 d1,.slice p2 q2 d2,.slice p3 q3 d3] 75)=w5 at *
      have y0:=blkc n2' (j:=0) (u:= .slice p1 q1 d1) rfl
      have y1:=blkc n2' (j:=1) (u:= .slice p2 q2 d2) rfl
      have y2:=blkc n2' (j:=2) (u:= .slice p3 q3 d3) rfl
      have HUX:=Lib.hid (HUS.out t hlt _ w5 (HPR.out.behind HB5.out))
      have HSX:=Lib.hid ((HST.out t).trans (by rw[←HSU.out t hlt]))
      have HLO:=Lib.hid (show(useT n fs gs t).length≤4000000 by rw[HLN.out];omega)
      try dsimp only at HUX
      generalize sumK (orAll (ps[t]?.getD []) n.fs.length) n.fs.length=S at *
      generalize useT n fs gs t=ys at HO HLO HSX
      clear n2'
      go_wp2_with fail
      refine HUX.out.mono ?_
      rintro e w6 ⟨x6,rfl,b6⟩
      have HB6:=Lib.hid (HB5.out.trans (b6.mono HB5.out.size))
      have HB7:=Lib.hid (HB.out.trans (HB6.out.mono HB.out.size))
      have HO6:=Lib.hid (HO.out.below HB6.out (fun k hk=>(HO.out.lt k hk).2))
      have HSZ:=Lib.hid (show bo≤w6.heap.size by rw[HBO.out];exact HB7.out.size)
      clear b6 y0 y1 y2
      go_wp2_with (first
       | (at_builtin;go_loud (refine wpList_pushI rfl (.tmp 40) (.tmp 42) 58 rfl Tryz.underlying58 Tryz.infoI bo (.slice ao no co) ys rfl HO6.out rfl HLO.out HSZ.out ?_);intro v8 w8 o8 g8 l8;have HO8:=Lib.hid o8;have HB8:=Lib.hid (HB7.out.grown g8 HB7.out.size (fun q hq=>by have:=(HO6.out.lt q hq).1;have:=HBO.out;omega));obtain⟨a8,n8,c8,rfl⟩:∃a n c,v8= .slice a n c:=own_slice o8;clear o8 g8 l8))
      go_roundw
      case rel=>exact⟨t+1,_,_,_,by omega,by go_num,rfl,by rw[HSX.out];exact HO8.out,HB8.out⟩
      case measure=>simp[intOf];omega
    · obtain rfl:t=8:=by omega
      have HOF:=Lib.hid (HO.out.mono (show w.heap.size≤bo by rw[HBO.out];exact HB2.out.size))
      go_wp2_with fail
      rw[HNP.out]
      exact⟨_,by rw[HE.out.1];rfl,by rw[HE.out.2];exact HOF.out.ofr,HB2.out.trans (HB.out.mono HB2.out.size)⟩
theorem Mv.grown8 {w w6 w8:World} {bo:Nat} {row:Option Nat} (h:Mv (QQ bo) (QQ bo) w w6) (g:w6.grownBy w8 row) (hr:∀q,row=some q→q=bo∨w.heap.size≤q):Mv (QQ bo) (QQ bo) w w8:=
 ⟨g.os.trans h.os,g.tape.trans h.tape,g.output.trans h.output,Nat.le_trans h.size g.size,fun k hk hn=>(g.block k (Nat.lt_of_lt_of_le hk h.size) (fun e=>by
  rcases hr k e.symm with h1 | h1
  · exact hn h1
  · omega)).trans (h.block k hk hn),fun k hk=> .inl hk⟩
theorem specUses_any (v vf vg:Value) (n:Net) (fs:List Fmt) (gs:List Gro) (w:World) (h:NetR w v n) (hf:Rdt w (flt 2 fmE fs) vf) (hg:Rdt w (flt 6 groE gs) vg):
 Calls Tryz.prog 52 #[v,vf,vg] w (UhP n fs gs w):=by
 obtain⟨NP,hNP⟩:∃NP,NP=UhP n fs gs w:=⟨_,rfl⟩
 rw[←hNP]
 have HNP:=Lib.hid hNP
 have HP:=Lib.hid (fun w' (hb:Below w.heap.size w w')=>l26Plan_n v vf vg n fs gs w' (h.behind hb) (hf.behind hb) (hg.behind hb))
 have hnet:=h
 obtain⟨u1,u2,rfl,r1,r2,hsm⟩:=h
 obtain⟨⟨a1,m1,c1,rfl⟩,-⟩:=slice_of_net hnet
 obtain⟨a2,m2,c2,rfl,HN2,hc2,hm2,-⟩:=flt_opn (m:=4) (enc:=fibE) (fun _=>rfl) (by omega) nilB r2
 obtain⟨af,mf,cf,rfl,-,-,-,-⟩:=flt_opn (m:=2) (enc:=fmE) (fun _=>rfl) (by omega) nilFm hf
 obtain⟨ag,mg,cg,rfl,-,-,-,-⟩:=flt_opn (m:=6) (enc:=groE) (fun _=>rfl) (by omega) nilG hg
 have HSM:=Lib.hid (show NetSm n from hsm)
 have HB1:=Lib.hid ((Below.refl w.heap.size w).alloc (Nat.le_refl _) (.cells #[.slice a1 m1 c1,.slice a2 m2 c2] 35))
 have HX1:=Lib.hid (heap_alloc_new w (.cells #[.slice a1 m1 c1,.slice a2 m2 c2] 35))
 clear hnet hf hg hNP r1 r2 hsm
 have HOa:=Lib.hid (own_none (w.alloc (.cells #[.slice a1 m1 c1,.slice a2 m2 c2] 35)) 3)
 have HBa:=Lib.hid (HB1.out.alloc HB1.out.size (.cells #[] 3))
 have HXa:=Lib.hid (kept_o' HX1.out ((Below.refl _ _).alloc (Nat.le_refl _) (.cells #[] 3)))
 go_enter Tryz.func52,Tryz.ntmps52
 go_wp2_with fail
 obtain⟨bx,hbx⟩:∃bx,bx=w.heap.size:=⟨_,rfl⟩
 have hz1:(w.alloc (.cells #[.slice a1 m1 c1,.slice a2 m2 c2] 35)).heap.size=w.heap.size+1:=by simp
 rw[hz1] at HOa
 have hz2:((w.alloc (.cells #[.slice a1 m1 c1,.slice a2 m2 c2] 35)).alloc (.cells #[] 3)).heap.size=w.heap.size+1+1:=by simp
 rw[←hbx] at HX1 HXa HOa hz2 ⊢
 clear hz1
 generalize (w.alloc (.cells #[.slice a1 m1 c1,.slice a2 m2 c2] 35)).alloc (.cells #[] 3)=w1 at *
 refine(HP.out w1 HBa.out).mono ?_
 rintro e w2 ⟨b2,aw,ms,cs,a,m,c,rfl,hpl⟩
 have HB2:=Lib.hid (HBa.out.trans (b2.mono HBa.out.size))
 have HX2:=Lib.hid (kept_o' HXa.out b2)
 have HO2:=Lib.hid (HOa.out.below b2 (fun k hk=>(HOa.out.lt k hk).2))
 have HZ2:=Lib.hid (hz2▸b2.size:bx+1+1≤w2.heap.size)
 have HZ1:=Lib.hid hz2
 have HBX:=Lib.hid hbx
 have HB3:=Lib.hid ((Below.refl w2.heap.size w2).alloc (Nat.le_refl _) (.cells #[.slice aw ms cs,.slice a m c] 95))
 have HX3:=Lib.hid (heap_alloc_new w2 (.cells #[.slice aw ms cs,.slice a m c] 95))
 have HB4:=Lib.hid (HB2.out.trans (HB3.out.mono HB2.out.size))
 clear hz2 hbx
 cases hO:planO n fs gs with
 | none=>
   obtain⟨-,k2⟩:=planB_no hO
   have HE:=Lib.hid (⟨k2,by unfold useH;rw[k2];rfl⟩:planK n fs gs=false∧useH n fs gs=[])
   have HO3:=Lib.hid ((HO2.out.below HB3.out (fun k hk=>(HO2.out.lt k hk).2)).mono (show w.heap.size≤bx+1 by have:=HBX.out;omega))
   rw[k2]
   clear b2 hpl hO k2
   go_wp2
   rw[HNP.out]
   exact⟨_,by rw[HE.out.1];rfl,by rw[HE.out.2];exact HO3.out.ofr,HB4.out⟩
 | some x=>
   obtain⟨ps,r⟩:=x
   have k3:=(planB_of hO).2.2
   have HE:=Lib.hid (⟨k3,by unfold useH;rw[k3];rfl⟩:planK n fs gs=true∧useH n fs gs=useT n fs gs 8)
   rw[k3]
   obtain⟨hg8,-,-⟩:=hpl ps r hO
   obtain⟨hl8,hnok,hlsk⟩:=pls_ok hO
   obtain⟨bs,offs,cc,es,HPL⟩:=pls_atK hg8 hl8 HSM.out
   cases es
   have HLS:=Lib.hid hlsk
   have HNOK:=Lib.hid hnok
   have h14:n.fs.length≤14:=(netOk_yes hnok).2.2.1
   have HU:=Lib.hid (show∀t i,planU n fs gs t i=((popN (usedN (ps[t]?.getD []) (i:Int)):Nat):Int) from fun t i=>by unfold planU;rw[hO])
   have HRP:=Lib.hid (show∀t,t<8→plnOk ⟨n,ps[t]?.getD []⟩=true from fun t ht=>by
    obtain⟨-,h2,h3,h4⟩:=planO_some hO
    have he:ps[t]?= some (ps[t]?.getD []):=by rw[List.getElem?_eq_getElem (by omega)];rfl
    exact runP_pln h2 h3 h4 ht he)
   have HUO:=Lib.hid (fun t (ht:t<8) (vp:Value) (k:Nat) w' (hp:PlnR w' vp ⟨n,ps[t]?.getD []⟩)=>l9Used_any vp ⟨n,ps[t]?.getD []⟩ (k:Int) w' hp ((HLS.out t ht).lgo HNOK.out))
   have HUT:=Lib.hid (fun t (ht:t<8) (k:Nat)=>usedN_lt ((HLS.out t ht).lgo HNOK.out) (k:Int))
   have HUB:=Lib.hid (fun t i=>planU_bd n fs gs t i)
   have HST:=Lib.hid (fun k=>useT_step n fs gs k)
   have HLN:=Lib.hid (fun k=>useT_len n fs gs k)
   have HX5:=Lib.hid (kept_o' HX2.out HB3.out)
   have HX3:=Lib.hid (heap_alloc_new w2 (.cells #[.slice (some ⟨bs,offs,none⟩) 8 cs,.slice a m c] 95))
   have HO3:=Lib.hid (HO2.out.below HB3.out (fun k hk=>(HO2.out.lt k hk).2))
   clear b2 hpl k3 hg8 hl8 hnok hlsk hO HP
   go_upto_region 3 with fail
   obtain⟨bq,hbq⟩:∃bq,bq=w2.heap.size:=⟨_,rfl⟩
   rw[←hbq] at HX3 ⊢
   have HBQ:=Lib.hid hbq
   clear hbq
   generalize w2.alloc (.cells #[.slice (some ⟨bs,offs,none⟩) 8 cs,.slice a m c] 95)=w3 at *
   obtain⟨bo,hbo⟩:∃bo,bo=bx+1:=⟨_,rfl⟩
   rw[←hbo] at HO3 HZ1 HZ2 ⊢
   have HBO:=Lib.hid hbo
   clear hbo
   go_wp2_with fail
   go_loopw [8,11] (fun s8 i wr=>∃(t:Nat) (ao:Option Addr) (no co:Nat),t≤8∧i= .int .i64 t∧s8= .slice ao no co∧Hid (Own wr bo (.slice ao no co) (useT n fs gs t))∧Hid (Mv (QQ bo) (QQ bo) w3 wr)∧Hid (∀g,(Value.slice ao no co).ownBlock=some g→g=bo∨w3.heap.size≤g)) (fun _ i _=>8-(intOf i).toNat)
   case atStart=>exact⟨0,_,_,_,by omega,rfl,rfl,HO3.out,Mv.of_below (Below.refl _ _),fun g hg=> .inl (by simpa[Value.ownBlock] using hg.symm)⟩
   case round=>
    obtain⟨t,ao,no,co,ht,rfl,rfl,HO,HM,HOB⟩:=hrel
    by_cases hlt:t<8
    · have hltI:(t:Int)<8:=by omega
      have HKQ:=Lib.hid (fun wq (hb:Below wr.heap.size wr wq) k (hk:k≠bo) (hl:k<w3.heap.size)=>show wq.heap[k]?= w3.heap[k]? from(hb.block k (Nat.lt_of_lt_of_le hl HM.out.size)).trans (HM.out.block k hl hk))
      have HZ3:=Lib.hid HB3.out.size
      have HPW:=Lib.hid (fun wq (hb:Below wr.heap.size wr wq)=>HPL.out wq (fun k h1 h2=>(HKQ.out wq hb k (by have:=HZ1.out;omega) (Nat.lt_of_lt_of_le h2 HZ3.out)).trans (HB3.out.block k h2)) t hlt)
      have HXN:=Lib.hid (fun wq (hb:Below wr.heap.size wr wq)=>(HKQ.out wq hb bx (by have:=HBO.out;omega) (Array.getElem?_eq_some_iff.1 HX5.out).1).trans HX5.out)
      have HXR:=Lib.hid (fun wq (hb:Below wr.heap.size wr wq)=>(HKQ.out wq hb bq (by have:=HZ2.out;have:=HBQ.out;omega) (Array.getElem?_eq_some_iff.1 HX3.out).1).trans HX3.out)
      have HSX:=Lib.hid (HST.out t)
      have HVU:=Lib.hid (HU.out t)
      have HVB:=Lib.hid (HUB.out t)
      have HCA:=Lib.hid (HUO.out t hlt)
      have HCB:=Lib.hid (HUT.out t hlt)
      have HLO:=Lib.hid (show(useT n fs gs t).length≤4000000 by rw[HLN.out];omega)
      generalize useT n fs gs t=ys at HO HLO HSX
      generalize planU n fs gs t=V at *
      generalize ps[t]?.getD []=ls at *
      go_wp2_with fail
      obtain⟨wo,hwo⟩:∃wo,wo=wr:=⟨_,rfl⟩
      subst hwo
      go_loopw [12,13] (fun s12 i wq=>∃k:Nat,k≤m2∧i= .int .i64 k∧s12= .int .i64 (sumR V k)∧Hid (Below wo.heap.size wo wq)) (fun _ i _=>m2-(intOf i).toNat)
      case atStart=>exact⟨0,by omega,rfl,rfl,Below.refl _ _⟩
      case round=>
       obtain⟨k,hk,rfl,rfl,HB⟩:=hrel
       have z5:=blkc (HXN.out _ HB.out) (j:=1) (u:= .slice a2 m2 c2) rfl
       by_cases hlk:k<m2
       · have hlkI:(k:Int)<(m2:Int):=by omega
         have z3:=blkc (HXR.out _ HB.out) (j:=0) (u:= .slice (some ⟨bs,offs,none⟩) 8 cs) rfl
         obtain⟨p1,q1,d1,p2,q2,d2,p3,q3,d3,e0,e1,e2,hpr⟩:=HPW.out _ HB.out
         have HC1:=Lib.hid (HCA.out _ k _ hpr)
         have HMV:=Lib.hid (HVU.out k)
         have HML:=Lib.hid (HCB.out k)
         have hbd:=sumR_bd HVB.out k
         have hvb:=HVB.out k
         have HSS:=Lib.hid (show sumR V (k+1)=sumR V k+V k from rfl)
         have h14:m2≤14:=by have:=(netOk_yes HNOK.out).2.2.1;have:=HN2.out;omega
         try dsimp only at HC1
         generalize usedN ls (k:Int)=M at *
         generalize sumR V k=S at *
         generalize V k=u at *
         have hw1:IntKind.i64.wrap (S+u)=S+u:=IntWalk.i64_in _ (by omega)
         have hw2:wrap64 (S+u)=S+u:=IntWalk.wrap64_in _ (by omega)
         clear hpr hbd hvb h14
         go_wp2_with fail
         refine HC1.out.mono ?_
         rintro e w7 ⟨rfl,b7⟩
         have HB7:=Lib.hid (HB.out.trans (b7.mono HB.out.size))
         have HCM:=Lib.hid (l8Count_any M HML.out w7)
         rw[←HMV.out] at HCM
         clear b7 z5 z3 e0 e1 e2
         go_wp2_with (go_at_call 83;refine HCM.out.mono ?_;rintro e w' ⟨rfl,rfl⟩)
         go_roundw
         case rel=>exact⟨k+1,by omega,by go_num,by rw[HSS.out],HB7.out⟩
         case measure=>simp[intOf];omega
       · have hlkI:¬(k:Int)<(m2:Int):=by omega
         obtain rfl:k=m2:=by omega
         have HO6:=Lib.hid (HO.out.below HB.out (fun k hk=>(HO.out.lt k hk).2))
         have HM6:=Lib.hid (HM.out.trans (Mv.of_below HB.out))
         have HSZ:=Lib.hid (show bo≤wr.heap.size by have:=HM6.out.size;have:=HZ3.out;have:=HZ2.out;omega)
         rw[HN2.out] at HSX
         generalize sumR V k=S at *
         go_wp2_with (first
          | (at_builtin;go_loud (refine wpList_pushI rfl (.tmp 46) (.tmp 48) 58 rfl Tryz.underlying58 Tryz.infoI bo (.slice ao no co) ys rfl HO6.out rfl HLO.out HSZ.out ?_);intro v8 w8 o8 g8 l8;have HO8:=Lib.hid o8;have HM8:=Lib.hid (show Mv (QQ bo) (QQ bo) w3 w8 from HM6.out.grown8 g8 HOB.out);have HOB8:=Lib.hid (show∀g,v8.ownBlock=some g→g=bo∨w3.heap.size≤g from fun g hg=>(l8 g hg).elim (fun h=>HOB.out g h) (fun h=> .inr (Nat.le_trans HM6.out.size h)));obtain⟨a8,n8,c8,rfl⟩:∃a n c,v8= .slice a n c:=own_slice o8;clear o8 g8 l8))
         go_roundw
         case rel=>exact⟨t+1,_,_,_,by omega,by go_num,rfl,by rw[HSX.out];exact HO8.out,HM8.out,HOB8.out⟩
         case measure=>simp[intOf];omega
    · have hltI:¬(t:Int)<8:=by omega
      obtain rfl:t=8:=by omega
      have HOF:=Lib.hid (HO.out.mono (show w.heap.size≤bo by have:=HBO.out;have:=HBX.out;omega))
      have HBF:=Lib.hid (HM.out.below HB4.out HB4.out.size (fun g hg=>by have:=HBO.out;have:=HBX.out;rw[show g=bo from hg];omega))
      go_wp2_with fail
      rw[HNP.out]
      exact⟨_,by rw[HE.out.1],by rw[HE.out.2];exact HOF.out.ofr,HBF.out⟩
end Go.Proofs.YtofcicomhnkocaaGreat
