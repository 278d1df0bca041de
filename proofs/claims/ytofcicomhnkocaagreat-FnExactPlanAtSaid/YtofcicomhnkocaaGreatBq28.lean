/- Joined: XBlg XPkp XPla XPlw XHln XPhd. -/
import Derived.Test.YtofcicomhnkocaaGreatAls
import Derived.Test.YtofcicomhnkocaaGreatBq06
import Derived.Test.YtofcicomhnkocaaGreatBq27
import Derived.Test.YtofcicomhnkocaaGreatBq04
import Derived.Test.YtofcicomhnkocaaGreatBq03
import Derived.Test.YtofcicomhnkocaaGreatBq08
set_option linter.unusedVariables false
namespace Go.Proofs.YtofcicomhnkocaaGreat
set_option maxHeartbeats 3200000
open Go.RowKit Go.Sort
set_option maxRecDepth 100000
def planK (n:Net) (fs:List Fmt) (gs:List Gro):Bool:=(planO n fs gs).isSome
def planB (n:Net) (fs:List Fmt) (gs:List Gro):List Int:=match planO n fs gs with
 | none=>[]
 | some (_,r)=>ust r.bl
theorem planO_some {n:Net} {fs:List Fmt} {gs:List Gro} {ps:List (List Lgt)} {r:PRun} (h:planO n fs gs=some (ps,r)):fmOk fs=true∧netOk n=true∧GrsP n gs∧runP n fs gs 8=some (ps,r):=by
 unfold planO at h
 split at h
 · rename_i hc
   rw[Bool.and_eq_true] at hc
   obtain⟨h1,h2⟩:=grsOk_parts hc.2
   exact⟨hc.1,h1,h2,h⟩
 · cases h
theorem planB_of {n:Net} {fs:List Fmt} {gs:List Gro} {ps:List (List Lgt)} {r:PRun} (h:planO n fs gs=some (ps,r)):planB n fs gs=ust r.bl∧srt r.bl=ust r.bl∧planK n fs gs=true:=by
 obtain⟨-,-,h3,h4⟩:=planO_some h
 refine⟨by unfold planB;rw[h],srt_ust (runP_nd h3 h4),by unfold planK;rw[h];rfl⟩
def PlsR (n:Net) (fs:List Fmt) (gs:List Gro) (base:Nat) (w':World) (s b:Value):Prop:=∀ps r,planO n fs gs=some (ps,r)→
 GrwX w' base 75 3 s 8 ((ps.map (Pln.mk n)).flatMap plnD) (fun k=>b.ownBlock=some k)∧Own w' base b (planB n fs gs)∧ ∀g,s.ownBlock=some g→b.ownBlock≠some g
def PldN (n:Net) (fs:List Fmt) (gs:List Gro) (w:World) (e:Ending) (w':World):Prop:=Below w.heap.size w w'∧ ∃aw ms cs a m c,e= .returned (.tuple #[.slice aw ms cs,.slice a m c,.bool (planK n fs gs)])∧PlsR n fs gs w.heap.size w' (.slice aw ms cs) (.slice a m c)∧(planK n fs gs=false→(.slice a m c:Value)= .slice none 0 0)
def PleN (n:Net) (fs:List Fmt) (gs:List Gro) (w:World) (e:Ending) (w':World):Prop:=Below w.heap.size w w'∧ ∃aw ms cs a m c,e= .returned (.tuple #[.agg #[.slice aw ms cs,.slice a m c],.bool (planK n fs gs)])∧PlsR n fs gs w.heap.size w' (.slice aw ms cs) (.slice a m c)
theorem planned_n (v vf vg:Value) (n:Net) (fs:List Fmt) (gs:List Gro) (w:World) (h:NetR w v n) (hf:Rdt w (flt 2 fmE fs) vf) (hg:Rdt w (flt 6 groE gs) vg):
 Calls Tryz.prog 64 #[v,vf,vg] w (PldN n fs gs w):=by
 refine(planned_any v vf vg n fs gs w h hf hg).mono ?_
 intro e w' hp
 obtain⟨hb,hp⟩:=hp
 refine⟨hb,?_⟩
 cases hO:planO n fs gs with
 | none=>
   rw[hO] at hp
   exact⟨_,_,_,_,_,_,by rw[show planK n fs gs=false by unfold planK;rw[hO];rfl];exact hp,(fun ps r e=>by rw[hO] at e;cases e),fun _=>rfl⟩
 | some x=>
   obtain⟨ps,r⟩:=x
   rw[hO] at hp
   obtain⟨s,b,he,h1,h2,h3⟩:=hp
   obtain⟨k1,k2,k3⟩:=planB_of hO
   obtain⟨-,a1,c1,rfl⟩:=h1.grw.form
   obtain⟨a2,m2,c2,rfl⟩:=own_slice h2
   refine⟨_,_,_,_,_,_,by rw[k3];exact he,(fun ps' r' e=> ?_),fun e=>by rw[k3] at e;cases e⟩
   rw[hO] at e
   cases e
   exact⟨h1,by rw[k1,←k2];exact h2,h3⟩
theorem l26Plan_n (v vf vg:Value) (n:Net) (fs:List Fmt) (gs:List Gro) (w:World) (h:NetR w v n) (hf:Rdt w (flt 2 fmE fs) vf) (hg:Rdt w (flt 6 groE gs) vg):
 Calls Tryz.prog 58 #[v,vf,vg] w (PleN n fs gs w):=by
 refine(l26Plan_any v vf vg n fs gs w h hf hg).mono ?_
 intro e w' hp
 obtain⟨hb,hp⟩:=hp
 refine⟨hb,?_⟩
 cases hO:planO n fs gs with
 | none=>
   rw[hO] at hp
   obtain⟨a1,m1,c1,a2,m2,c2,he⟩:=hp
   exact⟨_,_,_,_,_,_,by rw[show planK n fs gs=false by unfold planK;rw[hO];rfl];exact he,(fun ps r e=>by rw[hO] at e;cases e)⟩
 | some x=>
   obtain⟨ps,r⟩:=x
   rw[hO] at hp
   obtain⟨s,b,he,h1,h2,h3⟩:=hp
   obtain⟨k1,k2,k3⟩:=planB_of hO
   obtain⟨-,a1,c1,rfl⟩:=h1.grw.form
   obtain⟨a2,m2,c2,rfl⟩:=own_slice h2
   refine⟨_,_,_,_,_,_,by rw[k3];exact he,(fun ps' r' e=> ?_)⟩
   rw[hO] at e
   cases e
   exact⟨h1,by rw[k1];exact h2,h3⟩
theorem planB_no {n:Net} {fs:List Fmt} {gs:List Gro} (h:planO n fs gs=none):planB n fs gs=[]∧planK n fs gs=false:=by
 unfold planB planK;rw[h];exact⟨rfl,rfl⟩
theorem pln_nth (n:Net) (ps:List (List Lgt)) (t:Nat):(ps.map (Pln.mk n))[t]?.getD ⟨n,[]⟩=⟨n,ps[t]?.getD []⟩:=by
 rw[List.getElem?_map]
 cases ps[t]? <;> rfl
theorem pls_ok {n:Net} {fs:List Fmt} {gs:List Gro} {ps:List (List Lgt)} {r:PRun} (h:planO n fs gs=some (ps,r)):ps.length=8∧netOk n=true∧ ∀t,t<8→LsK n (ps[t]?.getD []):=by
 obtain⟨-,h2,h3,h4⟩:=planO_some h
 refine⟨runP_len h4,h2,fun t ht=> ?_⟩
 obtain⟨rt,e1,hr,-⟩:=(runP_all h3 h4).2 t ht
 rw[e1]
 exact hr.lsk h3
theorem nodup_at {fs:List (List Nat)} (h:fs.flatten.Nodup) {i j:Nat} {f g:List Nat} (hf:fs[i]?= some f) (hg:fs[j]?= some g) (hij:i<j):f.Nodup∧g.Nodup∧ ∀x∈f,∀y∈g,x≠y:=by
 obtain⟨h1,h2⟩:=nodup_flatten.1 h
 obtain⟨hi,e1⟩:=ξl hf
 obtain⟨hj,e2⟩:=ξl hg
 subst e1;subst e2
 rw[List.pairwise_iff_getElem] at h2
 exact⟨h1 _ (List.getElem_mem hi),h1 _ (List.getElem_mem hj),h2 i j hi hj hij⟩
theorem pls_own {w':World} {base:Nat} {n:Net} {ps:List (List Lgt)} {s:Value} {X:Nat→Prop} (h:GrwX w' base 75 3 s 8 ((ps.map (Pln.mk n)).flatMap plnD) X) (hl:ps.length=8):
 ∃b off c,s= .slice (some ⟨b,off,none⟩) 8 c∧Hid (∀t,t<8→ ∃a1 m1 c1 a2 m2 c2 a3 m3 c3 fp,w'.cell? ⟨b,off+t * 3,none⟩=some (.slice a1 m1 c1)∧w'.cell? ⟨b,off+t * 3+1,none⟩=some (.slice a2 m2 c2)∧w'.cell? ⟨b,off+t * 3+2,none⟩=some (.slice a3 m3 c3)∧
  PlnO w' ⟨n,ps[t]?.getD []⟩ (.agg #[.slice a1 m1 c1,.slice a2 m2 c2,.slice a3 m3 c3]) fp∧fp.Nodup∧ ∀k∈fp,base≤k∧k<w'.heap.size):=by
 have hlen:((ps.map (Pln.mk n)).flatMap plnD).length=24:=by
  have:=rws_len (m:=3) (en:=plnD) (fun _=>rfl) (ps.map (Pln.mk n))
  rw[this,List.length_map,hl]
 obtain⟨e8,a0,cap0,ev⟩:=h.grw.form
 have hne:s≠ .slice none 0 0:=by
  rw[ev];intro e;injection e with e1 e2 e3;omega
 obtain⟨g,off,n',cap,us,fs,rfl,hul,-,-,hbg,hgw,hE,-,hcell⟩:=h.grw.ofr.els hne
 have hn':n'=8:=by
  rw[hE.ul,hlen] at hul;omega
 subst hn'
 refine⟨g,off,cap,rfl,fun t ht=> ?_⟩
 have hg3:∀r,r<3→ ∃u f,us[t*3+r]?= some u∧fs[t*3+r]?= some f∧w'.cell? ⟨g,off+(t*3+r),none⟩=some u:=fun r hr=>by
  have e1:t * 3+r<us.length:=by rw[hE.ul,hlen];omega
  have e2:t * 3+r<fs.length:=by rw[hE.fl,hlen];omega
  refine⟨_,_,ξg e1,ξg e2,?_⟩
  have:=hcell (t*3+r) _ (ξg e1)
  rwa [show(⟨g,off,none⟩:Addr).add (t*3+r)=⟨g,off+(t*3+r),none⟩ by simp[Addr.add]] at this
 have hd:∀r,r<3→((ps.map (Pln.mk n)).flatMap plnD)[t*3+r]?= (plnD ⟨n,ps[t]?.getD []⟩)[r]?:=fun r hr=>by
  rw[rws_at (m:=3) (en:=plnD) (fun _=>rfl) ⟨n,[]⟩ (ps.map (Pln.mk n)) (i:=t) (by rw[List.length_map,hl];exact ht) hr,pln_nth]
 obtain⟨u0,f0,a0,b0,c0⟩:=hg3 0 (by omega)
 obtain⟨u1,f1,a1,b1,c1⟩:=hg3 1 (by omega)
 obtain⟨u2,f2,a2,b2,c2⟩:=hg3 2 (by omega)
 have o0:Odt w' (flt 1 strE n.ns) u0 f0:=hE.els _ _ _ _ (hd 0 (by omega)) a0 b0
 have o1:Odt w' (flt 4 fibE n.fs) u1 f1:=hE.els _ _ _ _ (hd 1 (by omega)) a1 b1
 have o2:Odt w' (rws 5 lgtD (ps[t]?.getD [])) u2 f2:=hE.els _ _ _ _ (hd 2 (by omega)) a2 b2
 obtain⟨n0,n1,x01⟩:=nodup_at hE.nd b0 b1 (by omega)
 obtain⟨-,n2,x02⟩:=nodup_at hE.nd b0 b2 (by omega)
 obtain⟨-,-,x12⟩:=nodup_at hE.nd b1 b2 (by omega)
 obtain⟨p0,q0,d0,rfl⟩:=Rdt.slice (show Rdt w' (.rows _ _) u0 from o0.rd)
 obtain⟨p1,q1,d1,rfl⟩:=Rdt.slice (show Rdt w' (.rows _ _) u1 from o1.rd)
 obtain⟨p2,q2,d2,rfl⟩:=Rdt.slice (show Rdt w' (.rows _ _) u2 from o2.rd)
 have hm:∀{r:Nat} {f:List Nat},fs[t*3+r]?= some f→ ∀k∈f,base≤k∧k<w'.heap.size:=fun hf k hk=>by
  have:k∈fs.flatten:=List.mem_flatten.2 ⟨_,List.mem_of_getElem? hf,hk⟩
  exact⟨hE.lo k this,hE.lt k this⟩
 refine⟨p0,q0,d0,p1,q1,d1,p2,q2,d2,(f0++f1)++f2,by rw[←c0];rfl,by rw[←c1];rfl,by rw[←c2];rfl,⟨_,_,_,f0,f1,f2,rfl,o0,o1,o2,rfl⟩,?_,fun k hk=> ?_⟩
 · refine List.nodup_append.2 ⟨List.nodup_append.2 ⟨n0,n1,x01⟩,n2,fun x hx y hy=> ?_⟩
   rcases List.mem_append.1 hx with hx | hx
   · exact x02 x hx y hy
   · exact x12 x hx y hy
 · rcases List.mem_append.1 hk with hk | hk
   · rcases List.mem_append.1 hk with hk | hk
     · exact hm b0 k hk
     · exact hm b1 k hk
   · exact hm b2 k hk
def plaK (n:Net) (fs:List Fmt) (gs:List Gro) (p:Int):Bool:=planK n fs gs&&inB p 0 7
def plaR (n:Net) (fs:List Fmt) (gs:List Gro) (p:Int):Pln:=match planO n fs gs with
 | none=>⟨⟨[],[]⟩,[]⟩
 | some (ps,_)=>if inB p 0 7 then⟨n,ps[p.toNat]?.getD []⟩ else⟨⟨[],[]⟩,[]⟩
def PlaP (n:Net) (fs:List Fmt) (gs:List Gro) (p:Int) (w:World) (e:Ending) (w':World):Prop:=∃v fp,e= .returned (.tuple #[v,.bool (plaK n fs gs p)])∧PlnO w' (plaR n fs gs p) v fp∧fp.Nodup∧(∀k∈fp,w.heap.size≤k∧k<w'.heap.size)∧Below w.heap.size w w'
theorem nilP_own (w:World):PlnO w ⟨⟨[],[]⟩,[]⟩ (.agg #[.slice none 0 0,.slice none 0 0,.slice none 0 0]) []:=⟨_,_,_,[],[],[],rfl,.nil _,.nil _,.nil _,rfl⟩
theorem totL_bd {B:Nat} :∀(zs:List Lgt),(∀x∈zs,x.fb.length≤B)→totL zs≤B*zs.length
 | [],_=>by simp[totL]
 | x::zs,h=>by
   have h1:=h x (List.mem_cons_self ..)
   have h2:=totL_bd zs fun y hy=>h y (List.mem_cons_of_mem _ hy)
   have e:totL (x::zs)=x.fb.length+totL zs:=by simp[totL]
   rw[e,List.length_cons,Nat.mul_add];omega
def PlnB (P:Pln):Prop:=NetSm P.n∧P.n.ns.length≤1048576∧P.n.fs.length≤1048576∧4*P.ls.length+totL P.ls≤67108864∧mkP P≤134217728
theorem plaR_bd {n:Net} {fs:List Fmt} {gs:List Gro} {p:Int} (hs:NetSm n):PlnB (plaR n fs gs p):=by
 have h0:PlnB ⟨⟨[],[]⟩,[]⟩:=⟨fun i=>by show(nmA ⟨[],[]⟩ i).size≤_;simp[nmA,nilS];exact Nat.zero_le _,by simp,by simp,by simp[totL],by simp[mkP,mkN,totL]⟩
 unfold plaR
 split
 · exact h0
 · rename_i ps r hO
   split
   · rename_i hp
     obtain⟨h8,hn,hk⟩:=pls_ok hO
     have hi:p.toNat<8:=by
      unfold inB at hp
      simp only[Bool.and_eq_true,decide_eq_true_eq] at hp
      omega
     have hl:=hk p.toNat hi
     have ht:=totL_bd _ (hl.fb hn)
     have hl12:=hl.1
     have h1:=(netOk_yes hn).2.1
     have h2:=(netOk_yes hn).2.2.1
     generalize ps[p.toNat]?.getD []=ls at *
     have hm:totL ls≤12000000:=by omega
     refine⟨hs,ξs h1 (by decide),ξs h2 (by decide),?_,?_⟩
     · show 4*ls.length+totL ls≤67108864;omega
     · unfold mkP
       have:mkN n=n.ns.length+4*n.fs.length:=rfl
       show mkN n+(4*ls.length+totL ls)≤134217728
       omega
   · exact h0
theorem implPla_any (p:Int) (v vf vg:Value) (n:Net) (fs:List Fmt) (gs:List Gro) (w:World) (h:NetR w v n) (hf:Rdt w (flt 2 fmE fs) vf) (hg:Rdt w (flt 6 groE gs) vg):
 Calls Tryz.prog 45 #[v,vf,vg,.int .i64 p] w (PlaP n fs gs p w):=by
 obtain⟨NP,hNP⟩:∃NP,NP=PlaP n fs gs p w:=⟨_,rfl⟩
 rw[←hNP]
 have HNP:=ξh hNP
 have HP:=ξh (fun w' (hb:Below w.heap.size w w')=>planned_n v vf vg n fs gs w' (h.behind hb) (hf.behind hb) (hg.behind hb))
 have hnet:=h
 obtain⟨u1,u2,rfl,r1,r2,hsm⟩:=h
 obtain⟨⟨a1,m1,c1,rfl⟩,-⟩:=slice_of_net hnet
 obtain⟨a2,m2,c2,rfl,-,-,-,-⟩:=flt_opn (m:=4) (enc:=fibE) (fun _=>rfl) (by omega) nilB r2
 obtain⟨af,mf,cf,rfl,-,-,-,-⟩:=flt_opn (m:=2) (enc:=fmE) (fun _=>rfl) (by omega) nilFm hf
 obtain⟨ag,mg,cg,rfl,-,-,-,-⟩:=flt_opn (m:=6) (enc:=groE) (fun _=>rfl) (by omega) nilG hg
 have HB1:=ξh (((ξb w.heap.size w).alloc (ξr _) (.cells #[.slice a1 m1 c1,.slice a2 m2 c2] 35)).alloc (by simp) (.cells #[.slice none 0 0,.slice none 0 0,.slice none 0 0] 75))
 have HX1:=ξh (ξn (w.alloc (.cells #[.slice a1 m1 c1,.slice a2 m2 c2] 35)) (.cells #[.slice none 0 0,.slice none 0 0,.slice none 0 0] 75))
 have hz1:(w.alloc (.cells #[.slice a1 m1 c1,.slice a2 m2 c2] 35)).heap.size=w.heap.size+1:=by simp
 rw[hz1] at HX1
 clear hnet hf hg hNP r1 r2 hsm hz1
 go_enter Tryz.func45,Tryz.ntmps45
 go_wp2_with fail
 generalize (w.alloc (.cells #[.slice a1 m1 c1,.slice a2 m2 c2] 35)).alloc (.cells #[.slice none 0 0,.slice none 0 0,.slice none 0 0] 75)=w1 at *
 obtain⟨bp,hbp⟩:∃bp,bp=w.heap.size+1:=⟨_,rfl⟩
 have HBP:=ξh (show w.heap.size≤bp by omega)
 rw[←hbp] at HX1 ⊢
 clear hbp
 refine(HP.out w1 HB1.out).mono ?_
 rintro e w2 ⟨b2,aw,ms,cs,a,m,c,rfl,hpl,hno⟩
 have HB2:=ξh (HB1.out.trans (b2.mono HB1.out.size))
 have HX2:=ξh (kept_o' HX1.out b2)
 have HZ1:=ξh HB1.out.size
 cases hO:planO n fs gs with
 | none=>
   obtain⟨-,k2⟩:=planB_no hO
   have HE:=ξh (⟨by unfold plaK;rw[k2];rfl,by unfold plaR;rw[hO]⟩:plaK n fs gs p=false∧plaR n fs gs p=⟨⟨[],[]⟩,[]⟩)
   rw[k2]
   clear b2 hpl hO hno k2
   go_wp2_with ((show wpList _ _ _ (⟨none,.store 75 _ _,_,_,_,_⟩::_) _ _);refine wpList_stx rfl 75 _ _ rfl bp 0 [.slice none 0 0,.slice none 0 0,.slice none 0 0] rfl rfl HX2.out (by simp) (by kernel_rfl) (by simp[Value.oneCell']) ?_;intro w8 hs;have N8:=ξh hs.blk;have HB8:=ξh (hs.below w.heap.size w HBP.out HB2.out);have HS8:=ξh hs;clear hs)
   have z0:=blkc N8.out (j:=0) (u:= .slice none 0 0) rfl
   have z1:=blkc N8.out (j:=1) (u:= .slice none 0 0) rfl
   have z2:=blkc N8.out (j:=2) (u:= .slice none 0 0) rfl
   rw[HNP.out]
   exact bodyPost_ret (v:= .tuple #[.agg #[.slice none 0 0,.slice none 0 0,.slice none 0 0],.bool false]) (by simp[results,Tryz.results45,go_sem,z0,z1,z2]) rfl ⟨_,[],by rw[HE.out.1],by rw[HE.out.2];exact nilP_own _,List.nodup_nil,fun k hk=>(by cases hk),HB8.out⟩
 | some x=>
   obtain⟨ps,r⟩:=x
   have k3:=(planB_of hO).2.2
   rw[k3]
   obtain⟨hg8,-,-⟩:=hpl ps r hO
   obtain⟨hl8,-,-⟩:=pls_ok hO
   obtain⟨bs,offs,cc,es,HPL⟩:=pls_own hg8 hl8
   cases es
   cases hin:inB p 0 7 with
   | false=>
     have HE:=ξh (⟨by unfold plaK;rw[hin,Bool.and_false],by unfold plaR;rw[hO];simp only;rw[if_neg (by rw[hin];decide)]⟩:plaK n fs gs p=false∧plaR n fs gs p=⟨⟨[],[]⟩,[]⟩)
     clear b2 hpl hO hno k3 hg8 hl8 HPL HP
     go_wp2_with (first | (go_at_call 74;refine(within_any _ _ _ _).mono ?_;rintro e w' ⟨rfl,rfl⟩;rw[hin]) | ((show wpList _ _ _ (⟨none,.store 75 _ _,_,_,_,_⟩::_) _ _);refine wpList_stx rfl 75 _ _ rfl bp 0 [.slice none 0 0,.slice none 0 0,.slice none 0 0] rfl rfl HX2.out (by simp) (by kernel_rfl) (by simp[Value.oneCell']) ?_;intro w8 hs;have N8:=ξh hs.blk;have HB8:=ξh (hs.below w.heap.size w HBP.out HB2.out);have HS8:=ξh hs;clear hs))
     have z0:=blkc N8.out (j:=0) (u:= .slice none 0 0) rfl
     have z1:=blkc N8.out (j:=1) (u:= .slice none 0 0) rfl
     have z2:=blkc N8.out (j:=2) (u:= .slice none 0 0) rfl
     rw[HNP.out]
     exact bodyPost_ret (v:= .tuple #[.agg #[.slice none 0 0,.slice none 0 0,.slice none 0 0],.bool false]) (by simp[results,Tryz.results45,go_sem,z0,z1,z2]) rfl ⟨_,[],by rw[HE.out.1],by rw[HE.out.2];exact nilP_own _,List.nodup_nil,fun k hk=>(by cases hk),HB8.out⟩
   | true=>
     have HE:=ξh (⟨by unfold plaK;rw[k3,hin];rfl,by unfold plaR;rw[hO];simp only;rw[if_pos hin]⟩:plaK n fs gs p=true∧plaR n fs gs p=⟨n,ps[p.toNat]?.getD []⟩)
     obtain⟨t,rfl⟩:∃t:Nat,p=(t:Int):=⟨p.toNat,by unfold inB at hin;simp at hin;omega⟩
     have ht:t<8:=by unfold inB at hin;simp at hin;omega
     have htI:(t:Int)<8:=by omega
     have ht0:(0:Int)≤(t:Int):=by omega
     rw[Int.toNat_natCast] at HE
     obtain⟨t1,u1,v1,t2,u2,v2,t3,u3,v3,fp,d0,d1,d2,ho,hnd,hlo⟩:=HPL.out t ht
     have HO:=ξh ho
     have HND:=ξh hnd
     have HLO:=ξh hlo
     have HZ2:=ξh (show bp<w1.heap.size from(ξa HX1.out).1)
     have HAP:=ξh (show∀k∈fp,k≠bp from fun k hk=>by have:=hlo k hk;have:=HZ2.out;omega)
     clear b2 hpl hO hno k3 hg8 hl8 HPL HP ho hnd hlo
     go_wp2_with (first | (go_at_call 74;refine(within_any _ _ _ _).mono ?_;rintro e w' ⟨rfl,rfl⟩;rw[hin]) | ((show wpList _ _ _ (⟨none,.store 75 _ _,_,_,_,_⟩::_) _ _);refine wpList_stx rfl 75 _ _ rfl bp 0 [.slice t1 u1 v1,.slice t2 u2 v2,.slice t3 u3 v3] rfl rfl HX2.out (by simp) (by kernel_rfl) (by simp[Value.oneCell']) ?_;intro w8 hs;have N8:=ξh hs.blk;have HB8:=ξh (hs.below w.heap.size w HBP.out HB2.out);have HS8:=ξh hs;clear hs))
     have HO8:=ξh (HO.out.kept (w':=w8) fun k hk=>HS8.out.other k (HAP.out k hk))
     have z0:=blkc N8.out (j:=0) (u:= .slice t1 u1 v1) rfl
     have z1:=blkc N8.out (j:=1) (u:= .slice t2 u2 v2) rfl
     have z2:=blkc N8.out (j:=2) (u:= .slice t3 u3 v3) rfl
     rw[HNP.out]
     exact bodyPost_ret (v:= .tuple #[.agg #[.slice t1 u1 v1,.slice t2 u2 v2,.slice t3 u3 v3],.bool true]) (by simp[results,Tryz.results45,go_sem,z0,z1,z2]) rfl ⟨_,fp,by rw[HE.out.1],by rw[HE.out.2];exact HO8.out,HND.out,fun k hk=>⟨ξs (HB1.out.size) (HLO.out k hk).1,by rw[HS8.out.size];exact(HLO.out k hk).2⟩,HB8.out⟩
theorem specPla_any (p:Int) (v vf vg:Value) (n:Net) (fs:List Fmt) (gs:List Gro) (w:World) (h:NetR w v n) (hf:Rdt w (flt 2 fmE fs) vf) (hg:Rdt w (flt 6 groE gs) vg):
 Calls Tryz.prog 46 #[v,vf,vg,.int .i64 p] w (PlaP n fs gs p w):=by
 obtain⟨NP,hNP⟩:∃NP,NP=PlaP n fs gs p w:=⟨_,rfl⟩
 rw[←hNP]
 have HNP:=ξh hNP
 have HP:=ξh (fun w' (hb:Below w.heap.size w w')=>l26Plan_n v vf vg n fs gs w' (h.behind hb) (hf.behind hb) (hg.behind hb))
 have hnet:=h
 obtain⟨u1,u2,rfl,r1,r2,hsm⟩:=h
 obtain⟨⟨a1,m1,c1,rfl⟩,-⟩:=slice_of_net hnet
 obtain⟨a2,m2,c2,rfl,-,-,-,-⟩:=flt_opn (m:=4) (enc:=fibE) (fun _=>rfl) (by omega) nilB r2
 obtain⟨af,mf,cf,rfl,-,-,-,-⟩:=flt_opn (m:=2) (enc:=fmE) (fun _=>rfl) (by omega) nilFm hf
 obtain⟨ag,mg,cg,rfl,-,-,-,-⟩:=flt_opn (m:=6) (enc:=groE) (fun _=>rfl) (by omega) nilG hg
 have HB1:=ξh (((ξb w.heap.size w).alloc (ξr _) (.cells #[.slice a1 m1 c1,.slice a2 m2 c2] 35)).alloc (by simp) (.cells #[.slice none 0 0,.slice none 0 0,.slice none 0 0] 75))
 have HX1:=ξh (ξn (w.alloc (.cells #[.slice a1 m1 c1,.slice a2 m2 c2] 35)) (.cells #[.slice none 0 0,.slice none 0 0,.slice none 0 0] 75))
 have hz1:(w.alloc (.cells #[.slice a1 m1 c1,.slice a2 m2 c2] 35)).heap.size=w.heap.size+1:=by simp
 rw[hz1] at HX1
 clear hnet hf hg hNP r1 r2 hsm hz1
 go_enter Tryz.func46,Tryz.ntmps46
 go_wp2_with fail
 generalize (w.alloc (.cells #[.slice a1 m1 c1,.slice a2 m2 c2] 35)).alloc (.cells #[.slice none 0 0,.slice none 0 0,.slice none 0 0] 75)=w1 at *
 obtain⟨bp,hbp⟩:∃bp,bp=w.heap.size+1:=⟨_,rfl⟩
 have HBP:=ξh (show w.heap.size≤bp by omega)
 rw[←hbp] at HX1 ⊢
 clear hbp
 refine(HP.out w1 HB1.out).mono ?_
 rintro e w2 ⟨b2,aw,ms,cs,a,m,c,rfl,hpl⟩
 have HB2:=ξh (HB1.out.trans (b2.mono HB1.out.size))
 have HX2:=ξh (kept_o' HX1.out b2)
 have ha3:=(ξb w2.heap.size w2).alloc (ξr _) (.cells #[.slice aw ms cs,.slice a m c] 95)
 have HB3:=ξh (HB2.out.trans (ha3.mono HB2.out.size))
 have HX3:=ξh (kept_o' HX2.out ha3)
 have HA3:=ξh ha3
 have HS2:=ξh b2.size
 clear ha3
 cases hO:planO n fs gs with
 | none=>
   obtain⟨-,k2⟩:=planB_no hO
   have HE:=ξh (⟨by unfold plaK;rw[k2];rfl,by unfold plaR;rw[hO]⟩:plaK n fs gs p=false∧plaR n fs gs p=⟨⟨[],[]⟩,[]⟩)
   rw[k2]
   clear b2 hpl hO k2
   go_wp2_with ((show wpList _ _ _ (⟨none,.store 75 _ _,_,_,_,_⟩::_) _ _);refine wpList_stx rfl 75 _ _ rfl bp 0 [.slice none 0 0,.slice none 0 0,.slice none 0 0] rfl rfl HX3.out (by simp) (by kernel_rfl) (by simp[Value.oneCell']) ?_;intro w8 hs;have N8:=ξh hs.blk;have HB8:=ξh (hs.below w.heap.size w HBP.out HB3.out);have HS8:=ξh hs;clear hs)
   have z0:=blkc N8.out (j:=0) (u:= .slice none 0 0) rfl
   have z1:=blkc N8.out (j:=1) (u:= .slice none 0 0) rfl
   have z2:=blkc N8.out (j:=2) (u:= .slice none 0 0) rfl
   rw[HNP.out]
   exact bodyPost_ret (v:= .tuple #[.agg #[.slice none 0 0,.slice none 0 0,.slice none 0 0],.bool false]) (by simp[results,Tryz.results46,go_sem,z0,z1,z2]) rfl ⟨_,[],by rw[HE.out.1],by rw[HE.out.2];exact nilP_own _,List.nodup_nil,fun k hk=>(by cases hk),HB8.out⟩
 | some x=>
   obtain⟨ps,r⟩:=x
   have k3:=(planB_of hO).2.2
   rw[k3]
   obtain⟨hg8,-,-⟩:=hpl ps r hO
   obtain⟨hl8,-,-⟩:=pls_ok hO
   obtain⟨bs,offs,cc,es,HPL⟩:=pls_own hg8 hl8
   cases es
   cases hin:inB p 0 7 with
   | false=>
     have HE:=ξh (⟨by unfold plaK;rw[hin,Bool.and_false],by unfold plaR;rw[hO];simp only;rw[if_neg (by rw[hin];decide)]⟩:plaK n fs gs p=false∧plaR n fs gs p=⟨⟨[],[]⟩,[]⟩)
     clear b2 hpl hO k3 hg8 hl8 HPL HP
     go_wp2_with (first | (go_at_call 77;refine(l1In_any _ _ _ _).mono ?_;rintro e w' ⟨rfl,rfl⟩;rw[hin]) | ((show wpList _ _ _ (⟨none,.store 75 _ _,_,_,_,_⟩::_) _ _);refine wpList_stx rfl 75 _ _ rfl bp 0 [.slice none 0 0,.slice none 0 0,.slice none 0 0] rfl rfl HX3.out (by simp) (by kernel_rfl) (by simp[Value.oneCell']) ?_;intro w8 hs;have N8:=ξh hs.blk;have HB8:=ξh (hs.below w.heap.size w HBP.out HB3.out);have HS8:=ξh hs;clear hs))
     have z0:=blkc N8.out (j:=0) (u:= .slice none 0 0) rfl
     have z1:=blkc N8.out (j:=1) (u:= .slice none 0 0) rfl
     have z2:=blkc N8.out (j:=2) (u:= .slice none 0 0) rfl
     rw[HNP.out]
     exact bodyPost_ret (v:= .tuple #[.agg #[.slice none 0 0,.slice none 0 0,.slice none 0 0],.bool false]) (by simp[results,Tryz.results46,go_sem,z0,z1,z2]) rfl ⟨_,[],by rw[HE.out.1],by rw[HE.out.2];exact nilP_own _,List.nodup_nil,fun k hk=>(by cases hk),HB8.out⟩
   | true=>
     have HE:=ξh (⟨by unfold plaK;rw[k3,hin];rfl,by unfold plaR;rw[hO];simp only;rw[if_pos hin]⟩:plaK n fs gs p=true∧plaR n fs gs p=⟨n,ps[p.toNat]?.getD []⟩)
     obtain⟨t,rfl⟩:∃t:Nat,p=(t:Int):=⟨p.toNat,by unfold inB at hin;simp at hin;omega⟩
     have ht:t<8:=by unfold inB at hin;simp at hin;omega
     have htI:(t:Int)<8:=by omega
     have ht0:(0:Int)≤(t:Int):=by omega
     rw[Int.toNat_natCast] at HE
     obtain⟨t1,u1,v1,t2,u2,v2,t3,u3,v3,fp,d0,d1,d2,ho,hnd,hlo⟩:=HPL.out t ht
     have HO:=ξh ho
     have HND:=ξh hnd
     have HLO:=ξh hlo
     have HZ2:=ξh (show bp<w1.heap.size from(ξa HX1.out).1)
     have HAP:=ξh (show∀k∈fp,k≠bp from fun k hk=>by have:=hlo k hk;have:=HZ2.out;omega)
     have HO3:=ξh (HO.out.behind HA3.out)
     have hbs2:bs<w2.heap.size:=by
      have:=d0
      unfold World.cell? at this
      by_cases hlt:bs<w2.heap.size
      · exact hlt
      · rw[Array.getElem?_eq_none (by show w2.heap.size≤bs;omega)] at this;cases this
     have d0:=(HA3.out.cell (p:=⟨bs,offs+t * 3,none⟩) hbs2).trans d0
     have d1:=(HA3.out.cell (p:=⟨bs,offs+t * 3+1,none⟩) hbs2).trans d1
     have d2:=(HA3.out.cell (p:=⟨bs,offs+t * 3+2,none⟩) hbs2).trans d2
     have HR3:=ξh (ξn w2 (.cells #[.slice (some ⟨bs,offs,none⟩) 8 cs,.slice a m c] 95))
     clear b2 hpl hO k3 hg8 hl8 HPL HP ho hnd hlo hbs2
     go_upto_region 2 with fail
     generalize w2.alloc (.cells #[.slice (some ⟨bs,offs,none⟩) 8 cs,.slice a m c] 95)=w3 at *
     have r0:=blkc HR3.out (j:=0) (u:= .slice (some ⟨bs,offs,none⟩) 8 cs) rfl
     go_wp2_with (first | (go_at_call 77;refine(l1In_any _ _ _ _).mono ?_;rintro e w' ⟨rfl,rfl⟩;rw[hin]) | ((show wpList _ _ _ (⟨none,.store 75 _ _,_,_,_,_⟩::_) _ _);refine wpList_stx rfl 75 _ _ rfl bp 0 [.slice t1 u1 v1,.slice t2 u2 v2,.slice t3 u3 v3] rfl rfl HX3.out (by simp) (by kernel_rfl) (by simp[Value.oneCell']) ?_;intro w8 hs;have N8:=ξh hs.blk;have HB8:=ξh (hs.below w.heap.size w HBP.out HB3.out);have HS8:=ξh hs;clear hs))
     have HO8:=ξh (HO3.out.kept (w':=w8) fun k hk=>HS8.out.other k (HAP.out k hk))
     have z0:=blkc N8.out (j:=0) (u:= .slice t1 u1 v1) rfl
     have z1:=blkc N8.out (j:=1) (u:= .slice t2 u2 v2) rfl
     have z2:=blkc N8.out (j:=2) (u:= .slice t3 u3 v3) rfl
     rw[HNP.out]
     exact bodyPost_ret (v:= .tuple #[.agg #[.slice t1 u1 v1,.slice t2 u2 v2,.slice t3 u3 v3],.bool true]) (by simp[results,Tryz.results46,go_sem,z0,z1,z2]) rfl ⟨_,fp,by rw[HE.out.1],by rw[HE.out.2];exact HO8.out,HND.out,fun k hk=>⟨ξs (HB1.out.size) (HLO.out k hk).1,by rw[HS8.out.size];exact ξq (HLO.out k hk).2 HA3.out.size⟩,HB8.out⟩
theorem heldStringS_N (v:Value) (n q:Nat) (w:World) (h:Rdt w (flt 1 strE ((List.range n).map fun i:Nat=>mkTx (q+i))) v) (hb:n≤1048576) (hq:0<q) (hq2:q≤1099511627776):
 Calls Tryz.prog 147 #[v,.int .i64 (q:Int)] w fun e w'=>e= .returned (.int .i64 ((q+n:Nat):Int))∧Below w.heap.size w w':=by
 obtain⟨a,n2,cap,rfl,HN,_,hnl,ha⟩:=flt_opn (m:=1) (enc:=strE) (fun _=>rfl) (by omega) nilS h
 obtain rfl:n=n2:=by have:=HN.out;simpa using this
 have HG:=ξh (fun k hk=>rangeMap_get (fun i:Nat=>mkTx (q+i)) nilS n k hk)
 have HA:=ξh ha
 clear ha h HN
 go_enter Tryz.func147,Tryz.ntmps147
 go_wp2
 go_loopw [1,5] (fun x i wr=>∃k:Nat,k≤n∧i= .int .i64 k∧x= .int .i64 ((q+k:Nat):Int)∧Hid (Below w.heap.size w wr)) (fun _ i _=>n-(intOf i).toNat)
 case atStart=>exact⟨0,by omega,rfl,int_eq (by simp),ξb _ _⟩
 case round=>
  obtain⟨k,hk,rfl,rfl,HB⟩:=hrel
  by_cases hlt:k<n
  · have hltI:(k:Int)<(n:Int):=by omega
    obtain⟨b,off,rfl,hbs,hcs⟩:=HA.out (by omega)
    have hc:=hcs k hlt 0 (.string (mkTx (q+k))) (by rw[HG.out k hlt];rfl)
    have e0:=(HB.out.cell (p:=⟨b,off+k*1+0,none⟩) hbs).trans hc
    simp only[Nat.add_zero,Nat.mul_one] at e0
    obtain⟨p,hp⟩:∃p:Nat,p=q+k:=⟨_,rfl⟩
    rw[←hp] at e0 ⊢
    have HMT:=ξh (fun w=>markText_any p (by omega) (by omega) w)
    have hp2:(p:Int)≤1125899940397056:=by omega
    have HP:=ξh hp
    generalize mkTx p=tx at *
    have hne:(tx.toList != tx.toList)=false:=by simp
    have hnf:(tx.toList==tx.toList)=true:=by simp
    clear hp hc hcs
    go_wp2
    have j0:=rg e0
    clear e0
    refine wp_region_quiet_below (by kernel_rfl) (by kernel_rfl) ?_
    repeat (go_big_quiet_step (first | (go_at_call 135;exact Calls.regrown_of (HMT.out _))))
    refine wpQuiet_nil ?_
    rintro _ ⟨⟨dq,osq⟩,rfl⟩
    have HB5:=ξh (HB.out.trans ((below_regrown wr dq osq).mono HB.out.size))
    generalize grow (redrawn wr dq) osq=w5 at *
    clear j0 hne hnf
    go_wp2
    go_roundw
    case rel=>exact⟨k+1,hlt,by go_num,int_eq (by rw[HP.out];omega),HB5.out⟩
    case measure=>simp[intOf];omega
  · obtain rfl:k=n:=by omega
    go_wp2
    go_ret
    exact⟨rfl,HB.out⟩
theorem heldFiberS_N (v:Value) (n q:Nat) (w:World) (h:Rdt w (flt 4 fibE ((List.range n).map fun i:Nat=>mkFib ((q:Int)+4*(i:Int)))) v) (hb:n≤1048576) (hq2:q≤1099511627776):
 Calls Tryz.prog 148 #[v,.int .i64 (q:Int)] w fun e w'=>e= .returned (.int .i64 ((q+4*n:Nat):Int))∧Below w.heap.size w w':=by
 refine(heldFiberS_yes v n q w h (by omega) (by omega) (by omega)).mono ?_
 rintro e w' ⟨rfl,hb⟩
 exact⟨ret_int (by omega),hb⟩
theorem heldNetwork_N (v:Value) (n:Net) (fp:List Nat) (q:Nat) (w:World) (h:NetO w (mkNet n q) v fp) (h1:n.ns.length≤1048576) (h2:n.fs.length≤1048576) (hq:0<q) (hq2:q≤549755813888):
 Calls Tryz.prog 99 #[v,.int .i64 (q:Int)] w fun e w'=>e= .returned (.int .i64 ((q+mkN n:Nat):Int))∧Below w.heap.size w w':=by
 obtain⟨u1,u2,f1,f2,rfl,r1,r2,-⟩:=h
 unfold mkNet at r1 r2
 dsimp only at r1 r2
 obtain⟨a1,n1,c1,rfl⟩:=Rdt.slice (show Rdt w (.rows _ _) u1 from r1.rd)
 obtain⟨a2,n2,c2,rfl⟩:=Rdt.slice (show Rdt w (.rows _ _) u2 from r2.rd)
 obtain⟨bx,bc,blt,-⟩:=box_facts w #[.slice a1 n1 c1,.slice a2 n2 c2] 35
 have q1:=bc 1 (.slice a2 n2 c2) rfl
 have HC1:=ξh (heldStringS_N _ n.ns.length q _ (r1.rd.behind bx) h1 hq (by omega))
 have HC2:=ξh (fun w' (hb:Below w.heap.size w w')=>heldFiberS_N _ n.fs.length (q+n.ns.length) w' (r2.rd.behind hb) h2 (by omega))
 have HB:=ξh bx
 have HK2:=ξh (show q+mkN n=q+n.ns.length+4*n.fs.length from by unfold mkN;omega)
 generalize q+mkN n=R at *
 obtain⟨Q,hQ⟩:∃Q,Q=q+n.ns.length:=⟨_,rfl⟩
 rw[←hQ] at HC1 HC2 HK2
 have hq0:¬(Q:Int)<0:=by omega
 have hq1:decide ((Q:Int)<0)=false:=ξf hq0
 have hr0:¬(R:Int)<0:=by omega
 have hr1:decide ((R:Int)<0)=false:=ξf hr0
 clear bx bc hQ
 go_enter Tryz.func99,Tryz.ntmps99
 go_wp2_with fail
 generalize w.alloc (.cells #[.slice a1 n1 c1,.slice a2 n2 c2] 35)=w1 at *
 refine HC1.out.mono ?_
 rintro e w2 ⟨rfl,b2⟩
 have p1:=(b2.cell (p:=⟨w.heap.size,1,none⟩) blt).trans q1
 have HB2:=ξh (HB.out.trans (b2.mono HB.out.size))
 clear b2 q1
 go_wp2_with fail
 refine(HC2.out w2 HB2.out).mono ?_
 rintro e w3 ⟨rfl,b3⟩
 have HB3:=ξh (HB2.out.trans (b3.mono HB2.out.size))
 rw[←HK2.out]
 clear b3 p1
 go_wp2
 go_ret
 exact⟨rfl,HB3.out⟩
theorem mkLs_len (zs:List Lgt) (q:Nat):(mkLs zs q).length=zs.length:=by unfold mkLs;simp
theorem mkLs_get (zs:List Lgt) (q k:Nat) (h:k<zs.length):(mkLs zs q)[k]?.getD nilL=mkLf zs q k:=by
 unfold mkLs
 rw[List.getElem?_map,List.getElem?_range h];rfl
theorem heldLightS_N (v:Value) (zs:List Lgt) (q:Nat) (w:World) (h:Rdt w (rws 5 lgtD (mkLs zs q)) v) (hb:4*zs.length+totL zs≤67108864) (hq2:q≤1099511627776):
 Calls Tryz.prog 100 #[v,.int .i64 (q:Int)] w fun e w'=>e= .returned (.int .i64 ((q+(4*zs.length+totL zs):Nat):Int))∧Below w.heap.size w w':=by
 obtain⟨a,n,cap,rfl,HN0,_,hnl,ha⟩:=lgt_opn h
 have HN:=ξh ((mkLs_len zs q).symm.trans HN0.out)
 have HT:=ξh (fun k (h:k<zs.length)=>@mkQ_step zs k h)
 have HTL:=ξh (fun k (h:k≤zs.length)=>ξs (@mkQ_le zs k h) hb)
 have HQ:=ξh (show q+mkQ zs n=q+(4*zs.length+totL zs) by rw[←HN.out,mkQ_all])
 have HG:=ξh (fun k (h:k<zs.length)=>mkLs_get zs q k h)
 have HF:=ξh (show∀i,mkLf zs q i=mkLgt (((q+mkQ zs i:Nat):Int)) (zs[i]?.getD nilL) from fun _=>rfl)
 have HA:=ξh ha
 generalize q+(4*zs.length+totL zs)=R at *
 clear hb h ha HN0
 go_enter Tryz.func100,Tryz.ntmps100
 go_wp2
 go_loopw [1,5] (fun x i wr=>∃k:Nat,k≤n∧i= .int .i64 k∧x= .int .i64 ((q+mkQ zs k:Nat):Int)∧Hid (Below w.heap.size w wr)) (fun _ i _=>n-(intOf i).toNat)
 case atStart=>exact⟨0,by omega,rfl,by simp[mkQ,totL],ξb _ _⟩
 case round=>
  obtain⟨k,hk,rfl,rfl,HB⟩:=hrel
  have hT0:=HTL.out k (by rw[HN.out];exact hk)
  by_cases hlt:k<n
  · have hltI:(k:Int)<(n:Int):=by omega
    have hkx:k<zs.length:=by rw[HN.out];exact hlt
    obtain⟨g,off,rfl,hg,hc⟩:=HA.out (by omega)
    obtain⟨u,p0,p1,p2,p3,p4,hru⟩:=hc k hlt
    have hm:=(HG.out k hkx).trans (HF.out k)
    have hqs:=HT.out k hkx
    have hT1:=HTL.out (k+1) (by rw[HN.out];omega)
    rw[hm] at p0 p1 p3 p4 hru
    obtain⟨A,hA⟩:∃A:Int,((q+mkQ zs k:Nat):Int)=A:=⟨_,rfl⟩
    rw[hA] at p0 p1 p3 p4 hru ⊢
    generalize zs[k]?.getD nilL=x at *
    unfold mkLgt at p0 p1 p3 p4 hru
    dsimp only at p0 p1 p3 p4 hru
    have d0:=(HB.out.cell (p:=⟨g,off+k*5,none⟩) hg).trans p0
    have d1:=(HB.out.cell (p:=⟨g,off+k*5+1,none⟩) hg).trans p1
    have d2:=(HB.out.cell (p:=⟨g,off+k*5+2,none⟩) hg).trans p2
    have d3:=(HB.out.cell (p:=⟨g,off+k*5+3,none⟩) hg).trans p3
    have d4:=(HB.out.cell (p:=⟨g,off+k*5+4,none⟩) hg).trans p4
    have hA0:0≤A∧A≤1099511627776+67108864:=by omega
    have hA1:((q+mkQ zs (k+1):Nat):Int)=A+1+1+x.fb.length+1+1:=by omega
    clear hm p0 p1 p2 p3 p4 hc
    generalize x.fb.length=m at *
    have hxl:(m:Int)≤67108864:=by omega
    have HHD:=ξh (heldIntS_yes u (A+1+1) m wr (hru.belowAll HB.out) (by omega) (by omega))
    have HA1:=ξh hA1
    have hnn:¬(A+1+1+(m:Int))<0:=by omega
    have hnb:decide (A+1+1+(m:Int)<0)=false:=by simpa using hnn
    have hq0:(A != A)=false:=by simp
    have hq1:(A+1 != A+1)=false:=by simp
    have hq3:(A+1+1+(m:Int) != A+1+1+(m:Int))=false:=by simp
    have hq4:(A+1+1+(m:Int)+1 != A+1+1+(m:Int)+1)=false:=by simp
    clear hru hqs hA1 hT0 hT1 hA
    go_wp2_with fail
    refine HHD.out.mono ?_
    rintro e w2 ⟨rfl,n2,rfl⟩
    have HB2:=ξh (show Below w.heap.size w (wr.drewN n2) from HB.out.trans ⟨rfl,rfl,rfl,ξr _,fun _ _=>rfl⟩)
    go_wp2
    go_roundw
    case rel=>exact⟨k+1,by omega,by go_num,int_eq (by rw[HA1.out]),HB2.out⟩
    case measure=>simp[intOf];omega
  · obtain rfl:k=n:=by omega
    go_wp2
    go_ret
    exact⟨by rw[HQ.out];rfl,HB.out⟩
theorem heldPlan_M (v:Value) (p:Pln) (fp:List Nat) (q:Nat) (w:World) (h:PlnO w (mkPln p q) v fp) (h1:p.n.ns.length≤1048576) (h2:p.n.fs.length≤1048576) (h3:4*p.ls.length+totL p.ls≤67108864) (hq:0<q) (hq2:q≤549755813888):
 Calls Tryz.prog 55 #[v,.int .i64 (q:Int)] w fun e w'=>e= .returned (.int .i64 ((q+mkP p:Nat):Int))∧Below w.heap.size w w':=by
 obtain⟨u1,u2,u3,f1,f2,f3,rfl,r1,r2,r3,-⟩:=h
 have hn:NetO w (mkNet p.n q) (.agg #[u1,u2]) (f1++f2):=⟨_,_,_,_,rfl,r1,r2,rfl⟩
 obtain⟨a1,n1,c1,rfl⟩:=Rdt.slice (show Rdt w (.rows _ _) u1 from r1.rd)
 obtain⟨a2,n2,c2,rfl⟩:=Rdt.slice (show Rdt w (.rows _ _) u2 from r2.rd)
 obtain⟨a3,n3,c3,rfl⟩:=Rdt.slice (show Rdt w (.rows _ _) u3 from r3.rd)
 have r3':Rdt w (rws 5 lgtD (mkLs p.ls (q+mkN p.n))) (.slice a3 n3 c3):=r3.rd
 have hmn:mkN p.n=p.n.ns.length+4*p.n.fs.length:=rfl
 obtain⟨bx,bc,blt,-⟩:=box_facts w #[.slice a1 n1 c1,.slice a2 n2 c2,.slice a3 n3 c3] 75
 have q1:=bc 2 (.slice a3 n3 c3) rfl
 have HC1:=ξh (heldNetwork_N _ p.n (f1++f2) q _ (hn.behind bx) h1 h2 hq hq2)
 have HC2:=ξh (fun w' (hb:Below w.heap.size w w')=>heldLightS_N (.slice a3 n3 c3) p.ls (q+mkN p.n) w' (r3'.behind hb) h3 (by omega))
 have HB:=ξh bx
 have HK2:=ξh (show q+mkP p=q+mkN p.n+(4*p.ls.length+totL p.ls) from by unfold mkP;omega)
 generalize q+mkP p=R at *
 obtain⟨Q,hQ⟩:∃Q,Q=q+mkN p.n:=⟨_,rfl⟩
 rw[←hQ] at HC1 HC2 HK2
 have hq0:¬(Q:Int)<0:=by omega
 have hq1:decide ((Q:Int)<0)=false:=ξf hq0
 have hr0:¬(R:Int)<0:=by omega
 have hr1:decide ((R:Int)<0)=false:=ξf hr0
 clear bx bc hQ hmn r1 r2 r3 r3' hn
 go_enter Tryz.func55,Tryz.ntmps55
 go_wp2_with fail
 generalize w.alloc (.cells #[.slice a1 n1 c1,.slice a2 n2 c2,.slice a3 n3 c3] 75)=w1 at *
 refine HC1.out.mono ?_
 rintro e w2 ⟨rfl,b2⟩
 have p1:=(b2.cell (p:=⟨w.heap.size,2,none⟩) blt).trans q1
 have HB2:=ξh (HB.out.trans (b2.mono HB.out.size))
 clear b2 q1
 go_wp2_with fail
 refine(HC2.out w2 HB2.out).mono ?_
 rintro e w3 ⟨rfl,b3⟩
 have HB3:=ξh (HB2.out.trans (b3.mono HB2.out.size))
 rw[←HK2.out]
 clear b3 p1
 go_wp2
 go_ret
 exact⟨rfl,HB3.out⟩
end Go.Proofs.YtofcicomhnkocaaGreat
