import Derived.Test.YtofcicomhnkocaaGreatBx40
set_option linter.unusedVariables false
namespace Go.Proofs.YtofcicomhnkocaaGreat
set_option maxHeartbeats 3200000
open Go.RowKit Go.Sort
set_option maxRecDepth 100000
def actI (gs:List Gro) (p:Int) (k:Nat):List Int:=((List.range k).filter fun i=>inB p (gs[i]?.getD nilG).s (gs[i]?.getD nilG).e).map fun i:Nat=>(i:Int)
theorem actI_len (gs:List Gro) (p:Int) (k:Nat):(actI gs p k).length≤k:=by
 unfold actI;rw[List.length_map];exact ξs (List.length_filter_le _ _) (by simp)
theorem actI_yes {gs:List Gro} {p:Int} {k:Nat} (h:inB p (gs[k]?.getD nilG).s (gs[k]?.getD nilG).e=true):actI gs p (k+1)=actI gs p k++[(k:Int)]:=by
 unfold actI;rw[List.range_succ,List.filter_append,List.map_append];simp[h]
theorem actI_no {gs:List Gro} {p:Int} {k:Nat} (h:inB p (gs[k]?.getD nilG).s (gs[k]?.getD nilG).e=false):actI gs p (k+1)=actI gs p k:=by
 unfold actI;rw[List.range_succ,List.filter_append,List.map_append];simp[h]
def actOk (n:Net) (gs:List Gro) (p:Int):Bool:=ξQ n gs&&inB p 0 7
def actR (n:Net) (gs:List Gro) (p:Int):List Int:=if actOk n gs p then actI gs p gs.length else[]
def ActP (n:Net) (gs:List Gro) (p:Int) (w:World) (e:Ending) (w':World):Prop:=∃v,e= .returned (.tuple #[v,.bool (actOk n gs p)])∧Ofr w' w.heap.size (inD (actR n gs p)) v∧Below w.heap.size w w'
theorem row_form {w:World} {base n:Nat} {T:TypeId} {v:Value} {us:List Value} {m:Nat} (h:w.ownsRow base T m v n us):∃a c,v= .slice a n c:=by
 rcases h.2 with ⟨rfl,rfl⟩ | ⟨g,cap,cur,rfl,_⟩
 · exact⟨none,0,rfl⟩
 · exact⟨_,cap,rfl⟩
theorem row_below {w w':World} {base n:Nat} {T:TypeId} {v:Value} {us:List Value} {m:Nat} (h:w.ownsRow base T m v n us) (hb:Below w.heap.size w w'):w'.ownsRow base T m v n us:=by
 refine⟨h.1,?_⟩
 rcases h.2 with q | ⟨g,cap,cur,rfl,q1,q2,q3⟩
 · exact .inl q
 · exact .inr ⟨g,cap,cur,rfl,q1,by rw[hb.block g (ξa q2).1];exact q2,q3⟩
theorem isWanted_any (g:Gro) (p:Int) (w:World):
 Calls Tryz.prog 90 #[groV g,.int .i64 p] w fun e w'=>e= .returned (.bool (inB p g.s g.e))∧Below w.heap.size w w':=by
 obtain⟨bx,-,-,-⟩:=ξD w #[.int .i64 g.d.a,.int .i64 g.d.b,.int .i64 g.d.r,.int .i64 g.d.c,.int .i64 g.s,.int .i64 g.e] 55
 have HB:=ξh bx
 unfold groV
 clear bx
 go_enter Tryz.func90,Tryz.ntmps90
 go_wp2_with (go_at_call 74;refine(ξE _ _ _ _).mono ?_;rintro e w' ⟨rfl,rfl⟩)
 go_ret
 exact⟨rfl,HB.out⟩
theorem implActive_any (v u:Value) (n:Net) (gs:List Gro) (p:Int) (w:World) (h:NetR w v n) (hg:Rdt w (flt 6 groE gs) u):
 Calls Tryz.prog 47 #[v,u,.int .i64 p] w (ActP n gs p w):=by
 have HVG:=ξh (fun w' (hb:Below w.heap.size w w')=>ξat v u n gs w' (h.behind hb) (hg.behind hb))
 obtain⟨u1,u2,rfl,r1,r2,-⟩:=h
 obtain⟨a1,m1,c1,rfl⟩:=Rdt.slice' r1
 obtain⟨a2,m2,c2,rfl⟩:=Rdt.slice' r2
 obtain⟨a3,m3,c3,rfl,HN3,hc3,hm3,ha3⟩:=ξC (m:=6) (enc:=groE) (fun _=>rfl) (by omega) nilG hg
 obtain⟨bx,-,-,-⟩:=ξD w #[.slice a1 m1 c1,.slice a2 m2 c2] 35
 have HBX:=ξh bx
 have HA:=ξh ha3
 have HOK:=ξh (show actOk n gs p=(ξQ n gs&&inB p 0 7) from rfl)
 have HRY:=ξh (show actOk n gs p=true→actR n gs p=actI gs p m3 from fun e=>by unfold actR;rw[if_pos e,HN3.out])
 have HRN:=ξh (show actOk n gs p=false→actR n gs p=[] from fun e=>by unfold actR;rw[e];rfl)
 have H12:=ξh (show ξQ n gs=true→m3≤12 from fun e=>by unfold ξQ at e;simp only[Bool.and_eq_true,decide_eq_true_eq] at e;have:=HN3.out;omega)
 unfold ActP
 generalize actOk n gs p=ok at *
 generalize actR n gs p=R at *
 generalize ξQ n gs=gk at *
 clear bx ha3 r1 r2 hg
 go_enter Tryz.func47,Tryz.ntmps47
 go_wp2_with fail
 have HV1:=ξh (HVG.out _ HBX.out)
 generalize w.alloc (.cells #[.slice a1 m1 c1,.slice a2 m2 c2] 35)=w1 at *
 cases gk
 · have HE:=ξh (show ok=false by rw[HOK.out];rfl)
   have HR:=ξh (HRN.out HE.out)
   refine HV1.mono ?_
   rintro e w2 ⟨rfl,b2⟩
   have HB2:=ξh (HBX.trans (b2.mono HBX.size))
   clear b2
   go_wp2
   go_ret2
   exact⟨_,by rw[HE.out];rfl,by rw[HR.out];exact Ofr.nil _ _ _,HB2.out⟩
 have h12:=H12.out rfl
 refine HV1.mono ?_
 rintro e w2 ⟨rfl,b2⟩
 have HB2:=ξh (HBX.trans (b2.mono HBX.size))
 clear b2
 cases hin:inB p 0 7
 · have HE:=ξh (show ok=false by rw[HOK.out,hin];rfl)
   have HR:=ξh (HRN.out HE.out)
   go_wp2_with (go_at_call 74;refine(ξE _ _ _ _).mono ?_;rintro e w' ⟨rfl,rfl⟩;rw[hin])
   go_ret2
   exact⟨_,by rw[HE.out];rfl,by rw[HR.out];exact Ofr.nil _ _ _,HB2.out⟩
 have HE:=ξh (show ok=true by rw[HOK.out,hin];rfl)
 have HR:=ξh (HRY.out HE.out)
 have hz2:=HB2.size
 have HO0:=ξh (show(w2.alloc (.cells #[] 3)).ownsRow w.heap.size 3 1 (.slice (some ⟨w2.heap.size,0,none⟩) 0 0) 0 (ints (actI gs p 0)) from World.ownsRow_made w2 #[] 0 hz2 (ξu _) (by simp))
 have HB3:=ξh (HB2.alloc HB2.size (.cells #[] 3))
 go_wp2_with (go_at_call 74;refine(ξE _ _ _ _).mono ?_;rintro e w' ⟨rfl,rfl⟩;rw[hin])
 go_loopw [8,9,10,23] (fun o _ _ i wr=>∃(k m:Nat) (a:Option Addr) (c:Nat),k≤m3∧i= .int .i64 k∧o= .slice a m c∧m≤k∧Hid (wr.ownsRow w.heap.size 3 1 (.slice a m c) m (ints (actI gs p k)))∧Hid (Below w.heap.size w wr)) (fun _ _ _ i _=>m3-(intOf i).toNat)
 case atStart=>exact⟨0,0,_,_,ξu _,rfl,rfl,ξr _,HO0.out,HB3.out⟩
 case round=>
  clear HB2 HO0 HB3 hz2
  obtain⟨k,m,a,c,hk,rfl,rfl,hmk,HO,HB⟩:=hrel
  have hz:=HB.size
  by_cases hlt:k<m3
  · have hltI:(k:Int)<(m3:Int):=by omega
    obtain⟨b,off,rfl,hbs,hcs⟩:=HA.out (by omega)
    have hcw:=fun(r:Nat) (u:Value) (hu:(groE (gs[k]?.getD nilG))[r]?= some u)=>(HB.cell (p:=⟨b,off+k*6+r,none⟩) hbs).trans (hcs k hlt r u hu)
    have c0:=hcw 0 _ rfl
    have c1:=hcw 1 _ rfl
    have c2:=hcw 2 _ rfl
    have c3:=hcw 3 _ rfl
    have c4:=hcw 4 _ rfl
    have c5:=hcw 5 _ rfl
    simp only[Nat.add_zero] at c0
    have HW:=ξh (fun w=>isWanted_any (gs[k]?.getD nilG) p w)
    have HY:=ξh (@actI_yes gs p k)
    have HNO:=ξh (@actI_no gs p k)
    clear hcw hcs
    unfold groV at HW
    generalize gs[k]?.getD nilG=g at *
    cases hw:inB p g.s g.e
    · have HS:=ξh (HNO.out hw)
      rw[hw] at HW
      clear HY HNO hw
      go_wp2_with fail
      refine(HW.out _).mono ?_
      rintro e w4 ⟨rfl,b4⟩
      have b5:=(ξb wr.heap.size wr).alloc (ξr _) (.cells #[.int .i64 g.d.a,.int .i64 g.d.b,.int .i64 g.d.r,.int .i64 g.d.c,.int .i64 g.s,.int .i64 g.e] 55)
      have b6:=b5.trans (b4.mono b5.size)
      have HO4:=ξh (row_below HO.out b6)
      have HB4:=ξh (HB.trans (b6.mono hz))
      clear b4 b5 b6
      go_wp2
      go_roundw
      case rel=>exact⟨k+1,m,_,_,by omega,by go_num,rfl,by omega,by rw[HS.out];exact HO4.out,HB4.out⟩
      case measure=>simp[intOf];omega
    · have HS:=ξh (HY.out hw)
      rw[hw] at HW
      clear HY HNO hw
      go_wp2_with fail
      refine(HW.out _).mono ?_
      rintro e w4 ⟨rfl,b4⟩
      have b5:=(ξb wr.heap.size wr).alloc (ξr _) (.cells #[.int .i64 g.d.a,.int .i64 g.d.b,.int .i64 g.d.r,.int .i64 g.d.c,.int .i64 g.s,.int .i64 g.e] 55)
      have b6:=b5.trans (b4.mono b5.size)
      have HO4:=ξh (row_below HO.out b6)
      have HB4:=ξh (HB.trans (b6.mono hz))
      clear b4 b5 b6
      go_wp2_with (at_builtin;refine wpList_push rfl (.tmp 31) (.tmp 33) 58 rfl Tryz.underlying58 Tryz.infoInt w.heap.size (.slice a m c) m _ rfl HO4.out rfl (by omega) HB4.size ?_;intro v3 w5 hown3 hgrow3;obtain⟨a5,c5,rfl⟩:=row_form hown3;have HO5:=ξh hown3;have HB5:=ξh (HB4.grown hgrow3 HB4.size (fun q hq=>(HO4.lt q hq).1));clear hown3 hgrow3)
      go_roundw
      case rel=>exact⟨k+1,m+1,_,_,by omega,by go_num,rfl,by omega,by rw[HS.out];exact HO5.out,HB5.out⟩
      case measure=>simp[intOf];omega
  · obtain rfl:m3=k:=by omega
    go_wp2
    go_ret2
    exact⟨_,by rw[HE.out];rfl,by rw[HR.out];exact(ξa4 HO.out).ofr,HB.out⟩
open Go.RowKit
structure Els (w:World) (lo:Nat) (ds:List Dt) (us:List Value) (fs:List (List Nat)):Prop where
 ul:us.length=ds.length
 fl:fs.length=ds.length
 els:∀(j:Nat) (d:Dt) (u:Value) (f:List Nat),ds[j]?= some d→us[j]?= some u→fs[j]?= some f→Odt w d u f
 nd:fs.flatten.Nodup
 lo:∀k∈fs.flatten,lo≤k
theorem Els.lt {w:World} {lo:Nat} {ds:List Dt} {us:List Value} {fs:List (List Nat)} (h:Els w lo ds us fs):∀k∈fs.flatten,k<w.heap.size:=Grw.flt h.ul h.fl h.els
theorem Ofr.els {w:World} {base size:Nat} {ds:List Dt} {v:Value} (h:Ofr w base (.rows size ds) v) (hne:v≠ .slice none 0 0):∃g off n cap us fs,v= .slice (some ⟨g,off,none⟩) n cap∧us.length=n*size∧n≤cap∧n≤maxLen∧base≤g∧g<w.heap.size∧Els w base ds us fs∧g ∉ fs.flatten∧ ∀j u,us[j]?= some u→w.cell? ((⟨g,off,none⟩:Addr).add j)=some u:=by
 obtain⟨fp,h1,h2,h3⟩:=h
 cases h1 with
 | nil size=>exact absurd rfl hne
 | @mk size n g off cap ds us fs cur T hl hus hf hn hc hg hcs ht hd=>
   obtain⟨hgn,hfn⟩:=List.nodup_cons.1 h2
   refine⟨g,off,n,cap,us,fs,rfl,by omega,hn,by omega,h3 g (by simp),(ξa hg).1,⟨hus,hf,hd,hfn,fun k hk=>h3 k (List.mem_cons_of_mem _ hk)⟩,hgn,fun j u hj=> ?_⟩
   rw[show(⟨g,off,none⟩:Addr).add j=⟨g,off+j,none⟩ by simp[Addr.add]]
   exact ξaj hg ht hj (by omega)
def mkN (n:Net):Nat:=n.ns.length+4*n.fs.length
def totL (zs:List Lgt):Nat:=(zs.map fun x=>x.fb.length).sum
/-! ### Plans -/
theorem PlnO.form {w:World} {p:Pln} {v:Value} {fp:List Nat} (h:PlnO w p v fp):∃a1 n1 c1 a2 n2 c2 a3 n3 c3,v= .agg #[.slice a1 n1 c1,.slice a2 n2 c2,.slice a3 n3 c3]:=by
 obtain⟨u1,u2,u3,f1,f2,f3,rfl,h1,h2,h3,_⟩:=h
 obtain⟨a1,n1,c1,rfl⟩:=Rdt.slice (show Rdt w (.rows _ _) u1 from h1.rd)
 obtain⟨a2,n2,c2,rfl⟩:=Rdt.slice (show Rdt w (.rows _ _) u2 from h2.rd)
 obtain⟨a3,n3,c3,rfl⟩:=Rdt.slice (show Rdt w (.rows _ _) u3 from h3.rd)
 exact⟨_,_,_,_,_,_,_,_,_,rfl⟩
def mkP (p:Pln):Nat:=mkN p.n+(4*p.ls.length+totL p.ls)
theorem nodup_at {fs:List (List Nat)} (h:fs.flatten.Nodup) {i j:Nat} {f g:List Nat} (hf:fs[i]?= some f) (hg:fs[j]?= some g) (hij:i<j):f.Nodup∧g.Nodup∧ ∀x∈f,∀y∈g,x≠y:=by
 obtain⟨h1,h2⟩:=ξbm.1 h
 obtain⟨hi,e1⟩:=ξl hf
 obtain⟨hj,e2⟩:=ξl hg
 subst e1;subst e2
 rw[List.pairwise_iff_getElem] at h2
 exact⟨h1 _ (ξj hi),h1 _ (ξj hj),h2 i j hi hj hij⟩
theorem pls_own {w':World} {base:Nat} {n:Net} {ps:List (List Lgt)} {s:Value} {X:Nat→Prop} (h:GrwX w' base 75 3 s 8 ((ps.map (Pln.mk n)).flatMap plnD) X) (hl:ps.length=8):
 ∃b off c,s= .slice (some ⟨b,off,none⟩) 8 c∧Hid (∀t,t<8→ ∃a1 m1 c1 a2 m2 c2 a3 m3 c3 fp,w'.cell? ⟨b,off+t * 3,none⟩=some (.slice a1 m1 c1)∧w'.cell? ⟨b,off+t * 3+1,none⟩=some (.slice a2 m2 c2)∧w'.cell? ⟨b,off+t * 3+2,none⟩=some (.slice a3 m3 c3)∧
  PlnO w' ⟨n,ps[t]?.getD []⟩ (.agg #[.slice a1 m1 c1,.slice a2 m2 c2,.slice a3 m3 c3]) fp∧fp.Nodup∧ ∀k∈fp,base≤k∧k<w'.heap.size):=by
 have hlen:((ps.map (Pln.mk n)).flatMap plnD).length=24:=by
  have:=rws_len (m:=3) (en:=plnD) (fun _=>rfl) (ps.map (Pln.mk n))
  rw[this,List.length_map,hl]
 obtain⟨e8,a0,cap0,ev⟩:=h.grw.form
 have hne:s≠ .slice none 0 0:=by
  rw[ev];intro e;injection e with e1 e2 e3;omega
 obtain⟨g,off,n',cap,us,fs,rfl,hul,-,-,hbg,hgw,hE,-,hcell⟩:=h.grw.ofr.els hne
 have hn':n'=8:=by
  rw[hE.ul,hlen] at hul;omega
 subst hn'
 refine⟨g,off,cap,rfl,fun t ht=> ?_⟩
 have hg3:∀r,r<3→ ∃u f,us[t*3+r]?= some u∧fs[t*3+r]?= some f∧w'.cell? ⟨g,off+(t*3+r),none⟩=some u:=fun r hr=>by
  have e1:t * 3+r<us.length:=by rw[hE.ul,hlen];omega
  have e2:t * 3+r<fs.length:=by rw[hE.fl,hlen];omega
  refine⟨_,_,ξg e1,ξg e2,?_⟩
  have:=hcell (t*3+r) _ (ξg e1)
  rwa [show(⟨g,off,none⟩:Addr).add (t*3+r)=⟨g,off+(t*3+r),none⟩ by simp[Addr.add]] at this
 have hd:∀r,r<3→((ps.map (Pln.mk n)).flatMap plnD)[t*3+r]?= (plnD ⟨n,ps[t]?.getD []⟩)[r]?:=fun r hr=>by
  rw[rws_at (m:=3) (en:=plnD) (fun _=>rfl) ⟨n,[]⟩ (ps.map (Pln.mk n)) (i:=t) (by rw[List.length_map,hl];exact ht) hr,pln_nth]
 obtain⟨u0,f0,a0,b0,c0⟩:=hg3 0 (by omega)
 obtain⟨u1,f1,a1,b1,c1⟩:=hg3 1 (by omega)
 obtain⟨u2,f2,a2,b2,c2⟩:=hg3 2 (by omega)
 have o0:Odt w' (flt 1 strE n.ns) u0 f0:=hE.els _ _ _ _ (hd 0 (by omega)) a0 b0
 have o1:Odt w' (flt 4 fibE n.fs) u1 f1:=hE.els _ _ _ _ (hd 1 (by omega)) a1 b1
 have o2:Odt w' (rws 5 lgtD (ps[t]?.getD [])) u2 f2:=hE.els _ _ _ _ (hd 2 (by omega)) a2 b2
 obtain⟨n0,n1,x01⟩:=nodup_at hE.nd b0 b1 (by omega)
 obtain⟨-,n2,x02⟩:=nodup_at hE.nd b0 b2 (by omega)
 obtain⟨-,-,x12⟩:=nodup_at hE.nd b1 b2 (by omega)
 obtain⟨p0,q0,d0,rfl⟩:=Rdt.slice (show Rdt w' (.rows _ _) u0 from o0.rd)
 obtain⟨p1,q1,d1,rfl⟩:=Rdt.slice (show Rdt w' (.rows _ _) u1 from o1.rd)
 obtain⟨p2,q2,d2,rfl⟩:=Rdt.slice (show Rdt w' (.rows _ _) u2 from o2.rd)
 have hm:∀{r:Nat} {f:List Nat},fs[t*3+r]?= some f→ ∀k∈f,base≤k∧k<w'.heap.size:=fun hf k hk=>by
  have:k∈fs.flatten:=List.mem_flatten.2 ⟨_,List.mem_of_getElem? hf,hk⟩
  exact⟨hE.lo k this,hE.lt k this⟩
 refine⟨p0,q0,d0,p1,q1,d1,p2,q2,d2,(f0++f1)++f2,by rw[←c0];rfl,by rw[←c1];rfl,by rw[←c2];rfl,⟨_,_,_,f0,f1,f2,rfl,o0,o1,o2,rfl⟩,?_,fun k hk=> ?_⟩
 · refine List.nodup_append.2 ⟨List.nodup_append.2 ⟨n0,n1,x01⟩,n2,fun x hx y hy=> ?_⟩
   rcases List.mem_append.1 hx with hx | hx
   · exact x02 x hx y hy
   · exact x12 x hx y hy
 · rcases List.mem_append.1 hk with hk | hk
   · rcases List.mem_append.1 hk with hk | hk
     · exact hm b0 k hk
     · exact hm b1 k hk
   · exact hm b2 k hk
def plaK (n:Net) (fs:List Fmt) (gs:List Gro) (p:Int):Bool:=ξa0 n fs gs&&inB p 0 7
def plaR (n:Net) (fs:List Fmt) (gs:List Gro) (p:Int):Pln:=match ξR n fs gs with
 | none=>⟨⟨[],[]⟩,[]⟩
 | some (ps,_)=>if inB p 0 7 then⟨n,ps[p.toNat]?.getD []⟩ else⟨⟨[],[]⟩,[]⟩
def PlaP (n:Net) (fs:List Fmt) (gs:List Gro) (p:Int) (w:World) (e:Ending) (w':World):Prop:=∃v fp,e= .returned (.tuple #[v,.bool (plaK n fs gs p)])∧PlnO w' (plaR n fs gs p) v fp∧fp.Nodup∧(∀k∈fp,w.heap.size≤k∧k<w'.heap.size)∧Below w.heap.size w w'
theorem nilP_own (w:World):PlnO w ⟨⟨[],[]⟩,[]⟩ (.agg #[.slice none 0 0,.slice none 0 0,.slice none 0 0]) []:=⟨_,_,_,[],[],[],rfl,.nil _,.nil _,.nil _,rfl⟩
theorem totL_bd {B:Nat} :∀(zs:List Lgt),(∀x∈zs,x.fb.length≤B)→totL zs≤B*zs.length
 | [],_=>by simp[totL]
 | x::zs,h=>by
   have h1:=h x (List.mem_cons_self ..)
   have h2:=totL_bd zs fun y hy=>h y (List.mem_cons_of_mem _ hy)
   have e:totL (x::zs)=x.fb.length+totL zs:=by simp[totL]
   rw[e,List.length_cons,Nat.mul_add];omega
def PlnB (P:Pln):Prop:=NetSm P.n∧P.n.ns.length≤1048576∧P.n.fs.length≤1048576∧4*P.ls.length+totL P.ls≤67108864∧mkP P≤134217728
theorem plaR_bd {n:Net} {fs:List Fmt} {gs:List Gro} {p:Int} (hs:NetSm n):PlnB (plaR n fs gs p):=by
 have h0:PlnB ⟨⟨[],[]⟩,[]⟩:=⟨fun i=>by show(nmA ⟨[],[]⟩ i).size≤_;simp[nmA,nilS];exact ξu _,by simp,by simp,by simp[totL],by simp[mkP,mkN,totL]⟩
 unfold plaR
 split
 · exact h0
 · rename_i ps r hO
   split
   · rename_i hp
     obtain⟨h8,hn,hk⟩:=pls_ok hO
     have hi:p.toNat<8:=by
      unfold inB at hp
      simp only[Bool.and_eq_true,decide_eq_true_eq] at hp
      omega
     have hl:=hk p.toNat hi
     have ht:=totL_bd _ (hl.fb hn)
     have hl12:=hl.1
     have h1:=(ξM hn).2.1
     have h2:=(ξM hn).2.2.1
     generalize ps[p.toNat]?.getD []=ls at *
     have hm:totL ls≤12000000:=by omega
     refine⟨hs,ξs h1 (by decide),ξs h2 (by decide),?_,?_⟩
     · show 4*ls.length+totL ls≤67108864;omega
     · unfold mkP
       have:mkN n=n.ns.length+4*n.fs.length:=rfl
       show mkN n+(4*ls.length+totL ls)≤134217728
       omega
   · exact h0
def sumU (ls:List Lgt) (nf:Nat):Int:=sumR (fun i=>((popN (ξU ls (i:Int)):Nat):Int)) nf
def wantI (bl:List Int):List Int→List Int
 | []=>[]
 | a::xs=>if bl.contains a then wantI bl xs else(a+1)::wantI bl xs
theorem wantI_app (bl:List Int) (a:Int):∀xs,wantI bl (xs++[a])=if bl.contains a then wantI bl xs else wantI bl xs++[a+1]
 | []=>by simp[wantI]
 | x::xs=>by
   rw[List.cons_append,wantI,wantI_app bl a xs,wantI]
   split <;> split <;> simp
theorem wantI_take {bl xs:List Int} {k:Nat} (h:k<xs.length):wantI bl (xs.take (k+1))=if bl.contains (xs[k]?.getD 0) then wantI bl (xs.take k) else wantI bl (xs.take k)++[xs[k]?.getD 0+1]:=by
 rw[List.take_add_one,ξg h]
 exact wantI_app bl xs[k] _
theorem wantI_len (bl:List Int):∀xs,(wantI bl xs).length≤xs.length
 | []=>by simp[wantI]
 | x::xs=>by
   have:=wantI_len bl xs
   rw[wantI];split <;> simp <;> omega
theorem wantI_eq (bl:List Int) (q:Nat→Bool):∀l:List Nat,wantI bl ((l.filter q).map fun i:Nat=>(i:Int))=((l.filter fun i=>q i && !(bl.contains (i:Int))).map fun i:Nat=>(i:Int)+1)
 | []=>rfl
 | i::l=>by
   have ih:=wantI_eq bl q l
   by_cases hq:q i=true
   · rw[List.filter_cons_of_pos hq,List.map_cons,wantI]
     by_cases hb:bl.contains (i:Int)=true
     · rw[if_pos hb,List.filter_cons_of_neg (by rw[hb];simp),ih]
     · rw[if_neg hb,List.filter_cons_of_pos (by rw[hq];simpa using hb),List.map_cons,ih]
   · rw[List.filter_cons_of_neg hq,List.filter_cons_of_neg (by simp[hq]),ih]
theorem plg_law {n:Net} {fs:List Fmt} {gs:List Gro} {p:Int} (hk:plaK n fs gs p=true):
 ∃ls,plaR n fs gs p=⟨n,ls⟩∧ξam ⟨n,ls⟩=true∧LsK n ls∧ξL n=true∧actOk n gs p=true∧ξa0 n fs gs=true∧0≤p∧p≤7∧
  wantI (ξai n fs gs) (actI gs p gs.length)=ls.map (·.id)∧(useT n fs gs 8)[p.toNat]?.getD 0=sumU ls n.fs.length:=by
 unfold plaK at hk
 rw[Bool.and_eq_true] at hk
 obtain⟨h1,h2⟩:=hk
 cases hO:ξR n fs gs with
 | none=>rw[(ξap hO).2] at h1;cases h1
 | some x=>
   obtain⟨ps,r⟩:=x
   obtain⟨hf,hn,hg,hr⟩:=ξau hO
   obtain⟨hB,-,-⟩:=ξaf hO
   obtain⟨h8,-,hls⟩:=pls_ok hO
   have hin:=h2
   unfold inB at hin
   simp only[Bool.and_eq_true,decide_eq_true_eq] at hin
   obtain⟨t,rfl⟩:∃t:Nat,p=(t:Int):=⟨p.toNat,by omega⟩
   have ht:t<8:=by omega
   have hR:plaR n fs gs (t:Int)=⟨n,ps[t]?.getD []⟩:=by unfold plaR;rw[hO];simp only;rw[if_pos h2,Int.toNat_natCast]
   have hget:ps[t]?= some (ps[t]?.getD []):=by rw[ξg (by omega)];rfl
   have hgs:ξQ n gs=true:=by
    unfold ξR at hO
    split at hO
    · rename_i hc;rw[Bool.and_eq_true] at hc;exact hc.2
    · cases hO
   refine⟨ps[t]?.getD [],hR,runP_pln hn hg hr ht hget,hls t ht,hn,by unfold actOk;rw[hgs,h2];rfl,h1,by omega,by omega,?_,?_⟩
   · rw[runP_ids hg hr ht hget]
     unfold actI
     rw[wantI_eq]
     congr 1
     refine List.filter_congr fun i _=> ?_
     have:(ξai n fs gs).contains (i:Int)=r.bl.contains (i:Int):=by
      rw[hB,Bool.eq_iff_iff];simp[ξb3]
     rw[this]
   · unfold useT sumU
     rw[List.getElem?_map,Int.toNat_natCast,List.getElem?_range ht]
     show sumR (ξT n fs gs t) n.fs.length=_
     have:ξT n fs gs t=fun i:Nat=>((popN (ξU (ps[t]?.getD []) (i:Int)):Nat):Int):=by
      funext i
      unfold ξT
      rw[hO]
     rw[this]
theorem blk_there {w:World} {b:Nat} {cur:Array Value} {T:TypeId} (h:w.heap[b]?= some (.cells cur T (0,0))) {o n:Nat} (hn:o+n≤cur.size):w.there b o n:=fun j hj=>by
 refine⟨?_,ξz _ _ _ _ _ h⟩
 rw[cell_of_row _ _ _ _ _ _ h,Array.getElem?_eq_getElem (by omega)];rfl
theorem blk_put_other {b k:Nat} (hk:k≠b) (us:List Value):∀(w:World) (o:Nat),(w.setCells b o us).heap[k]?= w.heap[k]?:=by
 induction us with
 | nil=>intro w o;rfl
 | cons u us ih=>intro w o;exact(ih _ (o+1)).trans (ξm w ⟨b,o,none⟩ k u hk)
theorem blk_put_size {b:Nat} (us:List Value):∀(w:World) (o:Nat),(w.setCells b o us).heap.size=w.heap.size:=by
 induction us with
 | nil=>intro w o;rfl
 | cons u us ih=>intro w o;exact(ih _ (o+1)).trans (by simp)
structure Stx (w w':World) (b:Nat) (new:Array Value) (T:TypeId):Prop where
 blk:w'.heap[b]?= some (.cells new T (0,0))
 other:∀k,k≠b→w'.heap[k]?= w.heap[k]?
 size:w'.heap.size=w.heap.size
 below:∀(B:Nat) (u:World),B≤b→Below B u w→Below B u w'
theorem ξaK {P:Program} {ops:Array Oper} {rest:List Oper} {op:Oper} {a:Act} {w:World} {Q:Exit→Act→World→Prop} (hgd:op.guard=none) (ty:TypeId) (x y:Operand) (ho:op.op= .store ty x y)
 (b o:Nat) (us:List Value) (hx:a.eval x= .pointer (some ⟨b,o,none⟩)) (hy:a.eval y= .agg us.toArray) {cur:Array Value} {T:TypeId} (hg:w.heap[b]?= some (.cells cur T (0,0))) (hn:o+us.length≤cur.size)
 (hi:(P.info? ty).map (·.size)=some us.length) (h1:∀v∈us,v.oneCell'=true)
 (h:∀w',Stx w w' b (putA cur o us) T→wpList P ops Q rest (a.put op.dst undef) w'):wpList P ops Q (op::rest) a w:=by
 refine wpList_store_mid hgd ty x y ho b o us.toArray hx hy (blk_there hg (by simpa using hn)) (by simpa using hi) (all_oneCell_toArray h1) ?_
 exact h _ ⟨blk_put us o hg,fun k hk=>blk_put_other hk us w o,blk_put_size us w o,fun B u hB hb=>below_put hB us o hb⟩
theorem implPla_any (p:Int) (v vf vg:Value) (n:Net) (fs:List Fmt) (gs:List Gro) (w:World) (h:NetR w v n) (hf:Rdt w (flt 2 fmE fs) vf) (hg:Rdt w (flt 6 groE gs) vg):
 Calls Tryz.prog 45 #[v,vf,vg,.int .i64 p] w (PlaP n fs gs p w):=by
 obtain⟨NP,hNP⟩:∃NP,NP=PlaP n fs gs p w:=⟨_,rfl⟩
 rw[←hNP]
 have HNP:=ξh hNP
 have HP:=ξh (fun w' (hb:Below w.heap.size w w')=>ξaZ v vf vg n fs gs w' (h.behind hb) (hf.behind hb) (hg.behind hb))
 have hnet:=h
 obtain⟨u1,u2,rfl,r1,r2,hsm⟩:=h
 obtain⟨⟨a1,m1,c1,rfl⟩,-⟩:=ξF hnet
 obtain⟨a2,m2,c2,rfl,-,-,-,-⟩:=ξC (m:=4) (enc:=fibE) (fun _=>rfl) (by omega) nilB r2
 obtain⟨af,mf,cf,rfl,-,-,-,-⟩:=ξC (m:=2) (enc:=fmE) (fun _=>rfl) (by omega) ξJ hf
 obtain⟨ag,mg,cg,rfl,-,-,-,-⟩:=ξC (m:=6) (enc:=groE) (fun _=>rfl) (by omega) nilG hg
 have HB1:=ξh (((ξb w.heap.size w).alloc (ξr _) (.cells #[.slice a1 m1 c1,.slice a2 m2 c2] 35)).alloc (by simp) (.cells #[.slice none 0 0,.slice none 0 0,.slice none 0 0] 75))
 have HX1:=ξh (ξn (w.alloc (.cells #[.slice a1 m1 c1,.slice a2 m2 c2] 35)) (.cells #[.slice none 0 0,.slice none 0 0,.slice none 0 0] 75))
 have hz1:(w.alloc (.cells #[.slice a1 m1 c1,.slice a2 m2 c2] 35)).heap.size=w.heap.size+1:=by simp
 rw[hz1] at HX1
 clear hnet hf hg hNP r1 r2 hsm hz1
 go_enter Tryz.func45,Tryz.ntmps45
 go_wp2_with fail
 generalize (w.alloc (.cells #[.slice a1 m1 c1,.slice a2 m2 c2] 35)).alloc (.cells #[.slice none 0 0,.slice none 0 0,.slice none 0 0] 75)=w1 at *
 obtain⟨bp,hbp⟩:∃bp,bp=w.heap.size+1:=⟨_,rfl⟩
 have HBP:=ξh (show w.heap.size≤bp by omega)
 rw[←hbp] at HX1 ⊢
 clear hbp
 refine(HP.out w1 HB1.out).mono ?_
 rintro e w2 ⟨b2,aw,ms,cs,a,m,c,rfl,hpl,hno⟩
 have HB2:=ξh (HB1.trans (b2.mono HB1.size))
 have HX2:=ξh (ξA HX1.out b2)
 have HZ1:=ξh HB1.size
 cases hO:ξR n fs gs with
 | none=>
   obtain⟨-,k2⟩:=ξap hO
   have HE:=ξh (⟨by unfold plaK;rw[k2];rfl,by unfold plaR;rw[hO]⟩:plaK n fs gs p=false∧plaR n fs gs p=⟨⟨[],[]⟩,[]⟩)
   rw[k2]
   clear b2 hpl hO hno k2
   go_wp2_with ((show wpList _ _ _ (⟨none,.store 75 _ _,_,_,_,_⟩::_) _ _);refine ξaK rfl 75 _ _ rfl bp 0 [.slice none 0 0,.slice none 0 0,.slice none 0 0] rfl rfl HX2.out (by simp) (by kernel_rfl) (by simp[Value.oneCell']) ?_;intro w8 hs;have N8:=ξh hs.blk;have HB8:=ξh (hs.below w.heap.size w HBP.out HB2.out);have HS8:=ξh hs;clear hs)
   have z0:=blkc N8.out (j:=0) (u:= .slice none 0 0) rfl
   have z1:=blkc N8.out (j:=1) (u:= .slice none 0 0) rfl
   have z2:=blkc N8.out (j:=2) (u:= .slice none 0 0) rfl
   rw[HNP.out]
   exact bodyPost_ret (v:= .tuple #[.agg #[.slice none 0 0,.slice none 0 0,.slice none 0 0],.bool false]) (by simp[results,Tryz.results45,go_sem,z0,z1,z2]) rfl ⟨_,[],by rw[HE.1],by rw[HE.2];exact nilP_own _,List.nodup_nil,fun k hk=>(by cases hk),HB8.out⟩
 | some x=>
   obtain⟨ps,r⟩:=x
   have k3:=(ξaf hO).2.2
   rw[k3]
   obtain⟨hg8,-,-⟩:=hpl ps r hO
   obtain⟨hl8,-,-⟩:=pls_ok hO
   obtain⟨bs,offs,cc,es,HPL⟩:=pls_own hg8 hl8
   cases es
   cases hin:inB p 0 7 with
   | false=>
     have HE:=ξh (⟨by unfold plaK;rw[hin,Bool.and_false],by unfold plaR;rw[hO];simp only;rw[if_neg (by rw[hin];decide)]⟩:plaK n fs gs p=false∧plaR n fs gs p=⟨⟨[],[]⟩,[]⟩)
     clear b2 hpl hO hno k3 hg8 hl8 HPL HP
     go_wp2_with (first | (go_at_call 74;refine(ξE _ _ _ _).mono ?_;rintro e w' ⟨rfl,rfl⟩;rw[hin]) | ((show wpList _ _ _ (⟨none,.store 75 _ _,_,_,_,_⟩::_) _ _);refine ξaK rfl 75 _ _ rfl bp 0 [.slice none 0 0,.slice none 0 0,.slice none 0 0] rfl rfl HX2.out (by simp) (by kernel_rfl) (by simp[Value.oneCell']) ?_;intro w8 hs;have N8:=ξh hs.blk;have HB8:=ξh (hs.below w.heap.size w HBP.out HB2.out);have HS8:=ξh hs;clear hs))
     have z0:=blkc N8.out (j:=0) (u:= .slice none 0 0) rfl
     have z1:=blkc N8.out (j:=1) (u:= .slice none 0 0) rfl
     have z2:=blkc N8.out (j:=2) (u:= .slice none 0 0) rfl
     rw[HNP.out]
     exact bodyPost_ret (v:= .tuple #[.agg #[.slice none 0 0,.slice none 0 0,.slice none 0 0],.bool false]) (by simp[results,Tryz.results45,go_sem,z0,z1,z2]) rfl ⟨_,[],by rw[HE.1],by rw[HE.2];exact nilP_own _,List.nodup_nil,fun k hk=>(by cases hk),HB8.out⟩
   | true=>
     have HE:=ξh (⟨by unfold plaK;rw[k3,hin];rfl,by unfold plaR;rw[hO];simp only;rw[if_pos hin]⟩:plaK n fs gs p=true∧plaR n fs gs p=⟨n,ps[p.toNat]?.getD []⟩)
     obtain⟨t,rfl⟩:∃t:Nat,p=(t:Int):=⟨p.toNat,by unfold inB at hin;simp at hin;omega⟩
     have ht:t<8:=by unfold inB at hin;simp at hin;omega
     have htI:(t:Int)<8:=by omega
     have ht0:(0:Int)≤(t:Int):=by omega
     rw[Int.toNat_natCast] at HE
     obtain⟨t1,u1,v1,t2,u2,v2,t3,u3,v3,fp,d0,d1,d2,ho,hnd,hlo⟩:=HPL.out t ht
     have HO:=ξh ho
     have HND:=ξh hnd
     have HLO:=ξh hlo
     have HZ2:=ξh (show bp<w1.heap.size from(ξa HX1.out).1)
     have HAP:=ξh (show∀k∈fp,k≠bp from fun k hk=>by have:=hlo k hk;have:=HZ2.out;omega)
     clear b2 hpl hO hno k3 hg8 hl8 HPL HP ho hnd hlo
     go_wp2_with (first | (go_at_call 74;refine(ξE _ _ _ _).mono ?_;rintro e w' ⟨rfl,rfl⟩;rw[hin]) | ((show wpList _ _ _ (⟨none,.store 75 _ _,_,_,_,_⟩::_) _ _);refine ξaK rfl 75 _ _ rfl bp 0 [.slice t1 u1 v1,.slice t2 u2 v2,.slice t3 u3 v3] rfl rfl HX2.out (by simp) (by kernel_rfl) (by simp[Value.oneCell']) ?_;intro w8 hs;have N8:=ξh hs.blk;have HB8:=ξh (hs.below w.heap.size w HBP.out HB2.out);have HS8:=ξh hs;clear hs))
     have HO8:=ξh (HO.kept (w':=w8) fun k hk=>HS8.other k (HAP.out k hk))
     have z0:=blkc N8.out (j:=0) (u:= .slice t1 u1 v1) rfl
     have z1:=blkc N8.out (j:=1) (u:= .slice t2 u2 v2) rfl
     have z2:=blkc N8.out (j:=2) (u:= .slice t3 u3 v3) rfl
     rw[HNP.out]
     exact bodyPost_ret (v:= .tuple #[.agg #[.slice t1 u1 v1,.slice t2 u2 v2,.slice t3 u3 v3],.bool true]) (by simp[results,Tryz.results45,go_sem,z0,z1,z2]) rfl ⟨_,fp,by rw[HE.1],by rw[HE.2];exact HO8.out,HND.out,fun k hk=>⟨ξs (HB1.size) (HLO.out k hk).1,by rw[HS8.size];exact(HLO.out k hk).2⟩,HB8.out⟩
theorem specPla_any (p:Int) (v vf vg:Value) (n:Net) (fs:List Fmt) (gs:List Gro) (w:World) (h:NetR w v n) (hf:Rdt w (flt 2 fmE fs) vf) (hg:Rdt w (flt 6 groE gs) vg):
 Calls Tryz.prog 46 #[v,vf,vg,.int .i64 p] w (PlaP n fs gs p w):=by
 obtain⟨NP,hNP⟩:∃NP,NP=PlaP n fs gs p w:=⟨_,rfl⟩
 rw[←hNP]
 have HNP:=ξh hNP
 have HP:=ξh (fun w' (hb:Below w.heap.size w w')=>ξbN v vf vg n fs gs w' (h.behind hb) (hf.behind hb) (hg.behind hb))
 have hnet:=h
 obtain⟨u1,u2,rfl,r1,r2,hsm⟩:=h
 obtain⟨⟨a1,m1,c1,rfl⟩,-⟩:=ξF hnet
 obtain⟨a2,m2,c2,rfl,-,-,-,-⟩:=ξC (m:=4) (enc:=fibE) (fun _=>rfl) (by omega) nilB r2
 obtain⟨af,mf,cf,rfl,-,-,-,-⟩:=ξC (m:=2) (enc:=fmE) (fun _=>rfl) (by omega) ξJ hf
 obtain⟨ag,mg,cg,rfl,-,-,-,-⟩:=ξC (m:=6) (enc:=groE) (fun _=>rfl) (by omega) nilG hg
 have HB1:=ξh (((ξb w.heap.size w).alloc (ξr _) (.cells #[.slice a1 m1 c1,.slice a2 m2 c2] 35)).alloc (by simp) (.cells #[.slice none 0 0,.slice none 0 0,.slice none 0 0] 75))
 have HX1:=ξh (ξn (w.alloc (.cells #[.slice a1 m1 c1,.slice a2 m2 c2] 35)) (.cells #[.slice none 0 0,.slice none 0 0,.slice none 0 0] 75))
 have hz1:(w.alloc (.cells #[.slice a1 m1 c1,.slice a2 m2 c2] 35)).heap.size=w.heap.size+1:=by simp
 rw[hz1] at HX1
 clear hnet hf hg hNP r1 r2 hsm hz1
 go_enter Tryz.func46,Tryz.ntmps46
 go_wp2_with fail
 generalize (w.alloc (.cells #[.slice a1 m1 c1,.slice a2 m2 c2] 35)).alloc (.cells #[.slice none 0 0,.slice none 0 0,.slice none 0 0] 75)=w1 at *
 obtain⟨bp,hbp⟩:∃bp,bp=w.heap.size+1:=⟨_,rfl⟩
 have HBP:=ξh (show w.heap.size≤bp by omega)
 rw[←hbp] at HX1 ⊢
 clear hbp
 refine(HP.out w1 HB1.out).mono ?_
 rintro e w2 ⟨b2,aw,ms,cs,a,m,c,rfl,hpl⟩
 have HB2:=ξh (HB1.trans (b2.mono HB1.size))
 have HX2:=ξh (ξA HX1.out b2)
 have ha3:=(ξb w2.heap.size w2).alloc (ξr _) (.cells #[.slice aw ms cs,.slice a m c] 95)
 have HB3:=ξh (HB2.trans (ha3.mono HB2.size))
 have HX3:=ξh (ξA HX2.out ha3)
 have HA3:=ξh ha3
 have HS2:=ξh b2.size
 clear ha3
 cases hO:ξR n fs gs with
 | none=>
   obtain⟨-,k2⟩:=ξap hO
   have HE:=ξh (⟨by unfold plaK;rw[k2];rfl,by unfold plaR;rw[hO]⟩:plaK n fs gs p=false∧plaR n fs gs p=⟨⟨[],[]⟩,[]⟩)
   rw[k2]
   clear b2 hpl hO k2
   go_wp2_with ((show wpList _ _ _ (⟨none,.store 75 _ _,_,_,_,_⟩::_) _ _);refine ξaK rfl 75 _ _ rfl bp 0 [.slice none 0 0,.slice none 0 0,.slice none 0 0] rfl rfl HX3.out (by simp) (by kernel_rfl) (by simp[Value.oneCell']) ?_;intro w8 hs;have N8:=ξh hs.blk;have HB8:=ξh (hs.below w.heap.size w HBP.out HB3.out);have HS8:=ξh hs;clear hs)
   have z0:=blkc N8.out (j:=0) (u:= .slice none 0 0) rfl
   have z1:=blkc N8.out (j:=1) (u:= .slice none 0 0) rfl
   have z2:=blkc N8.out (j:=2) (u:= .slice none 0 0) rfl
   rw[HNP.out]
   exact bodyPost_ret (v:= .tuple #[.agg #[.slice none 0 0,.slice none 0 0,.slice none 0 0],.bool false]) (by simp[results,Tryz.results46,go_sem,z0,z1,z2]) rfl ⟨_,[],by rw[HE.1],by rw[HE.2];exact nilP_own _,List.nodup_nil,fun k hk=>(by cases hk),HB8.out⟩
 | some x=>
   obtain⟨ps,r⟩:=x
   have k3:=(ξaf hO).2.2
   rw[k3]
   obtain⟨hg8,-,-⟩:=hpl ps r hO
   obtain⟨hl8,-,-⟩:=pls_ok hO
   obtain⟨bs,offs,cc,es,HPL⟩:=pls_own hg8 hl8
   cases es
   cases hin:inB p 0 7 with
   | false=>
     have HE:=ξh (⟨by unfold plaK;rw[hin,Bool.and_false],by unfold plaR;rw[hO];simp only;rw[if_neg (by rw[hin];decide)]⟩:plaK n fs gs p=false∧plaR n fs gs p=⟨⟨[],[]⟩,[]⟩)
     clear b2 hpl hO k3 hg8 hl8 HPL HP
     go_wp2_with (first | (go_at_call 77;refine(ξI _ _ _ _).mono ?_;rintro e w' ⟨rfl,rfl⟩;rw[hin]) | ((show wpList _ _ _ (⟨none,.store 75 _ _,_,_,_,_⟩::_) _ _);refine ξaK rfl 75 _ _ rfl bp 0 [.slice none 0 0,.slice none 0 0,.slice none 0 0] rfl rfl HX3.out (by simp) (by kernel_rfl) (by simp[Value.oneCell']) ?_;intro w8 hs;have N8:=ξh hs.blk;have HB8:=ξh (hs.below w.heap.size w HBP.out HB3.out);have HS8:=ξh hs;clear hs))
     have z0:=blkc N8.out (j:=0) (u:= .slice none 0 0) rfl
     have z1:=blkc N8.out (j:=1) (u:= .slice none 0 0) rfl
     have z2:=blkc N8.out (j:=2) (u:= .slice none 0 0) rfl
     rw[HNP.out]
     exact bodyPost_ret (v:= .tuple #[.agg #[.slice none 0 0,.slice none 0 0,.slice none 0 0],.bool false]) (by simp[results,Tryz.results46,go_sem,z0,z1,z2]) rfl ⟨_,[],by rw[HE.1],by rw[HE.2];exact nilP_own _,List.nodup_nil,fun k hk=>(by cases hk),HB8.out⟩
   | true=>
     have HE:=ξh (⟨by unfold plaK;rw[k3,hin];rfl,by unfold plaR;rw[hO];simp only;rw[if_pos hin]⟩:plaK n fs gs p=true∧plaR n fs gs p=⟨n,ps[p.toNat]?.getD []⟩)
     obtain⟨t,rfl⟩:∃t:Nat,p=(t:Int):=⟨p.toNat,by unfold inB at hin;simp at hin;omega⟩
     have ht:t<8:=by unfold inB at hin;simp at hin;omega
     have htI:(t:Int)<8:=by omega
     have ht0:(0:Int)≤(t:Int):=by omega
     rw[Int.toNat_natCast] at HE
     obtain⟨t1,u1,v1,t2,u2,v2,t3,u3,v3,fp,d0,d1,d2,ho,hnd,hlo⟩:=HPL.out t ht
     have HO:=ξh ho
     have HND:=ξh hnd
     have HLO:=ξh hlo
     have HZ2:=ξh (show bp<w1.heap.size from(ξa HX1.out).1)
     have HAP:=ξh (show∀k∈fp,k≠bp from fun k hk=>by have:=hlo k hk;have:=HZ2.out;omega)
     have HO3:=ξh (HO.behind HA3.out)
     have hbs2:bs<w2.heap.size:=by
      have:=d0
      unfold World.cell? at this
      by_cases hlt:bs<w2.heap.size
      · exact hlt
      · rw[Array.getElem?_eq_none (by show w2.heap.size≤bs;omega)] at this;cases this
     have d0:=(HA3.cell (p:=⟨bs,offs+t * 3,none⟩) hbs2).trans d0
     have d1:=(HA3.cell (p:=⟨bs,offs+t * 3+1,none⟩) hbs2).trans d1
     have d2:=(HA3.cell (p:=⟨bs,offs+t * 3+2,none⟩) hbs2).trans d2
     have HR3:=ξh (ξn w2 (.cells #[.slice (some ⟨bs,offs,none⟩) 8 cs,.slice a m c] 95))
     clear b2 hpl hO k3 hg8 hl8 HPL HP ho hnd hlo hbs2
     go_upto_region 2 with fail
     generalize w2.alloc (.cells #[.slice (some ⟨bs,offs,none⟩) 8 cs,.slice a m c] 95)=w3 at *
     have r0:=blkc HR3.out (j:=0) (u:= .slice (some ⟨bs,offs,none⟩) 8 cs) rfl
     go_wp2_with (first | (go_at_call 77;refine(ξI _ _ _ _).mono ?_;rintro e w' ⟨rfl,rfl⟩;rw[hin]) | ((show wpList _ _ _ (⟨none,.store 75 _ _,_,_,_,_⟩::_) _ _);refine ξaK rfl 75 _ _ rfl bp 0 [.slice t1 u1 v1,.slice t2 u2 v2,.slice t3 u3 v3] rfl rfl HX3.out (by simp) (by kernel_rfl) (by simp[Value.oneCell']) ?_;intro w8 hs;have N8:=ξh hs.blk;have HB8:=ξh (hs.below w.heap.size w HBP.out HB3.out);have HS8:=ξh hs;clear hs))
     have HO8:=ξh (HO3.kept (w':=w8) fun k hk=>HS8.other k (HAP.out k hk))
     have z0:=blkc N8.out (j:=0) (u:= .slice t1 u1 v1) rfl
     have z1:=blkc N8.out (j:=1) (u:= .slice t2 u2 v2) rfl
     have z2:=blkc N8.out (j:=2) (u:= .slice t3 u3 v3) rfl
     rw[HNP.out]
     exact bodyPost_ret (v:= .tuple #[.agg #[.slice t1 u1 v1,.slice t2 u2 v2,.slice t3 u3 v3],.bool true]) (by simp[results,Tryz.results46,go_sem,z0,z1,z2]) rfl ⟨_,fp,by rw[HE.1],by rw[HE.2];exact HO8.out,HND.out,fun k hk=>⟨ξs (HB1.size) (HLO.out k hk).1,by rw[HS8.size];exact ξq (HLO.out k hk).2 HA3.size⟩,HB8.out⟩
theorem ξcc (v1 v2:Value) (x y:Lgt) (w:World) (h1:Rd w v1 x.fb) (h2:Rd w v2 y.fb) (hb1:ξac x.fi x.ct=true) (hb2:ξac y.fi y.ct=true) (_hl:x.fb.length≤1100000):
 Calls Tryz.prog 145 #[.agg #[.int .i64 x.id,.int .i64 x.st,v1,.int .i64 x.fi,.int .i64 x.ct],.agg #[.int .i64 y.id,.int .i64 y.st,v2,.int .i64 y.fi,.int .i64 y.ct]] w fun e w'=>e= .returned (.bool (ξY x y))∧Below w.heap.size w w':=by
 have HC:=ξh (fun w' (hb:Below w.heap.size w w')=>l4Uses_any v1 v2 ⟨x.st,x.fb⟩ y.fb w' (h1.belowAll hb) (h2.belowAll hb))
 have hd1:=ξb4 hb1
 have hd2:=ξb4 hb2
 obtain⟨a1,c1,m1,-,rfl,-,-,-⟩:=h1.opn
 obtain⟨a2,c2,m2,-,rfl,-,-,-⟩:=h2.opn
 have HF:=ξh (show ξY x y=(decide (x.fi<y.fi+y.ct∧y.fi<x.fi+x.ct)&&ξa9 x.fb y.fb) from rfl)
 obtain⟨bx,bc,blt,-⟩:=ξD w #[.int .i64 x.id,.int .i64 x.st,.slice a1 m1 c1,.int .i64 x.fi,.int .i64 x.ct] 86
 obtain⟨by',bd,bmt,-⟩:=ξD (w.alloc (.cells #[.int .i64 x.id,.int .i64 x.st,.slice a1 m1 c1,.int .i64 x.fi,.int .i64 x.ct] 86)) #[.int .i64 y.id,.int .i64 y.st,.slice a2 m2 c2,.int .i64 y.fi,.int .i64 y.ct] 86
 have q1:=(by'.cell (p:=⟨w.heap.size,1,none⟩) blt).trans (bc 1 _ rfl)
 have q2:=(by'.cell (p:=⟨w.heap.size,2,none⟩) blt).trans (bc 2 _ rfl)
 have q3:=(by'.cell (p:=⟨w.heap.size,3,none⟩) blt).trans (bc 3 _ rfl)
 have q4:=(by'.cell (p:=⟨w.heap.size,4,none⟩) blt).trans (bc 4 _ rfl)
 have l2:=bd 2 _ rfl
 have l3:=bd 3 _ rfl
 have l4:=bd 4 _ rfl
 have hs1:(w.alloc (.cells #[.int .i64 x.id,.int .i64 x.st,.slice a1 m1 c1,.int .i64 x.fi,.int .i64 x.ct] 86)).heap.size=w.heap.size+1:=by simp
 rw[hs1] at l2 l3 l4 bmt
 have blt2:=ξq blt by'.size
 have HBX:=ξh (bx.trans (by'.mono bx.size))
 clear bc bd bx by' hs1 blt h1 h2 hb1 hb2
 generalize ξY x y=q at *
 have HCQ:=ξh (fun w' (hb:Below w.heap.size w w')=>show Calls Tryz.prog 183 #[.agg #[.int .i64 x.st,.slice a1 m1 c1],.slice a2 m2 c2] w' fun e w''=>e= .returned (.bool (ξa9 x.fb y.fb))∧Below w'.heap.size w' w'' from HC.out w' hb)
 clear HC
 generalize ξa9 x.fb y.fb=mt at *
 generalize x.st=xs at *
 generalize x.fi=xf at *
 generalize y.fi=yf at *
 generalize x.ct=xc at *
 generalize y.ct=yc at *
 obtain⟨f,rfl⟩:∃f:Nat,xf=(f:Int):=⟨xf.toNat,by omega⟩
 obtain⟨g,rfl⟩:∃f:Nat,yf=(f:Int):=⟨yf.toNat,by omega⟩
 obtain⟨c,rfl⟩:∃f:Nat,xc=(f:Int):=⟨xc.toNat,by omega⟩
 obtain⟨d,rfl⟩:∃f:Nat,yc=(f:Int):=⟨yc.toNat,by omega⟩
 have HX:=ξh (fun w=>ξbo f c w (by omega))
 have HY:=ξh (fun w=>ξbo g d w (by omega))
 have hbm:=bits_meet (f:=f) (c:=c) (g:=g) (d:=d) (by omega) (by omega) (by omega) (by omega)
 clear hd1 hd2
 generalize mskN f c=s1 at *
 generalize mskN g d=s2 at *
 go_enter Tryz.func145,Tryz.ntmps145
 go_wp2
 generalize (w.alloc (.cells #[.int .i64 x.id,.int .i64 xs,.slice a1 m1 c1,.int .i64 f,.int .i64 c] 86)).alloc (.cells #[.int .i64 y.id,.int .i64 y.st,.slice a2 m2 c2,.int .i64 g,.int .i64 d] 86)=w2 at *
 generalize decide ((f:Int)<g+d∧(g:Int)<f+c)=hh at *
 have HCB:=ξh (fun(w':World) (hb:Below w2.heap.size w2 w')=>HCQ.out w' (HBX.trans (hb.mono HBX.size)))
 clear HCQ
 cases mt
 · have j1:=rg q1
   have j2:=rg q2
   have k2:=rg l2
   clear q1 q2 q3 q4 l2 l3 l4
   refine ξv ?_
   repeat (go_big_quiet_step (first | (go_at_call 183;exact Calls.regrown_of (HCB.out _ (ξc _ _ _)))))
   refine wpQuiet_nil ?_
   rintro _ ⟨⟨dq,osq⟩,rfl⟩
   go_wp2
   go_ret
   exact⟨by rw[HF.out];cases hh <;> rfl,HBX.trans ((ξc _ dq osq).mono HBX.size)⟩
 have j1:=rg q1
 have j2:=rg q2
 have j3:=rg q3
 have j4:=rg q4
 have k2:=rg l2
 have k3:=rg l3
 have k4:=rg l4
 clear q1 q2 q3 q4 l2 l3 l4
 refine ξv ?_
 repeat (go_big_quiet_step (first | (go_at_call 183;exact Calls.regrown_of (HCB.out _ (ξc _ _ _))) | (go_at_call 132;first | (with_reducible exact Calls.regrown_of (HX.out _)) | (with_reducible exact Calls.regrown_of (HY.out _)))))
 refine wpQuiet_nil ?_
 rintro _ ⟨⟨dq,osq⟩,rfl⟩
 go_wp2
 go_ret
 exact⟨by rw[HF.out];simp,HBX.trans ((ξc _ dq osq).mono HBX.size)⟩
end Go.Proofs.YtofcicomhnkocaaGreat
