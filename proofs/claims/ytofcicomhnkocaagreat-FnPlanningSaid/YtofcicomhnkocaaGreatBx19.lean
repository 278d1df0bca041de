/- Walk: the lights that a demand could be given (the program's). -/
import Derived.Test.YtofcicomhnkocaaGreatBx18
set_option linter.unusedVariables false
namespace Go.Proofs.YtofcicomhnkocaaGreat
set_option maxHeartbeats 3200000
open Go.RowKit Go.Sort
set_option maxRecDepth 100000
def ConR (p:Pln) (fs:List Fmt) (d:Dem) (w':World) (a:Option Addr) (m:Nat):Prop:=
 match pickU p.n fs d p.ls with
 | none=>m=0
 | some (u,_)=>0<m∧ ∃b fv,a=some ⟨b,0,none⟩∧b<w'.heap.size∧w'.cell? ⟨b,0,none⟩=some (.int .i64 0)∧w'.cell? ⟨b,1,none⟩=some (.int .i64 d.a)∧w'.cell? ⟨b,2,none⟩=some fv∧w'.cell? ⟨b,3,none⟩=some (.int .i64 ((fitU p.ls u).headD 0:Nat))∧w'.cell? ⟨b,4,none⟩=some (.int .i64 u.2)∧Rd w' fv u.1
def ConP (p:Pln) (fs:List Fmt) (d:Dem) (w:World) (e:Ending) (w':World):Prop:=Below w.heap.size w w'∧((failU p.n d=true∧e= .returned (.tuple #[.slice none 0 0,.bool false]))∨
 (failU p.n d=false∧ ∃a m c,m≤200∧e= .returned (.tuple #[.slice a m c,.bool true])∧ConR p fs d w' a m))
theorem rd_grown {w w':World} {g:Nat} {v:Value} {xs:List Int} (h:Rd w v xs) (hg:w.grownBy w' (some g)) (hn:∀q,v.ownBlock=some q→q≠g):Rd w' v xs:=by
 rcases h with h | ⟨b,off,c',hv,k1,k2,k3,k4⟩
 · exact .inl h
 · exact .inr ⟨b,off,c',hv,k1,k2,ξq k3 hg.size,fun j hj=>by rw[World.cell?_of_block (hg.block b k3 (fun e=>hn b (by rw[hv];rfl) (ξo e)))];exact k4 j hj⟩
theorem cho_cells {w:World} {base g m cap:Nat} {C:List Chc} (h:w.ownsRow base 189 3 (.slice (some ⟨g,0,none⟩) m cap) m (C.flatMap encC)) {k:Nat} (hk:k<C.length):
 w.cell? ⟨g,k*3,none⟩=some (.int .i64 (C[k]?.getD default).st)∧w.cell? ⟨g,k*3+1,none⟩=some (.slice (C[k]?.getD default).a (C[k]?.getD default).fb.length (C[k]?.getD default).c)∧w.cell? ⟨g,k*3+2,none⟩=some (.int .i64 ((C[k]?.getD default).ct:Int)):=by
 have key:=fun r (h:r<3)=>flatv_at (F:=encC) (k:=3) (fun _=>rfl) C k r h
 have h0:=key 0 (by omega)
 have h1:=key 1 (by omega)
 have h2:=key 2 (by omega)
 rw[ξg hk] at h0 h1 h2 ⊢
 rcases h.2 with ⟨e,e0⟩ | ⟨g',cap',cur,e,q1,q2,q3,q4,q5,q6⟩
 · cases e
 · simp only[Value.slice.injEq,Option.some.injEq,Addr.mk.injEq,and_true] at e
   obtain⟨rfl,-,-⟩:=e
   have ht:(cur.toList.drop 0).take (m*3)=C.flatMap encC:=by rw[List.drop_zero];exact q6
   have c0:=ξaj q2 ht h0 h.1
   have c1:=ξaj q2 ht h1 h.1
   have c2:=ξaj q2 ht h2 h.1
   rw[Nat.zero_add] at c0 c1 c2
   exact⟨c0,c1,c2⟩
theorem lgf_cells {w:World} {base m cap:Nat} {a:Option Addr} {F:List (Chc × Nat)} {y:Chc × Nat} {T:List (Chc × Nat)} (h:w.ownsRow base 86 5 (.slice a m cap) m (F.flatMap encF)) (hF:F=y::T):
 0<m∧ ∃b,a=some ⟨b,0,none⟩∧b<w.heap.size∧w.cell? ⟨b,0,none⟩=some (.int .i64 0)∧w.cell? ⟨b,1,none⟩=some (.int .i64 y.1.st)∧w.cell? ⟨b,2,none⟩=some (.slice y.1.a y.1.fb.length y.1.c)∧w.cell? ⟨b,3,none⟩=some (.int .i64 (y.2:Int))∧w.cell? ⟨b,4,none⟩=some (.int .i64 (y.1.ct:Int)):=by
 subst hF
 rcases h.2 with ⟨e,e0⟩ | ⟨g',cap',cur,e,q1,q2,q3,q4,q5,q6⟩
 · have hl:=h.1
   simp[encF,e0] at hl
 · simp only[Value.slice.injEq] at e
   obtain⟨rfl,-,-⟩:=e
   have hm:0<m:=by
    rcases Nat.eq_zero_or_pos m with e | e
    · have hl:=h.1
      simp[encF,e] at hl
    · exact e
   have ht:(cur.toList.drop 0).take (m*5)=(y::T).flatMap encF:=by rw[List.drop_zero];exact q6
   refine⟨hm,g',rfl,(ξa q2).1,?_,?_,?_,?_,?_⟩
   · have:=ξaj q2 ht (show _=some (.int .i64 0) from rfl) h.1 (j:=0);simpa using this
   · have:=ξaj q2 ht (show _=some (.int .i64 y.1.st) from rfl) h.1 (j:=1);simpa using this
   · have:=ξaj q2 ht (show _=some (.slice y.1.a y.1.fb.length y.1.c) from rfl) h.1 (j:=2);simpa using this
   · have:=ξaj q2 ht (show _=some (.int .i64 (y.2:Int)) from rfl) h.1 (j:=3);simpa using this
   · have:=ξaj q2 ht (show _=some (.int .i64 (y.1.ct:Int)) from rfl) h.1 (j:=4);simpa using this
theorem canC_mem {ls:List Lgt} {C:List Chc} {x:Chc} {s:Nat} (h:(x,s)∈canC ls C):x∈C:=by
 unfold canC at h
 obtain⟨y,hy,e⟩:=List.mem_filterMap.1 h
 cases hc:(fitC ls y).head? with
 | none=>rw[hc] at e;cases e
 | some z=>
   rw[hc] at e
   simp only[Option.map_some,Option.some.injEq,Prod.mk.injEq] at e
   rw[←e.1];exact hy
theorem con_end {p:Pln} {fs:List Fmt} {d:Dem} {w':World} {base m c:Nat} {a:Option Addr} {C L:List Chc} (hr:w'.ownsRow base 86 5 (.slice a m c) m ((canC p.ls C).flatMap encF))
 (hh:match pickU p.n fs d p.ls with | none=>canC p.ls C=[] | some (u,_)=>∃x T,canC p.ls C=(x,(fitU p.ls u).headD 0)::T∧usC x=u∧x∈L) (hrd:∀x∈C,x.st=d.a∧Rd w' (.slice x.a x.fb.length x.c) x.fb):ConR p fs d w' a m:=by
 unfold ConR
 cases hp:pickU p.n fs d p.ls with
 | none=>
   rw[hp] at hh
   have hl:=hr.1
   simp only at hh
   rw[hh] at hl
   simp at hl
   omega
 | some y=>
   obtain⟨u,i⟩:=y
   rw[hp] at hh
   obtain⟨x,T,e,hu,-⟩:=hh
   obtain⟨h0,b,h1,h2,h3,h4,h5,h6,h7⟩:=lgf_cells hr e
   have hm:=canC_mem (show(x,(fitU p.ls u).headD 0)∈canC p.ls C from by rw[e];exact List.mem_cons_self ..)
   obtain⟨k1,k2⟩:=hrd x hm
   rw[←hu]
   refine⟨h0,b,_,h1,h2,h3,by rw[h4,k1],h5,by rw[h6,hu],h7,k2⟩
theorem ξav {w:World} {b:Nat} {T:TypeId} {x0 x1:Value} (x y:Value) (h:w.heap[b]?= some (.cells #[x0,x1] T (0,0))):
 ((w.setCell ⟨b,0,none⟩ x).setCell ⟨b,1,none⟩ y).heap[b]?= some (.cells #[x,y] T (0,0))∧
 ∀(B:Nat) (u:World),B≤b→Below B u w→Below B u ((w.setCell ⟨b,0,none⟩ x).setCell ⟨b,1,none⟩ y):=by
 have q1:=ξe w b 0 _ T x h
 have q2:=ξe _ b 1 _ T y q1
 exact⟨by rw[q2];simp,fun B u hB hb=>(hb.setCell (p:=⟨b,0,none⟩) hB x).setCell (p:=⟨b,1,none⟩) hB y⟩
theorem considered_any (v vf:Value) (p:Pln) (fs:List Fmt) (d:Dem) (w:World) (h:PlnR w v p) (hf:Rdt w (flt 2 fmE fs) vf) (hn:ξL p.n=true) (hfo:fmOk fs=true) (hd:demOk d p.n.ns.length=true) (hl:p.ls.length≤1000) (hlo:∀x∈p.ls,LgO p.n.fs.length x) (hn2:p.n.fs.length≤1048576):
 Calls Tryz.prog 114 #[v,vf,demV d,.int .i64 1] w (ConP p fs d w):=by
 obtain⟨NP,hNP⟩:∃NP,NP=ConP p fs d w:=⟨_,rfl⟩
 rw[←hNP]
 have HRM:=ξh (fun fv st fb w' (hb:Below w.heap.size w w') (hr:Rd w' fv fb) hfb=>routeMask_any v fv p st fb w' (h.behind hb) hr hfb hn2 hl hlo)
 have HUL:=ξh (fun(fb:List Int) (hfb:∀f∈fb,0≤f∧f<(p.n.fs.length:Int))=>show ξP p.ls fb<16777216 from ξbg (fun i=>ξaA hlo i) _ 0 (fun f hf=>(hfb f hf).1) (by decide))
 have HAR:=ξh (fun r (hr:r∈allR p.n d.a d.b)=>(extR_inn (allR_mem hr):ξa7 p.n r))
 obtain⟨u1,u2,u3,rfl,r1,r2,r3,hsm⟩:=h
 have hnet:NetR w (.agg #[u1,u2]) p.n:=⟨u1,u2,rfl,r1,r2,hsm⟩
 have HUS:=ξh (fun w' (hb:Below w.heap.size w w')=>usable_any (.agg #[u1,u2]) vf p.n fs d w' (hnet.behind hb) (hf.behind hb) hn hfo hd)
 obtain⟨⟨a1,m1,c1,rfl⟩,a2,m2,c2,rfl⟩:=ξF hnet
 obtain⟨a3,m3,c3,rfl,HN3,hc3,hm3,ha3⟩:=ξa1 r3
 obtain⟨af,mf,cf,rfl,-,-,-,-⟩:=ξC (m:=2) (enc:=fmE) (fun _=>rfl) (by omega) ξJ hf
 have HB2:=ξh (ξb2 w (.cells #[.slice a1 m1 c1,.slice a2 m2 c2,.slice a3 m3 c3] 75) (.cells #[.int .i64 d.a,.int .i64 d.b,.int .i64 d.r,.int .i64 d.c] 53))
 have HNP:=ξh hNP
 clear r1 r2 r3 hsm hnet ha3 hl hn hlo hf hfo hd hn2 hNP
 unfold demV at HUS ⊢
 go_enter Tryz.func114,Tryz.ntmps114
 go_wp2_with fail
 generalize (w.alloc (.cells #[.slice a1 m1 c1,.slice a2 m2 c2,.slice a3 m3 c3] 75)).alloc (.cells #[.int .i64 d.a,.int .i64 d.b,.int .i64 d.r,.int .i64 d.c] 53)=w2 at *
 refine(HUS.out w2 HB2.1).mono ?_
 rintro e w3 ⟨b3,⟨hfu,rfl⟩ | ⟨hfu,g,cap,L,rfl,hC,hU⟩⟩
 · have HB3:=ξh (HB2.1.trans (b3.mono HB2.1.size))
   have HFU:=ξh hfu
   clear b3 hfu
   go_wp2
   rw[HNP.out]
   exact⟨HB3.out,.inl ⟨HFU.out,rfl⟩⟩
 · have HB3:=ξh (HB2.1.trans (b3.mono HB2.1.size))
   have HK3:=ξh (ξA HB2.2.1 b3)
   have HZ2:=ξh HB2.2.2.2
   have HW2:=ξh b3.size
   have HC:=ξh hC
   have HU:=ξh hU
   have HFU:=ξh hfu
   have HL200:=ξh (show L.length≤200 from by
    have h1:L.length=(usaR p.n fs d).length:=by rw[←hU,List.length_map]
    have h2:(usaR p.n fs d).length≤(allR p.n d.a d.b).length:=by unfold usaR;exact List.length_filterMap_le _ _
    unfold failU at hfu
    simp only[decide_eq_false_iff_not] at hfu
    omega)
   have HIN:=ξh (show∀x∈L,(∀f∈x.fb,0≤f∧f<(p.n.fs.length:Int))∧1≤x.ct from fun x hx=>by
    have hm:usC x∈usaR p.n fs d:=by rw[←hU];exact List.mem_map.2 ⟨x,hx,rfl⟩
    unfold usaR at hm
    obtain⟨r,hr,e⟩:=List.mem_filterMap.1 hm
    split at e
    · rename_i hpos
      simp only[Option.some.injEq,usC,Prod.mk.injEq] at e
      obtain⟨rfl,e2⟩:=e
      exact⟨fun f hf=>by
       obtain⟨k,hk,rfl⟩:=List.getElem_of_mem hf
       have h1:=HAR.out _ hr k hk
       rw[ξg hk] at h1
       exact h1,by omega⟩
    · cases e)
   have hgs:w2.heap.size≤g∧g<w3.heap.size:=hC.1.lt g rfl
   clear b3 hfu hC hU HUS
   go_wp2_with fail
   refine(byCost_any L w2.heap.size g cap (w3.alloc (.cells #[] 86)) (ξN HC.1 ((ξb _ _).alloc (ξr _) _)) (Nat.lt_of_le_of_lt HL200.out (by decide))).mono ?_
   rintro e w5 ⟨rfl,S,hss,hsp,hsr,hsg⟩
   have hz4:(w3.alloc (.cells #[] 86)).heap.size=w3.heap.size+1:=by simp
   have hb4:=(ξb w3.heap.size w3).alloc (ξr _) (.cells #[] 86)
   have hk4:=ξn w3 (.cells #[] 86)
   have hC5:∀x∈L,x.st=d.a∧Rd w5 (.slice x.a x.fb.length x.c) x.fb∧ ∀q,(Value.slice x.a x.fb.length x.c).ownBlock=some q→q<w3.heap.size:=fun x hx=>by
    obtain⟨k1,k2,k3⟩:=HC.2 x hx
    exact⟨k1,rd_grown (k2.belowAll hb4) hsg k3,fun q hq=>k2.lt q hq⟩
   have HSZ5:=ξh hsg.size
   have hq4:w5.heap[w3.heap.size]?= some (.cells #[] 86 (0,0)):=(hsg.block _ (by omega) (fun e=>by have:w3.heap.size=g:=ξo e;omega)).trans hk4
   have hR0:w5.ownsRow w3.heap.size 86 5 (.slice (some ⟨w3.heap.size,0,none⟩) 0 0) 0 []:=ξaD (World.ownsRow_made w3 #[] 0 (ξr _) (ξu _) (by simp)) fun q hq=>by
    have:w3.heap.size=q:=ξo hq
    subst this
    exact hq4.trans hk4.symm
   have HB5:=ξh (show Below w.heap.size w w5 from Below.grown (HB3.trans (hb4.mono HB3.size)) hsg (by have:=HB3.size;omega) (fun q hq=>by have:g=q:=ξo hq;have:=HZ2.out;omega))
   have HK5:=ξh ((hsg.block _ (by have:=HW2.out;have:=HZ2.out;omega) (fun e=>by have:w.heap.size=g:=ξo e;have:=HZ2.out;omega)).trans (ξA HK3.out hb4))
   obtain⟨C,hCe⟩:∃C,C=S.map Prod.fst:=⟨_,rfl⟩
   have hSC:S.flatMap encT=C.flatMap encC:=by rw[hCe,List.flatMap_map];rfl
   rw[hSC] at hsr
   have hCl:C.length=L.length:=by rw[hCe,List.length_map,hsp.length_eq];unfold tagS;simp
   have hCm:∀x∈C,x∈L:=fun x hx=>by
    rw[hCe] at hx
    obtain⟨y,hy,rfl⟩:=List.mem_map.1 hx
    rw[←tagS_fst L]
    exact List.mem_map.2 ⟨y,hsp.mem_iff.1 hy,rfl⟩
   have HHD:=ξh (canC_head (ls:=p.ls) hss hsp HU.out)
   rw[←hCe] at HHD
   have HCE:=ξh (fun k (hk:k<C.length)=>show(C[k]?.getD default)=C[k] from by rw[ξg hk];rfl)
   have HCX:=ξh (fun k (hk:k<L.length)=>show(C[k]?.getD default).st=d.a∧Rd w5 (.slice (C[k]?.getD default).a (C[k]?.getD default).fb.length (C[k]?.getD default).c) (C[k]?.getD default).fb∧(∀q,(Value.slice (C[k]?.getD default).a (C[k]?.getD default).fb.length (C[k]?.getD default).c).ownBlock=some q→q<w3.heap.size)∧(∀f∈(C[k]?.getD default).fb,0≤f∧f<(p.n.fs.length:Int))∧1≤(C[k]?.getD default).ct from by
    have hk2:k<C.length:=by omega
    rw[HCE.out k hk2]
    have hm:=hCm _ (ξj hk2)
    obtain⟨k1,k2,k3⟩:=hC5 _ hm
    obtain⟨k4,k5⟩:=HIN.out _ hm
    exact⟨k1,k2,k3,k4,k5⟩)
   have HST:=ξh (fun k (hk:k<L.length)=>show canC p.ls (C.take (k+1))=canC p.ls (C.take k)++((fitC p.ls (C[k]?.getD default)).head?.map fun s=>((C[k]?.getD default),s)).toList from by
    have hk2:k<C.length:=by omega
    rw[HCE.out k hk2];exact canC_step hk2)
   have HCC:=ξh (fun k (hk:k<L.length)=>cho_cells hsr (k:=k) (by omega))
   have HRD:=ξh (fun x hx=>(hC5 x (hCm x hx)))
   have HTA:=ξh (show canC p.ls (C.take L.length)=canC p.ls C from by rw[List.take_of_length_le (by omega)])
   have HR0:=ξh (show w5.ownsRow w3.heap.size 86 5 (.slice (some ⟨w3.heap.size,0,none⟩) 0 0) 0 ((canC p.ls (C.take 0)).flatMap encF) from hR0)
   have hm200:=HL200.out
   have HGS:=ξh hgs
   have HHD2:=HHD
   have HW3:=ξh (show w.heap.size+1+1≤w3.heap.size from by have:=HW2.out;have:=HZ2.out;omega)
   generalize L.length=m at *
   clear hz4 hb4 hk4 hC5 hq4 hR0 hCe hSC hsr hCl hCm hss hsp hsg HC HU HIN HCE HHD2 hgs HAR
   go_wp2_with fail
   go_loopw [12,31] (fun s12 i wr=>∃(k q:Nat) (a12:Option Addr) (c12:Nat),k≤m∧i= .int .i64 k∧s12= .slice a12 q c12∧q≤k∧Hid (wr.ownsRow w3.heap.size 86 5 (.slice a12 q c12) q ((canC p.ls (C.take k)).flatMap encF))∧Hid (Below w3.heap.size w5 wr)) (fun _ i _=>m-(intOf i).toNat)
   case atStart=>exact⟨0,0,_,_,ξu _,rfl,rfl,ξr _,HR0.out,ξb _ _⟩
   case round=>
    obtain⟨k,q,a12,c12,hk,rfl,rfl,hqk,HR,HB⟩:=hrel
    have hs5:w3.heap.size<wr.heap.size:=by have:=HB.size;have:=HSZ5.out;simp at this;omega
    by_cases hlt:k<m
    · have hltI:(k:Int)<(m:Int):=by omega
      obtain⟨e0,e1,e2⟩:=HCC.out k hlt
      have mv:∀j,wr.cell? ⟨g,j,none⟩=w5.cell? ⟨g,j,none⟩:=fun j=>HB.cell (p:=⟨g,j,none⟩) HGS.2
      rw[←mv] at e0 e1 e2
      obtain⟨x1,x2,x3,x4,x5⟩:=HCX.out k hlt
      have HSK:=ξh (HST.out k hlt)
      have hx24:=(C[k]?.getD default).hc
      have HRX:=ξh (fun w' (hb:Below wr.heap.size wr w')=>(x2.below HB.out x3).belowAll hb)
      have hfx:fitV (ξP p.ls (C[k]?.getD default).fb) (C[k]?.getD default).ct=fitV (ξP p.ls (C[k]?.getD default).fb) (C[k]?.getD default).ct:=rfl
      have HUX:=ξh (HUL.out _ x4)
      have HRMX:=ξh (fun w' hb hr=>HRM.out (.slice (C[k]?.getD default).a (C[k]?.getD default).fb.length (C[k]?.getD default).c) (C[k]?.getD default).st (C[k]?.getD default).fb w' hb hr x4)
      have HFT:=ξh (fun w'=>fitting_any (ξP p.ls (C[k]?.getD default).fb) (C[k]?.getD default).ct w' HUX.out x5 hx24)
      have HFV:=ξh (show(∃f1 f2 b,fitV (ξP p.ls (C[k]?.getD default).fb) (C[k]?.getD default).ct= .tuple #[.agg #[.int .i64 f1,.int .i64 f2],.bool b]∧(b=false→fitC p.ls (C[k]?.getD default)=[])∧(b=true→ ∃s t,fitC p.ls (C[k]?.getD default)=s::t∧f1=(s:Int)∧f2=((C[k]?.getD default).ct:Int))) from by
       unfold fitV fitC
       cases fitsN (ξP p.ls (C[k]?.getD default).fb) (C[k]?.getD default).ct with
       | nil=>exact⟨_,_,_,rfl,fun _=>rfl,fun h=>by cases h⟩
       | cons s t=>exact⟨_,_,_,rfl,fun h=>(by cases h),fun _=>⟨s,t,rfl,rfl,rfl⟩⟩)
      generalize (C[k]?.getD default)=x at *
      have HX1:=ξh x1
      clear x1 x2 x3 x4 x5 mv hfx
      obtain⟨f1,f2,b,hfv,hbF,hbT⟩:=HFV.out
      rw[hfv] at HFT
      have HBF:=ξh hbF
      have HBT:=ξh hbT
      clear hfv hbF hbT HFV
      go_upto_region 8 with fail
      have n2:=ξn wr (.cells #[.int .i64 x.st,.slice x.a x.fb.length x.c,.int .i64 (x.ct:Int)] 189)
      have n3:=(ξb wr.heap.size wr).alloc (ξr _) (.cells #[.int .i64 x.st,.slice x.a x.fb.length x.c,.int .i64 (x.ct:Int)] 189)
      have n4:wr.heap.size<(wr.alloc (.cells #[.int .i64 x.st,.slice x.a x.fb.length x.c,.int .i64 (x.ct:Int)] 189)).heap.size:=by simp
      obtain⟨bq,hbq⟩:∃bq,bq=wr.heap.size:=⟨_,rfl⟩
      have HX6:=ξh (hbq▸n2)
      have HBQ:=ξh hbq
      have HB6:=ξh n3
      have HN4:=ξh n4
      rw[←hbq]
      clear n2 n3 n4 e0 e1 e2 hbq
      generalize wr.alloc (.cells #[.int .i64 x.st,.slice x.a x.fb.length x.c,.int .i64 (x.ct:Int)] 189)=w6 at *
      have HWR:=ξh (show Below w.heap.size w wr from HB5.trans (HB.mono (by have:=HW3.out;omega)))
      have HW6:=ξh (show Below w.heap.size w w6 from HWR.trans (HB6.mono HWR.size))
      have HX6':w6.heap[bq]?= some (.cells #[.int .i64 x.st,.slice x.a x.fb.length x.c,.int .i64 (x.ct:Int)] 189):=by have:=HX6.out;rw[HBQ.out];rw[HBQ.out] at this;exact this
      have HX7:=ξh HX6'
      have HP6:=ξh (show w6.heap[w.heap.size]?= some (.cells #[.slice a1 m1 c1,.slice a2 m2 c2,.slice a3 m3 c3] 75) from(HB6.block _ (by have:=HWR.size;have:=HW3.out;omega)).trans ((HB.block _ (by have:=HW3.out;omega)).trans HK5.out))
      have HSS:=ξh (fun(w':World) (hb:Below w6.heap.size w6 w')=>show w'.cell? ⟨w.heap.size,0,none⟩=some (.slice a1 m1 c1)∧w'.cell? ⟨w.heap.size,1,none⟩=some (.slice a2 m2 c2)∧w'.cell? ⟨w.heap.size,2,none⟩=some (.slice a3 m3 c3)∧w'.cell? ⟨bq,0,none⟩=some (.int .i64 x.st)∧w'.cell? ⟨bq,1,none⟩=some (.slice x.a x.fb.length x.c)∧w'.cell? ⟨bq,2,none⟩=some (.int .i64 (x.ct:Int)) from
       have h1:=ξA HP6.out hb
       have h2:=ξA HX7.out hb
       ⟨blkc h1 rfl,blkc h1 rfl,blkc h1 rfl,blkc h2 rfl,blkc h2 rfl,blkc h2 rfl⟩)
      clear HX6' HX6
      generalize ξP p.ls x.fb=u at *
      refine ξH [0,1,2,3,4,5,6,7,8,9,10,11,12,13] (S:=fun w'=>w'.cell? ⟨w.heap.size,0,none⟩=some (.slice a1 m1 c1)∧w'.cell? ⟨w.heap.size,1,none⟩=some (.slice a2 m2 c2)∧w'.cell? ⟨w.heap.size,2,none⟩=some (.slice a3 m3 c3)∧w'.cell? ⟨bq,0,none⟩=some (.int .i64 x.st)∧w'.cell? ⟨bq,1,none⟩=some (.slice x.a x.fb.length x.c)∧w'.cell? ⟨bq,2,none⟩=some (.int .i64 (x.ct:Int))) (by kernel_rfl) (HSS.out _ (ξb _ _).drew) (fun hH=> ?_)
      have BL:Below w6.heap.size w6 w6.drew:=(ξb _ _).drew
      refine hlF 0 rfl hH ?_
      try simp only[Act.put,hlA,hlB,hlC]
      refine hlF 1 rfl hH ?_
      try simp only[Act.put,hlA,hlB,hlC]
      refine hlF 2 rfl hH ?_
      try simp only[Act.put,hlA,hlB,hlC]
      refine hlF 4 rfl hH ?_
      try simp only[Act.put,hlA,hlB,hlC]
      refine hlF 5 rfl hH ?_
      try simp only[Act.put,hlA,hlB,hlC]
      refine hlF 6 rfl hH ?_
      try simp only[Act.put,hlA,hlB,hlC]
      refine ξB (rs:=[3,11]) (by kernel_rfl) (by simp) ?_
      refine AllReadyL.cons rfl (fun KK hKK=> ?_) (AllReadyL.cons rfl (fun KK hKK=> ?_) AllReadyL.nil)
      go_simp
      go_at_call 159
      refine(HRMX.out _ (HW6.trans (BL.mono HW6.size)) (HRX.out _ (HB6.trans (BL.mono HB6.size)))).mono ?_
      rintro e w39 ⟨rfl,b39⟩
      have BL:=BL.trans (b39.mono BL.size)
      skip
      refine hKK.out _ _ (HSS.out _ BL) (fun hH=> ?_)
      clear hKK KK
      try simp only[Act.put,hlA,hlB,hlC]
      refine ξB (rs:=[7,11]) (by kernel_rfl) (by simp) ?_
      refine AllReadyL.cons rfl (fun KK hKK=> ?_) (AllReadyL.cons rfl (fun KK hKK=> ?_) AllReadyL.nil)
      go_simp
      go_at_call 158
      refine(HFT.out _).mono ?_
      rintro e w43 ⟨rfl,b43⟩
      have BL:=BL.trans (b43.mono BL.size)
      skip
      refine hKK.out _ _ (HSS.out _ BL) (fun hH=> ?_)
      clear hKK KK
      try simp only[Act.put,hlA,hlB,hlC]
      refine hlF 8 rfl hH ?_
      try simp only[Act.put,hlA,hlB,hlC]
      refine hlF 9 rfl hH ?_
      try simp only[Act.put,hlA,hlB,hlC]
      refine hlF 10 rfl hH ?_
      try simp only[Act.put,hlA,hlB,hlC]
      refine ξB (rs:=[11]) (by kernel_rfl) (by simp) ?_
      refine AllReadyL.cons rfl (fun KK hKK=> ?_) AllReadyL.nil
      go_simp
      obtain⟨bb,hbb⟩:∃bb,bb=w43.heap.size:=⟨_,rfl⟩
      have K15:(w43.alloc (.cells #[.int .i64 0,.int .i64 0] 84)).heap[w43.heap.size]?= some (.cells #[.int .i64 0,.int .i64 0] 84):=ξn w43 (.cells #[.int .i64 0,.int .i64 0] 84)
      have BB:w6.heap.size≤bb:=by rw[hbb];exact BL.size
      have BL:Below w6.heap.size w6 (w43.alloc (.cells #[.int .i64 0,.int .i64 0] 84)):=BL.alloc BL.size _
      rw[←hbb] at K15 ⊢
      have K15:=ξh K15
      have BB:=ξh BB
      clear hbb
      generalize w43.alloc (.cells #[.int .i64 0,.int .i64 0] 84)=w43 at *
      refine hKK.out _ _ (HSS.out _ BL) (fun hH=> ?_)
      clear hKK KK
      try simp only[Act.put,hlA,hlB,hlC]
      refine ξB (rs:=[12]) (by kernel_rfl) (by simp) ?_
      refine AllReadyL.cons rfl (fun KK hKK=> ?_) AllReadyL.nil
      have z0:=blkc K15.out (j:=0) (u:= .int .i64 0) rfl
      have z1:=blkc K15.out (j:=1) (u:= .int .i64 0) rfl
      have g0:w43.frozen? ⟨bb,0,none⟩=false:=ξz _ _ _ _ _ K15.out
      have g1:w43.frozen? ⟨bb,1,none⟩=false:=ξz _ _ _ _ _ K15.out
      go_simp
      obtain⟨q9,b9⟩:=ξav (.int .i64 f1) (.int .i64 f2) K15.out
      have BL:=b9 w6.heap.size w6 BB.out BL
      have KB:=ξh q9
      clear z0 z1 g0 g1 q9 b9 K15
      generalize (w43.setCell ⟨bb,0,none⟩ (.int .i64 f1)).setCell ⟨bb,1,none⟩ (.int .i64 f2)=w9 at *
      refine hKK.out _ _ (HSS.out _ BL) (fun hH=> ?_)
      clear hKK KK
      try simp only[Act.put,hlA,hlB,hlC]
      refine ξG 13 rfl (by kernel_rfl) (by kernel_rfl) (fun KK hKK=> ?_)
      go_simp
      refine hKK.out _ _ ?_
      clear hKK KK
      try simp only[Act.put,hlA,hlB,hlC]
      refine ξS (by kernel_rfl) ?_ _
      rotate_left 1
      go_simp
      obtain⟨bb,hbb⟩:∃bb,bb=w39.heap.size:=⟨_,rfl⟩
      have K15:(w39.alloc (.cells #[.int .i64 0,.int .i64 0] 84)).heap[w39.heap.size]?= some (.cells #[.int .i64 0,.int .i64 0] 84):=ξn w39 (.cells #[.int .i64 0,.int .i64 0] 84)
      have BB:w6.heap.size≤bb:=by rw[hbb];exact BL.size
      have BL:Below w6.heap.size w6 (w39.alloc (.cells #[.int .i64 0,.int .i64 0] 84)):=BL.alloc BL.size _
      rw[←hbb] at K15 ⊢
      have K15:=ξh K15
      have BB:=ξh BB
      clear hbb
      generalize w39.alloc (.cells #[.int .i64 0,.int .i64 0] 84)=w15 at *
      refine hKK.out _ _ (HSS.out _ BL) (fun hH=> ?_)
      clear hKK KK
      try simp only[Act.put,hlA,hlB,hlC]
      refine ξB (rs:=[7]) (by kernel_rfl) (by simp) ?_
      refine AllReadyL.cons rfl (fun KK hKK=> ?_) AllReadyL.nil
      go_simp
      go_at_call 158
      refine(HFT.out _).mono ?_
      rintro e w43 ⟨rfl,b43⟩
      have BL:=BL.trans (b43.mono BL.size)
      have K15:=ξh (ξA K15.out b43)
      refine hKK.out _ _ (HSS.out _ BL) (fun hH=> ?_)
      clear hKK KK
      try simp only[Act.put,hlA,hlB,hlC]
      refine hlF 8 rfl hH ?_
      try simp only[Act.put,hlA,hlB,hlC]
      refine hlF 9 rfl hH ?_
      try simp only[Act.put,hlA,hlB,hlC]
      refine hlF 10 rfl hH ?_
      try simp only[Act.put,hlA,hlB,hlC]
      refine ξB (rs:=[12]) (by kernel_rfl) (by simp) ?_
      refine AllReadyL.cons rfl (fun KK hKK=> ?_) AllReadyL.nil
      have z0:=blkc K15.out (j:=0) (u:= .int .i64 0) rfl
      have z1:=blkc K15.out (j:=1) (u:= .int .i64 0) rfl
      have g0:w43.frozen? ⟨bb,0,none⟩=false:=ξz _ _ _ _ _ K15.out
      have g1:w43.frozen? ⟨bb,1,none⟩=false:=ξz _ _ _ _ _ K15.out
      go_simp
      obtain⟨q9,b9⟩:=ξav (.int .i64 f1) (.int .i64 f2) K15.out
      have BL:=b9 w6.heap.size w6 BB.out BL
      have KB:=ξh q9
      clear z0 z1 g0 g1 q9 b9 K15
      generalize (w43.setCell ⟨bb,0,none⟩ (.int .i64 f1)).setCell ⟨bb,1,none⟩ (.int .i64 f2)=w9 at *
      refine hKK.out _ _ (HSS.out _ BL) (fun hH=> ?_)
      clear hKK KK
      try simp only[Act.put,hlA,hlB,hlC]
      refine ξG 13 rfl (by kernel_rfl) (by kernel_rfl) (fun KK hKK=> ?_)
      go_simp
      refine hKK.out _ _ ?_
      clear hKK KK
      try simp only[Act.put,hlA,hlB,hlC]
      refine ξS (by kernel_rfl) ?_ _
      rotate_left 1
      go_simp
      obtain⟨bb,hbb⟩:∃bb,bb=w6.heap.size:=⟨_,rfl⟩
      have K15:((w6.alloc (.cells #[.int .i64 0,.int .i64 0] 84)).drew).heap[w6.heap.size]?= some (.cells #[.int .i64 0,.int .i64 0] 84):=ξn w6 (.cells #[.int .i64 0,.int .i64 0] 84)
      have BB:w6.heap.size≤bb:=by rw[hbb];exact ξr _
      have BL:Below w6.heap.size w6 ((w6.alloc (.cells #[.int .i64 0,.int .i64 0] 84)).drew):=((ξb w6.heap.size w6).alloc (ξr _) _).drew
      rw[←hbb] at K15 ⊢
      have K15:=ξh K15
      have BB:=ξh BB
      clear hbb
      generalize (w6.alloc (.cells #[.int .i64 0,.int .i64 0] 84)).drew=w15 at *
      refine hKK.out _ _ (HSS.out _ BL) (fun hH=> ?_)
      clear hKK KK
      try simp only[Act.put,hlA,hlB,hlC]
      refine ξB (rs:=[3]) (by kernel_rfl) (by simp) ?_
      refine AllReadyL.cons rfl (fun KK hKK=> ?_) AllReadyL.nil
      go_simp
      go_at_call 159
      refine(HRMX.out _ (HW6.trans (BL.mono HW6.size)) (HRX.out _ (HB6.trans (BL.mono HB6.size)))).mono ?_
      rintro e w39 ⟨rfl,b39⟩
      have BL:=BL.trans (b39.mono BL.size)
      have K15:=ξh (ξA K15.out b39)
      refine hKK.out _ _ (HSS.out _ BL) (fun hH=> ?_)
      clear hKK KK
      try simp only[Act.put,hlA,hlB,hlC]
      refine ξB (rs:=[7]) (by kernel_rfl) (by simp) ?_
      refine AllReadyL.cons rfl (fun KK hKK=> ?_) AllReadyL.nil
      go_simp
      go_at_call 158
      refine(HFT.out _).mono ?_
      rintro e w43 ⟨rfl,b43⟩
      have BL:=BL.trans (b43.mono BL.size)
      have K15:=ξh (ξA K15.out b43)
      refine hKK.out _ _ (HSS.out _ BL) (fun hH=> ?_)
      clear hKK KK
      try simp only[Act.put,hlA,hlB,hlC]
      refine hlF 8 rfl hH ?_
      try simp only[Act.put,hlA,hlB,hlC]
      refine hlF 9 rfl hH ?_
      try simp only[Act.put,hlA,hlB,hlC]
      refine hlF 10 rfl hH ?_
      try simp only[Act.put,hlA,hlB,hlC]
      refine ξB (rs:=[12]) (by kernel_rfl) (by simp) ?_
      refine AllReadyL.cons rfl (fun KK hKK=> ?_) AllReadyL.nil
      have z0:=blkc K15.out (j:=0) (u:= .int .i64 0) rfl
      have z1:=blkc K15.out (j:=1) (u:= .int .i64 0) rfl
      have g0:w43.frozen? ⟨bb,0,none⟩=false:=ξz _ _ _ _ _ K15.out
      have g1:w43.frozen? ⟨bb,1,none⟩=false:=ξz _ _ _ _ _ K15.out
      go_simp
      obtain⟨q9,b9⟩:=ξav (.int .i64 f1) (.int .i64 f2) K15.out
      have BL:=b9 w6.heap.size w6 BB.out BL
      have KB:=ξh q9
      clear z0 z1 g0 g1 q9 b9 K15
      generalize (w43.setCell ⟨bb,0,none⟩ (.int .i64 f1)).setCell ⟨bb,1,none⟩ (.int .i64 f2)=w9 at *
      refine hKK.out _ _ (HSS.out _ BL) (fun hH=> ?_)
      clear hKK KK
      try simp only[Act.put,hlA,hlB,hlC]
      refine ξG 13 rfl (by kernel_rfl) (by kernel_rfl) (fun KK hKK=> ?_)
      go_simp
      refine hKK.out _ _ ?_
      clear hKK KK
      try simp only[Act.put,hlA,hlB,hlC]
      refine ξS (by kernel_rfl) ?_ _
      rotate_left 1
      all_goals
       have HBL:=ξh BL
       clear BL
       have HR9:=ξh (ξN HR.out (HB6.trans (HBL.mono HB6.size)))
       have HB9:=ξh (show Below w3.heap.size w5 w9 from HB.trans ((HB6.trans (HBL.mono HB6.size)).mono (by omega)))
       have hz9:w3.heap.size≤w9.heap.size:=by have:=HBL.size;have:=HB6.size;omega
       cases b with
       | false=>
         clear hH
         go_wp2
         go_roundw
         case rel=>exact⟨k+1,q,a12,c12,by omega,by go_num,rfl,by omega,by rw[HSK.out,HBF.out rfl];simp only[List.head?_nil,Option.map_none,Option.toList_none,List.append_nil];exact HR9.out,HB9.out⟩
         case measure=>simp[intOf];omega
       | true=>
         obtain⟨sl,tl,hst,rfl,rfl⟩:=HBT.out rfl
         have HFC:=ξh hst
         obtain⟨-,-,-,y0,y1,y2⟩:=hH
         have t0:=blkc KB.out (j:=0) (u:= .int .i64 (sl:Int)) rfl
         have t1:=blkc KB.out (j:=1) (u:= .int .i64 (x.ct:Int)) rfl
         have HB10:=ξh ((ξb w9.heap.size w9).alloc (ξr _) (.cells #[.int .i64 0,.int .i64 x.st,.slice x.a x.fb.length x.c,.int .i64 (sl:Int),.int .i64 (x.ct:Int)] 86))
         have HR10:=ξh (ξN HR9.out HB10.out)
         clear hst y2
         go_wp2_with (at_builtin;refine wpList_catG rfl (.tmp 47) (.tmp 52) 73 86 rfl Tryz.underlying73 (.agg #[.int .i64 0,.int .i64 0,.slice none 0 0,.int .i64 0,.int .i64 0]) 5 56 Tryz.infoLgtI rfl (by decide) w3.heap.size (.slice a12 q c12) q _ (by rfl) HR10.out (some ⟨w9.heap.size,0,none⟩) 1 1 [.int .i64 0,.int .i64 x.st,.slice x.a x.fb.length x.c,.int .i64 (sl:Int),.int .i64 (x.ct:Int)] (by rfl) rfl (fun e=>by cases e) (ξbf (us:=[.int .i64 0,.int .i64 x.st,.slice x.a x.fb.length x.c,.int .i64 (sl:Int),.int .i64 (x.ct:Int)])) (fun z hz=>by simp only[List.mem_cons,List.not_mem_nil,or_false] at hz;rcases hz with e | e | e | e | e <;> rw[e] <;> rfl) (by unfold maxLen;omega) (by omega) (by simp;omega) ?_;intro v10 w10 o10 g10 l10;have O10:=ξh o10;have G10:=ξh g10;obtain⟨a10,c10,rfl⟩:=rowf o10;clear o10 g10 l10)
         have HB11:=ξh (show Below w3.heap.size w5 w10 from Below.grown (HB9.trans (HB10.mono hz9)) G10.out (by simp;omega) (fun z hz=>(HR10.lt z hz).1))
         have HR11:=ξh (show w10.ownsRow w3.heap.size 86 5 (.slice a10 (q+1) c10) (q+1) ((canC p.ls (C.take (k+1))).flatMap encF) from by
          rw[HSK.out,HFC.out,List.flatMap_append]
          exact O10.out)
         clear y0 y1 t0 t1
         go_roundw
         case rel=>exact⟨k+1,q+1,a10,c10,by omega,by go_num,rfl,by omega,HR11.out,HB11.out⟩
         case measure=>simp[intOf];omega
    · have hltI:¬(k:Int)<(m:Int):=by omega
      obtain rfl:m=k:=by omega
      have HCE:=ξh (con_end (fs:=fs) (d:=d) (C:=C) (p:=p) (w':=wr) (a:=a12) (m:=q) (c:=c12) (by rw[←HTA.out];exact HR.out) HHD.out fun x hx=>by
       obtain⟨k1,k2,k3⟩:=HRD.out x hx
       exact⟨k1,k2.below HB.out k3⟩)
      have HBW:=ξh (show Below w.heap.size w wr from HB5.trans (HB.mono (by have:=HW3.out;omega)))
      go_wp2
      rw[HNP.out]
      exact⟨HBW.out,.inr ⟨HFU.out,a12,q,c12,by omega,rfl,HCE.out⟩⟩
end Go.Proofs.YtofcicomhnkocaaGreat
