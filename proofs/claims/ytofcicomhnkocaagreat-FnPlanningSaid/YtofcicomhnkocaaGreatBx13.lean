import Derived.Test.YtofcicomhnkocaaGreatBx12
set_option linter.unusedVariables false
namespace Go.Proofs.YtofcicomhnkocaaGreat
set_option maxHeartbeats 6400000
open Go.RowKit Go.Sort Go.Shelf
set_option maxRecDepth 100000
structure RtEl (w:World) (blk:Nat) (n:Net) where
 fb:List Int
 a:Option Addr
 c:Nat
 rd:Rd w (.slice a fb.length c) fb
 apt:∀g,(Value.slice a fb.length c).ownBlock=some g→g≠blk
 len:fb.length≤1000
 inn:ξa7 n fb
instance (w:World) (blk:Nat) (n:Net):Inhabited (RtEl w blk n):=⟨⟨[],none,0,.inl ⟨rfl,rfl⟩,(fun g h=>by cases h),by simp,(fun k hk=>by simp at hk)⟩⟩
def encR (fr:Int) {w:World} {blk:Nat} {n:Net} (x:RtEl w blk n):List Value:=[.int .i64 fr,.slice x.a x.fb.length x.c]
theorem encR_len (fr:Int) {w:World} {blk:Nat} {n:Net} (x:RtEl w blk n):(encR fr x).length=2:=rfl
theorem encR_one (fr:Int) {w:World} {blk:Nat} {n:Net} (x:RtEl w blk n):∀v∈encR fr x,v.oneCell'=true:=fun v hv=>by
 simp[encR] at hv
 rcases hv with rfl | rfl <;> rfl
def cfR (n:Net) {w:World} {blk:Nat} (x y:RtEl w blk n):Int:=cmpR n x.fb y.fb
theorem cfR_swo (n:Net) (w:World) (blk:Nat):SWO (ltOf (cfR n (w:=w) (blk:=blk))):=by
 refine⟨fun x=> ?_,fun x y z h1 h2=> ?_,fun x y z h1 h2=> ?_⟩
 · unfold ltOf cfR;rw[cmpR_self];rfl
 · unfold ltOf cfR at *
   rw[decide_eq_true_eq] at *
   exact ξc0 h1 h2
 · unfold ltOf cfR at *
   rw[decide_eq_false_iff_not] at *
   by_cases e1:x.fb=y.fb
   · rw[e1];exact h2
   · by_cases e2:y.fb=z.fb
     · rw[←e2];exact h1
     · have h3:=cmpR_tot h1 e1
       have h4:=cmpR_tot h2 e2
       exact cmpR_asym (ξc0 h4 h3)
theorem rt_els {w:World} {blk:Nat} {n:Net} (fr:Int):∀{ps:List (List Int × Value)},(∀p∈ps,Rd w p.2 p.1∧(∀g,p.2.ownBlock=some g→g≠blk)∧p.1.length≤1000∧ξa7 n p.1)→ ∃L:List (RtEl w blk n),rcs fr ps=L.flatMap (encR fr)∧ps.map Prod.fst=L.map (·.fb)∧L.length=ps.length
 | [],_=>⟨[],rfl,rfl,rfl⟩
 | p::ps,h=>by
   obtain⟨L,h1,h2,h3⟩:=rt_els fr (ps:=ps) (fun q hq=>h q (List.mem_cons_of_mem _ hq))
   obtain⟨r1,r2,r3,r4⟩:=h p (by simp)
   obtain⟨fb,v⟩:=p
   obtain⟨a,c,n',HN,e,-⟩:=r1.opn
   have hn:n'=fb.length:=HN.symm
   subst hn
   dsimp only at *
   subst e
   refine⟨⟨fb,a,c,r1,r2,r3,r4⟩::L,?_,by simp[h2],by simp[h3]⟩
   unfold rcs at h1 ⊢
   rw[List.flatMap_cons,List.flatMap_cons,h1];rfl
def ξaQ {w:World} {blk:Nat} {n:Net} (L:List (RtEl w blk n)):List (List Int × Value):=L.map fun x=>(x.fb,.slice x.a x.fb.length x.c)
theorem els_rcs {w:World} {blk:Nat} {n:Net} (fr:Int) (L:List (RtEl w blk n)):rcs fr (ξaQ L)=L.flatMap (encR fr):=by
 unfold rcs ξaQ
 rw[List.flatMap_map];rfl
theorem box6_facts (w:World) (A B C D E F:Obj):Below w.heap.size w ((((((w.alloc A).alloc B).alloc C).alloc D).alloc E).alloc F)∧((((((w.alloc A).alloc B).alloc C).alloc D).alloc E).alloc F).heap[w.heap.size]?= some A∧((((((w.alloc A).alloc B).alloc C).alloc D).alloc E).alloc F).heap[w.heap.size+1]?= some B∧((((((w.alloc A).alloc B).alloc C).alloc D).alloc E).alloc F).heap[w.heap.size+1+1]?= some C∧((((((w.alloc A).alloc B).alloc C).alloc D).alloc E).alloc F).heap[w.heap.size+1+1+1]?= some D∧((((((w.alloc A).alloc B).alloc C).alloc D).alloc E).alloc F).heap[w.heap.size+1+1+1+1]?= some E∧((((((w.alloc A).alloc B).alloc C).alloc D).alloc E).alloc F).heap[w.heap.size+1+1+1+1+1]?= some F∧((((((w.alloc A).alloc B).alloc C).alloc D).alloc E).alloc F).heap.size=w.heap.size+1+1+1+1+1+1:=by
 obtain⟨b3,g0,g1,g2,hz⟩:=ξal w A B C
 obtain⟨b6,g3,g4,g5,hz6⟩:=ξal (((w.alloc A).alloc B).alloc C) D E F
 rw[hz] at g3 g4 g5 hz6
 exact⟨b3.trans (b6.mono b3.size),ξA g0 b6,ξA g1 b6,ξA g2 b6,g3,g4,g5,hz6⟩
def RtsP (n:Net) (fr tn:Int) (w:World) (e:Ending) (w':World):Prop:=∃v ps,e= .returned v∧w'.ownsRow w.heap.size 82 2 v ps.length (rcs fr ps)∧v.ownBlock≠none∧(∀p∈ps,Rd w' p.2 p.1)∧(ps.map Prod.fst).Perm (extR n tn (n.ns.length+1) fr [fr] [])∧(ps.map Prod.fst).Pairwise (fun a b=>¬cmpR n b a<0)∧Below w.heap.size w w'
theorem extR_inn {n:Net} {tn fr:Int} {f:Nat} {r:List Int} (h:r∈extR n tn f fr [fr] []):ξa7 n r:=by
 have key:∀(f:Nat) (t:Int) (seen fb:List Int),(∀x∈fb,0≤x∧x<n.fs.length)→ ∀r∈extR n tn f t seen fb,∀x∈r,0≤x∧x<n.fs.length:=by
  intro f
  induction f with
  | zero=>intro t seen fb _ r hr;simp[extR] at hr
  | succ f ih=>
    intro t seen fb hfb r hr
    rw[extR] at hr
    split at hr
    · rw[List.mem_singleton] at hr;subst hr;exact hfb
    · obtain⟨i,hi,hm⟩:=List.mem_flatMap.1 hr
      have hi:=List.mem_range.1 hi
      split at hm
      · refine ih _ _ _ (fun x hx=> ?_) r hm
        rcases List.mem_append.1 hx with hx | hx
        · exact hfb x hx
        · rw[List.mem_singleton.1 hx];omega
      · cases hm
 intro k hk
 rw[ξg hk]
 exact key f fr [fr] [] (fun x hx=>by cases hx) r h _ (ξj hk)
theorem extR_len9 {n:Net} {tn:Int} :∀(f:Nat) (t:Int) (seen fb:List Int),∀r∈extR n tn f t seen fb,r.length≤fb.length+f
 | 0,t,seen,fb,r,h=>by simp[extR] at h
 | f+1,t,seen,fb,r,h=>by
   rw[extR] at h
   split at h
   · rw[List.mem_singleton] at h;subst h;omega
   · obtain⟨i,hi,hm⟩:=List.mem_flatMap.1 h
     split at hm
     · have:=extR_len9 f _ _ _ r hm
       rw[ξk] at this
       simp at this;omega
     · cases hm
theorem sortFound_any {wA w9:World} {q0 q1 q2 q3 q4:Nat} {fr tn:Int} {u1 u2 v:Value} {n:Net} {ps:List (List Int × Value)} (hA:ExtA wA wA.heap.size q0 q1 q2 q3 q4 fr tn u1 u2 n) (hL:LenOk n) (hE:RbE w9 q0 q1 q2 q3 q4 fr tn u1 u2) (hS:RbS w9 wA.heap.size q0 q1 q2 q3 q4 fr v ps) (hB:Below wA.heap.size wA w9)
 (hp:ps.map Prod.fst=extR n tn (n.ns.length+1) fr [fr] []):
 Calls Tryz.prog 240 #[v,.func (.func 241) #[] #[ptr q3]] w9 fun e w'=>e= .returned (.tuple #[])∧RtsP n fr tn wA (.returned v) w'∧w9.grownBy w' v.ownBlock:=by
 have hnl:=hA.nl
 have hlen:ps.length≤1000000000000:=by
  have h1:=congrArg List.length hp
  rw[List.length_map] at h1
  have h2:=extR_bd hA.fl (tn:=tn) (n.ns.length+1) fr [fr] []
  have h3:14 ^ (n.ns.length+1)≤14 ^ 9:=Nat.pow_le_pow_right (by omega) (by omega)
  have h4:(14:Nat) ^ 9≤1000000000000:=by decide
  omega
 obtain⟨g,cap,rfl⟩:∃g cap,v= .slice (some ⟨g,0,none⟩) ps.length cap:=by
  rcases hS.row.2 with ⟨e,_⟩ | ⟨g,cap,cur,e,_⟩
  · exact absurd (by rw[e];rfl) hS.some_
  · exact⟨g,cap,e⟩
 have hvq:=hS.vq g rfl
 have hg9:=hS.row.lt g rfl
 obtain⟨L,e1,e2,e3⟩:=rt_els (w:=w9) (blk:=g) (n:=n) fr (ps:=ps) (fun p hpm=>by
  obtain⟨k1,k2⟩:=hS.els p hpm
  have hm:p.1∈extR n tn (n.ns.length+1) fr [fr] []:=by rw[←hp];exact List.mem_map_of_mem hpm
  have hl:=extR_len9 _ _ _ _ _ hm
  simp at hl
  exact⟨k1,fun q hq e=>k2 q hq (.inr (by rw[e];rfl)),by omega,extR_inn hm⟩)
 have hrow:w9.ownsRow wA.heap.size 82 2 (.slice (some ⟨g,0,none⟩) ps.length cap) ps.length (L.toArray.toList.flatMap (encR fr)):=by
  show w9.ownsRow _ _ _ _ _ (L.flatMap (encR fr))
  rw[←e1];exact hS.row
 obtain⟨hn,hH,hlt,-⟩:=ξc3 (encR_len fr) (by omega) hrow
 have hcmp:CmpLays Tryz.prog 241 #[ptr q3] (encR fr (w:=w9) (blk:=g) (n:=n)) 2 (cfR n) g 0 L.toArray.size w9:=fun m os d' hd' x y=>by
  have hgr:=(row_sortK (encR_len fr) (by omega) hrow d' hd' m os).2
  have hcell:∀p:Addr,p.block<w9.heap.size→p.block≠g→(sortWorldK (encR fr) 2 w9 g 0 m d' os).cell? p=w9.cell? p:=fun p h1 h2=>World.cell?_of_block (hgr.block p.block h1 (fun e=>h2 (ξo e)))
  have hrd:∀z:RtEl w9 g n,Rd (sortWorldK (encR fr) 2 w9 g 0 m d' os) (.slice z.a z.fb.length z.c) z.fb:=fun z=>by
   rcases z.rd with h | ⟨b,off,c',hv,h1,h2,h3,h4⟩
   · exact .inl h
   · have hb:b≠g:=z.apt b (by rw[hv];rfl)
     exact .inr ⟨b,off,c',hv,h1,h2,ξq h3 hgr.size,fun j hj=>by rw[hcell _ h3 hb];exact h4 j hj⟩
  have hbw:Below wA.heap.size wA (sortWorldK (encR fr) 2 w9 g 0 m d' os):=
   ⟨hgr.os.trans hB.os,hgr.tape.trans hB.tape,hgr.output.trans hB.output,ξs hB.size hgr.size,fun k hk=>by rw[hgr.block k (ξq hk hB.size) (fun e=>by have e:=ξo e;have:=hg9.1;omega),hB.block k hk]⟩
  exact sortRoutes_any u1 u2 _ _ n fr x.fb y.fb q3 _ ((hcell _ (ξd _ _ hE.c3) (fun e=>hvq.2.2.2.1 e.symm)).trans hE.c3) ((hcell _ (ξd _ _ hE.c5) (fun e=>hvq.2.2.2.1 e.symm)).trans hE.c5) (hA.net.behind hbw) hA.u1s (hrd x) (hrd y) x.len y.len x.inn y.inn hL
 have hn2:L.toArray.size=ps.length:=hn
 refine((AnyQ.slices_SortFunc Tryz.sortRoute 2 Tryz.isAgg82 Tryz.sizeOf82 (encR fr) (encR_len fr) (encR_one fr) (cfR n) (cfR_swo n w9 g) 241 #[ptr q3] g 0 cap L.toArray w9 (enters_of Tryz.func241 (by kernel_rfl) rfl) hcmp hH hlt (by omega)):Calls Tryz.prog _ #[.slice (some ⟨g,0,none⟩) L.toArray.size cap,_] w9 _) |> fun hh=> ?_
 rw[hn2] at hh
 refine hh.mono ?_
 rintro e w' ⟨rfl,d',m,os,hpe,hso,rfl⟩
 have hds:d'.size=L.toArray.size:=hpe.1
 obtain⟨r1,r2⟩:=row_sortK (encR_len fr) (by omega) hrow d' hds m os
 have hper:d'.toList.Perm L:=by
  have:=hpe.2.2
  rw[←hn2] at this
  have h2:(List.take L.length d'.toList).Perm L:=by simpa[hds] using this
  rwa [List.take_of_length_le (by have:=hds;simp at this ⊢;omega)] at h2
 have hsrt:d'.toList.Pairwise (fun a b=>¬cmpR n b.fb a.fb<0):=by
  rw[List.pairwise_iff_getElem]
  intro i j hi hj hij
  have h1:i<d'.size:=by simpa using hi
  have h2:j<d'.size:=by simpa using hj
  have:=hso i j (ξu _) hij (by omega)
  rw[getElem!_pos d' j h2,getElem!_pos d' i h1] at this
  unfold ltOf cfR at this
  rw[decide_eq_false_iff_not] at this
  simpa using this
 have hel:(ξaQ d'.toList).length=ps.length:=by unfold ξaQ;rw[List.length_map];simp;omega
 have hmf:(ξaQ d'.toList).map Prod.fst=d'.toList.map (·.fb):=by unfold ξaQ;rw[List.map_map];rfl
 refine⟨rfl,⟨_,ξaQ d'.toList,rfl,by rw[hel,els_rcs];exact r1,by simp[Value.ownBlock],fun p hpm=> ?_,?_,?_,?_⟩,r2⟩
 · obtain⟨z,-,rfl⟩:=List.mem_map.1 hpm
   rcases z.rd with h | ⟨b,off,c',hv,h1,h2,h3,h4⟩
   · exact .inl h
   · have hb:b≠g:=z.apt b (by rw[hv];rfl)
     exact .inr ⟨b,off,c',hv,h1,h2,ξq h3 r2.size,fun j hj=>by rw[World.cell?_of_block (r2.block b h3 (fun e=>hb (ξo e)))];exact h4 j hj⟩
 · rw[hmf,←hp,e2];exact hper.map _
 · rw[hmf,List.pairwise_map];exact hsrt
 · exact⟨r2.os.trans hB.os,r2.tape.trans hB.tape,r2.output.trans hB.output,ξs hB.size r2.size,fun k hk=>by rw[r2.block k (ξq hk hB.size) (fun e=>by have e:=ξo e;have:=hg9.1;omega),hB.block k hk]⟩
theorem found_start {w W:World} {u1 u2:Value} {n:Net} {fr tn:Int} (hnet:Rdt w (flt 4 fibE n.fs) u2) (h1:∃a m c,u1= .slice a m c) (hb:Below w.heap.size w W) (g0:W.heap[w.heap.size]?= some (.cells #[u1,u2] 35 (0,0))) (g1:W.heap[w.heap.size+1]?= some (.cells #[.int .i64 fr] 3 (0,0))) (g2:W.heap[w.heap.size+1+1]?= some (.cells #[.int .i64 tn] 3 (0,0))) (g3:W.heap[w.heap.size+1+1+1]?= some (.cells #[] 82 (0,0)))
 (g4:W.heap[w.heap.size+1+1+1+1]?= some (.cells #[.slice (some ⟨w.heap.size+1+1+1,0,none⟩) 0 0] 176 (0,0))) (g5:W.heap[w.heap.size+1+1+1+1+1]?= some (.cells #[.func (.func 238) #[] #[ptr (w.heap.size+1+1),ptr (w.heap.size+1+1+1+1),ptr (w.heap.size+1),ptr w.heap.size,ptr (w.heap.size+1+1+1+1+1)]] 252 (0,0)))
 (hn:ξL n=true) (hf:inB fr 0 ((n.ns.length:Int)-1)=true) (hne:fr≠tn):
 ExtA w w.heap.size (w.heap.size+1+1) (w.heap.size+1+1+1+1) (w.heap.size+1) w.heap.size (w.heap.size+1+1+1+1+1) fr tn u1 u2 n∧
 ∀W',Below W.heap.size W W'→ExtP w W' w.heap.size (w.heap.size+1+1) (w.heap.size+1+1+1+1) (w.heap.size+1) w.heap.size (w.heap.size+1+1+1+1+1) fr tn u1 u2 n (n.ns.length+1) fr [fr] (2 ^ fr.toNat) (.slice none 0 0) [] (.slice (some ⟨w.heap.size+1+1+1,0,none⟩) 0 0) []:=by
 obtain⟨hn2,hn8,hf14,-,hfb⟩:=ξM hn
 have hfr:=ξO hf
 have hz:w.heap.size+1+1+1+1+1<W.heap.size:=(ξa g5).1
 refine⟨⟨hnet,h1,hf14,hn8,fun i hi=> ?_,by omega,by omega⟩,fun W' hW=> ?_⟩
 · have:=hfb i hi
   unfold fbOk at this
   simp only[Bool.and_eq_true] at this
   have:=ξaM this.1
   omega
 · obtain⟨c,hc⟩:=Int.eq_ofNat_of_zero_le hfr.1
   have hbk:∀{b:Nat} {o:Obj},W.heap[b]?= some o→W'.heap[b]?= some o:=fun h=>ξA h hW
   refine⟨⟨blkc (hbk g2) rfl,blkc (hbk g1) rfl,blkc (hbk g0) rfl,blkc (hbk g0) rfl,blkc (hbk g5) rfl⟩,⟨hbk g4,⟨by simp[rcs],.inr ⟨_,0,#[],rfl,by omega,hbk g3,ξr _,ξu _,by simp,by simp[rcs]⟩⟩,(fun p hp=>by cases hp),(fun g hg=>by
    have:w.heap.size+1+1+1=g:=by simpa[Value.ownBlock] using hg
    omega),by simp[Value.ownBlock]⟩,hb.trans (hW.mono hb.size),(.inl ⟨rfl,rfl⟩),ξs hb.size hW.size,(fun g hg=>by cases hg),by simp,by simp,by simp,(fun s hs=>by rw[List.mem_singleton.1 hs];omega),⟨?_,fun j hj=> ?_⟩,by omega,fun e=>absurd e hne,?_⟩
   · rw[hc]
     show 2 ^ c<256
     have:2 ^ c<2 ^ 8:=Nat.pow_lt_pow_right (by omega) (by omega)
     simpa using this
   · rw[hc]
     show(2 ^ c).testBit j=true↔(j:Int)∈[(c:Int)]
     rw[Nat.testBit_two_pow,decide_eq_true_eq,List.mem_singleton];omega
   · have h2:=extR_bd hf14 (tn:=tn) (n.ns.length+1) fr [fr] []
     have h3:14 ^ (n.ns.length+1)≤14 ^ 9:=Nat.pow_le_pow_right (by omega) (by omega)
     have h4:(14:Nat) ^ 9≤1000000000000:=by decide
     simp;omega
theorem lenOk_of {n:Net} (h:ξL n=true):LenOk n:=fun j=>by
 obtain⟨-,-,-,-,hfb⟩:=ξM h
 by_cases hj:j<n.fs.length
 · have:=hfb j hj
   unfold fbOk at this
   simp only[Bool.and_eq_true] at this
   have:=ξaM this.1
   omega
 · unfold fbA
   rw[List.getElem?_eq_none (by omega)]
   show(0:Int)≤0∧(0:Int)≤100000
   omega
theorem ξcp (u1 u2:Value) (n:Net) (fr tn:Int) (w:World) (hnet:Rdt w (flt 4 fibE n.fs) u2) (h1:∃a m c,u1= .slice a m c) (hn:ξL n=true) (hf:inB fr 0 ((n.ns.length:Int)-1)=true) (hne:fr≠tn):
 Calls Tryz.prog 220 #[.agg #[u1,u2],.int .i64 fr,.int .i64 tn] w (RtsP n fr tn w):=by
 obtain⟨NP,hNP⟩:∃NP,NP=RtsP n fr tn w:=⟨_,rfl⟩
 rw[←hNP]
 have HFS:=ξh (fun(W:World)=>found_start (W:=W) (tn:=tn) hnet h1 (hf:=hf) (hn:=hn) (hne:=hne))
 have HLN:=ξh (lenOk_of hn)
 have hb:(fr != tn)=true:=by simpa using hne
 have hc8:0≤fr∧fr≤7:=by
  obtain⟨-,h8,-⟩:=ξM hn
  have:=ξO hf
  omega
 obtain⟨c,rfl⟩:=Int.eq_ofNat_of_zero_le hc8.1
 have hcl:c<8:=by omega
 obtain⟨a1,m1,c1,rfl⟩:=h1
 obtain⟨a2,m2,c2,rfl,-,-,-,-⟩:=ξC (m:=4) (enc:=fibE) (fun _=>rfl) (by omega) nilB hnet
 have HSH2:=ξh (show IntKind.i64.wrap ((2:Int) ^ c)=((2 ^ (c:Int).toNat:Nat):Int) from by
  have hp:2 ^ c<2 ^ 8:=Nat.pow_lt_pow_right (by omega) hcl
  have key:∀P:Nat,P<2 ^ 8→IntKind.i64.wrap (P:Int)=P:=fun P h=>ξi _ (by omega)
  rw[show((2:Int) ^ c)=((2 ^ c:Nat):Int) by simp,key _ hp];rfl)
 have HB6:=ξh (box6_facts w (.cells #[.slice a1 m1 c1,.slice a2 m2 c2] 35) (.cells #[.int .i64 c] 3) (.cells #[.int .i64 tn] 3) (.cells #[] 82) (.cells #[.slice (some ⟨w.heap.size+1+1+1,0,none⟩) 0 0] 176) (.cells #[.func (.func 238) #[] #[ptr (w.heap.size+1+1),ptr (w.heap.size+1+1+1+1),ptr (w.heap.size+1),ptr w.heap.size,ptr (w.heap.size+1+1+1+1+1)]] 252))
 have HNP:=ξh hNP
 clear hnet hn hf hne hNP hc8
 go_enter Tryz.func220,Tryz.ntmps220
 go_upto_region 5 with fail
 generalize hW6:((((((w.alloc (.cells #[.slice a1 m1 c1,.slice a2 m2 c2] 35)).alloc (.cells #[.int .i64 c] 3)).alloc (.cells #[.int .i64 tn] 3)).alloc (.cells #[] 82)).alloc (.cells #[.slice (some ⟨w.heap.size+1+1+1,0,none⟩) 0 0] 176)).alloc (.cells #[.func (.func 238) #[] #[ptr (w.heap.size+1+1),ptr (w.heap.size+1+1+1+1),ptr (w.heap.size+1),ptr w.heap.size,ptr (w.heap.size+1+1+1+1+1)]] 252))=W6 at *
 obtain⟨b6,g0,g1,g2,g3,g4,g5,hz6⟩:=HB6.out
 obtain⟨hA,hP⟩:=HFS.out W6 b6 g0 g1 g2 g3 g4 g5
 have HA:=ξh hA
 have HP:=ξh hP
 have HBB:=ξh b6
 have HG4:=ξh g4
 have hl1:w.heap.size+1<W6.heap.size:=by omega
 have hl5:w.heap.size+1+1+1+1+1<W6.heap.size:=by omega
 have HSS:=ξh (fun(w':World) (hb:Below W6.heap.size W6 w')=>show w'.cell? ⟨w.heap.size+1+1+1+1+1,0,none⟩=some (.func (.func 238) #[] #[ptr (w.heap.size+1+1),ptr (w.heap.size+1+1+1+1),ptr (w.heap.size+1),ptr w.heap.size,ptr (w.heap.size+1+1+1+1+1)])∧w'.cell? ⟨w.heap.size+1,0,none⟩=some (.int .i64 (c:Int)) from
  ⟨(hb.cell (p:=⟨_,0,none⟩) hl5).trans (blkc g5 rfl),(hb.cell (p:=⟨_,0,none⟩) hl1).trans (blkc g1 rfl)⟩)
 clear hA hP b6 g0 g1 g2 g3 g4 g5 hl1 hl5 hW6 HFS
 refine ξH [0,1,2,3,4] (S:=fun w'=>w'.cell? ⟨w.heap.size+1+1+1+1+1,0,none⟩=some (.func (.func 238) #[] #[ptr (w.heap.size+1+1),ptr (w.heap.size+1+1+1+1),ptr (w.heap.size+1),ptr w.heap.size,ptr (w.heap.size+1+1+1+1+1)])∧w'.cell? ⟨w.heap.size+1,0,none⟩=some (.int .i64 (c:Int))) (by kernel_rfl) (HSS.out _ (ξb _ _).drew) (fun hH=> ?_)
 refine hlF 0 rfl hH ?_
 try simp only[Act.put,hlA,hlB,hlC]
 refine hlF 1 rfl hH ?_
 try simp only[Act.put,hlA,hlB,hlC]
 refine hlF 2 rfl hH ?_
 try simp only[Act.put,hlA,hlB,hlC]
 refine hlF 3 rfl hH ?_
 try simp only[Act.put,hlA,hlB,hlC]
 refine ξG 4 rfl (by kernel_rfl) (by kernel_rfl) (fun KK hKK=> ?_)
 go_simp
 rw[HSH2.out]
 refine(ext_any HA.out _ _ _ _ _ _ _ _ _ (HP.out _ (ξb _ _).drew)).mono ?_
 rintro e w9 ⟨rfl,v9,ps9,s9,m9,mv9⟩
 refine hKK.out _ _ ?_
 clear hKK KK
 try simp only[Act.put,hlA,hlB,hlC]
 refine ξS (by kernel_rfl) ?_ _
 rotate_left 1
 have hb9:Below w.heap.size w w9:=mv9.below (HBB.drew) (by have:=HBB.size;simpa using this) (fun g hg=>by
  rcases hg with rfl | hg
  · omega
  · have:w.heap.size+1+1+1=g:=by simpa[Value.ownBlock] using hg
    omega)
 obtain⟨a9,c9,rfl⟩:=rowf s9.row
 have hE9:=(HP.out _ (ξb _ _).drew).env.mv mv9 (HP.out _ (ξb _ _).drew).sta.vq HA.ne
 have HSF:=ξh (sortFound_any HA.out HLN.out hE9 s9 hb9 m9)
 have HVQ:=ξh s9.vq
 have HBX:=ξh s9.box
 have y9:=blkc s9.box (j:=0) (u:= .slice a9 ps9.length c9) rfl
 clear s9 m9 mv9 hb9 hE9
 go_wp2_with (go_at_call 240;refine HSF.mono ?_;rintro e w10 ⟨rfl,h10,g10⟩;have H10:=ξh h10;have y10:=blkc ((g10.block _ (ξa HBX.out).1 (fun e=>(HVQ.out _ e.symm).2.1 rfl)).trans HBX.out) (j:=0) (u:= .slice a9 ps9.length c9) rfl;clear h10 g10)
 rw[HNP.out]
 exact H10.out
open Go.RowKit Go.Sort
def nilD:Dem:=⟨0,0,0,0⟩
def demE (d:Dem):List Value:=[.int .i64 d.a,.int .i64 d.b,.int .i64 d.r,.int .i64 d.c]
theorem ξcB (v:Value) (zs:List Dem) (F:FuncId) (b0:Nat) (p:Dem→Bool) (w:World) (h:Rdt w (flt 4 demE zs) v) (hF:IsFn F)
 (hp:∀(i:Nat) (w':World),i<zs.length→Below w.heap.size w w'→ ∀z,z=zs[i]?.getD nilD→Calls Tryz.prog F #[demV z,ptr b0] w' fun e w2=>e= .returned (.bool (p z))∧Below w'.heap.size w' w2):
 Calls Tryz.prog 235 #[v,.func (.func F) #[] #[ptr b0]] w fun e w'=>e= .returned (.int .i64 (idxG zs p))∧Below w.heap.size w w':=by
 obtain⟨a,n,cap,rfl,HN,_,hla,ha⟩:=ξC (m:=4) (enc:=demE) (fun _=>rfl) (by omega) nilD h
 rw[HN.out] at hp
 have HP:=ξh hp
 have HA:=ξh ha
 clear hp ha h
 have hF:=show∀(args:Array Value) (w:World),(callFunc F args).run Tryz.prog w= .ok (.enter F args) w from hF
 have HI:=ξh (fun k hk h e=>ξbe (zs:=zs) (p:=p) (nil:=nilD) (k:=k) hk h e)
 have HO:=ξh (ξaU (zs:=zs) (p:=p))
 have HM:=ξh (fun k hk h e=>ξaT (zs:=zs) (p:=p) (nil:=nilD) (k:=k) hk h e)
 generalize idxG zs p=r at *
 go_enter Tryz.func235,Tryz.ntmps235
 go_wp2
 go_loopw [5,8] (fun _ i wr=>∃k:Nat,k≤n∧i= .int .i64 k∧Hid ((zs.take k).any p=false)∧Hid (Below w.heap.size w wr)) (fun _ i _=>n-(intOf i).toNat)
 case atStart=>exact⟨0,by omega,rfl,by simp[Hid],ξb _ _⟩
 case round=>
  obtain⟨k,hk,rfl,HT,HB⟩:=hrel
  by_cases hlt:k<n
  · have hltI:(k:Int)<(n:Int):=by omega
    have hkx:k<zs.length:=by rw[HN.out];exact hlt
    obtain⟨b,off,rfl,hbs,hcs⟩:=HA.out (by omega)
    have hcell0:=hcs k hlt 0 _ rfl
    have hcell1:=hcs k hlt 1 _ rfl
    have hcell2:=hcs k hlt 2 _ rfl
    have hcell3:=hcs k hlt 3 _ rfl
    have hw0:=(HB.cell (p:=⟨b,off+k*4+0,none⟩) hbs).trans hcell0
    have hw1:=(HB.cell (p:=⟨b,off+k*4+1,none⟩) hbs).trans hcell1
    have hw2:=(HB.cell (p:=⟨b,off+k*4+2,none⟩) hbs).trans hcell2
    have hw3:=(HB.cell (p:=⟨b,off+k*4+3,none⟩) hbs).trans hcell3
    simp only[Nat.add_zero] at hw0
    have HPK:=ξh (HP.out k wr hlt HB.out _ rfl)
    have HIK:=ξh (HI.out k hkx HT.out)
    have HMK:=ξh (HM.out k hkx HT.out)
    clear hcs hkx hcell0 hcell1 hcell2 hcell3
    generalize zs[k]?.getD nilD=z at *
    unfold demV at HPK
    generalize p z=pz at *
    have hz:=HB.size
    cases pz
    · have HE:=ξh (HMK.out rfl)
      go_wp2_with fail
      refine HPK.mono ?_
      rintro e w2 ⟨rfl,b2⟩
      have HB2:=ξh (HB.trans (b2.mono hz))
      clear b2
      go_wp2
      go_roundw
      case rel=>exact⟨k+1,by omega,by go_num,HE.out,HB2.out⟩
      case measure=>simp[intOf];omega
    · have HE:=ξh (HIK.out rfl)
      go_wp2_with fail
      refine HPK.mono ?_
      rintro e w2 ⟨rfl,b2⟩
      have HB2:=ξh (HB.trans (b2.mono hz))
      clear b2
      go_wp2
      go_ret
      exact⟨by rw[HE.out];rfl,HB2.out⟩
  · obtain rfl:n=k:=by omega
    have hall:=HT.out
    rw[←HN.out,List.take_length] at hall
    have HE:=ξh (HO.out hall)
    clear hall
    go_wp2
    go_ret
    exact⟨by rw[HE.out];rfl,HB.out⟩
theorem ξce (v:Value) (zs:List Dem) (F:FuncId) (b0:Nat) (p:Dem→Bool) (w:World) (h:Rdt w (flt 4 demE zs) v) (hF:IsFn F)
 (hp:∀(i:Nat) (w':World),i<zs.length→Below w.heap.size w w'→ ∀z,z=zs[i]?.getD nilD→Calls Tryz.prog F #[demV z,ptr b0] w' fun e w2=>e= .returned (.bool (p z))∧Below w'.heap.size w' w2):
 Calls Tryz.prog 217 #[v,.func (.func F) #[] #[ptr b0]] w fun e w'=>e= .returned (.bool (zs.any p))∧Below w.heap.size w w':=by
 have HI:=ξh (ξcB v zs F b0 p w h hF hp)
 have HG:=ξh (idxG_geq zs p)
 generalize idxG zs p=r at *
 generalize zs.any p=s at *
 obtain⟨a,n,cap,rfl,-⟩:=ξC (m:=4) (enc:=demE) (fun _=>rfl) (by omega) nilD h
 clear h hp hF
 go_enter Tryz.func217,Tryz.ntmps217
 go_wp2_with fail
 refine HI.mono ?_
 rintro e w2 ⟨rfl,b2⟩
 have HB:=ξh b2
 clear b2
 go_wp2
 go_ret
 exact⟨by rw[←HG.out];rfl,HB.out⟩
theorem demandBad_any (d:Dem) (bn:Nat) (a1 a2:Option Addr) (m c1 n2 c2:Nat) (w:World) (hm:m≤1000) (h0:w.cell? ⟨bn,0,none⟩=some (.slice a1 m c1)) (h1:w.cell? ⟨bn,1,none⟩=some (.slice a2 n2 c2)):
 Calls Tryz.prog 218 #[demV d,ptr bn] w fun e w'=>e= .returned (.bool (!demOk d m))∧Below w.heap.size w w':=by
 have HD:=ξh (fun w=>ξci a1 a2 m c1 n2 c2 d w hm)
 obtain⟨a,b,r,c⟩:=d
 generalize demOk ⟨a,b,r,c⟩ m=q at *
 obtain⟨bx,bc,-,-⟩:=ξD w #[.int .i64 a,.int .i64 b,.int .i64 r,.int .i64 c] 53
 have e0:=(bx.cell (p:=⟨bn,0,none⟩) (ξd _ _ h0)).trans h0
 have e1:=(bx.cell (p:=⟨bn,1,none⟩) (ξd _ _ h1)).trans h1
 have HB:=ξh bx
 unfold demV
 unfold demV at HD
 clear bx bc h0 h1
 go_enter Tryz.func218,Tryz.ntmps218
 go_wp2_with (go_at_call 81;refine(HD.out _).mono ?_;rintro e w' ⟨rfl,b2⟩;have HB2:=ξh (HB.trans (b2.mono HB.size));clear b2)
 go_ret
 exact⟨rfl,HB2.out⟩
theorem ξcH (v u:Value) (n:Net) (d:Dem) (w:World) (h:NetR w v n) (hn:ξL n=true) (hd:demOk d n.ns.length=true) (hg:Rdt w (flt 4 demE [d]) u):
 Calls Tryz.prog 188 #[v,u] w fun e w'=>e= .returned (.bool true)∧Below w.heap.size w w':=by
 have HVN:=ξh (fun w' (hb:Below w.heap.size w w')=>ξas v n w' (h.behind hb))
 rw[hn] at HVN
 have hm8:=ξaE hn
 obtain⟨u1,u2,rfl,r1,r2,hsm⟩:=h
 obtain⟨a1,m1,c1,rfl,HN1,hc1,hm1,-⟩:=ξC (m:=1) (enc:=strE) (fun _=>rfl) (by omega) nilS r1
 obtain⟨a2,m2,c2,rfl,HN2,hc2,hm2,-⟩:=ξC (m:=4) (enc:=fibE) (fun _=>rfl) (by omega) nilB r2
 obtain⟨a3,m3,c3,rfl,HN3,hc3,hm3,-⟩:=ξC (m:=4) (enc:=demE) (fun _=>rfl) (by omega) nilD hg
 have h31:m3=1:=by rw[←HN3.out];rfl
 subst h31
 rw[HN1.out] at hm8 hd
 obtain⟨bx,bc,blt,-⟩:=ξD w #[.slice a1 m1 c1,.slice a2 m2 c2] 35
 have q0:=bc 0 _ rfl
 have q1:=bc 1 _ rfl
 have HBX:=ξh bx
 have HG:=ξh (hg.behind bx)
 have HAN:=ξh (show([d]:List Dem).any (fun g=>!demOk g m1)=false by simp[hd])
 clear r1 r2 hsm bc bx hg hd hn
 have HFN:=ξh (show IsFn 218 from isFn_of rfl rfl rfl)
 go_enter Tryz.func188,Tryz.ntmps188
 go_wp2_with fail
 generalize w.alloc (.cells #[.slice a1 m1 c1,.slice a2 m2 c2] 35)=w1 at *
 have HVN1:=ξh (HVN.out w1 HBX.out)
 refine HVN1.mono ?_
 rintro e w2 ⟨rfl,b2⟩
 have HB2:=ξh (HBX.trans (b2.mono HBX.size))
 have p0:=(b2.cell blt).trans q0
 have p1:=(b2.cell blt).trans q1
 have HG2:=ξh (HG.behind b2)
 clear b2
 have HCF:=ξh (ξce _ [d] 218 w.heap.size (fun g=>!demOk g m1) w2 HG2.out HFN.out (fun i w' _ hb z _=>demandBad_any z w.heap.size a1 a2 m1 c1 m2 c2 w' (by omega) ((hb.cell (ξd _ _ p0)).trans p0) ((hb.cell (ξd _ _ p1)).trans p1)))
 rw[HAN.out] at HCF
 go_wp2_with fail
 refine HCF.mono ?_
 rintro e w3 ⟨rfl,b3⟩
 have HB3:=ξh (HB2.trans (b3.mono HB2.size))
 clear b3
 go_wp2
 go_ret
 exact⟨rfl,HB3.out⟩
theorem isNode1_any (x:Int) (bn:Nat) (a1:Option Addr) (m c1:Nat) (w:World) (hm:m≤8) (h0:w.cell? ⟨bn,0,none⟩=some (.slice a1 m c1)):
 Calls Tryz.prog 237 #[.int .i64 x,ptr bn] w fun e w'=>e= .returned (.bool (!inB x 0 ((m:Int)-1)))∧Below w.heap.size w w':=by
 have HW:=ξh (fun w'=>ξE x 0 ((m:Int)-1) w')
 generalize inB x 0 ((m:Int)-1)=q at *
 go_enter Tryz.func237,Tryz.ntmps237
 go_wp2_with (go_at_call 74;refine(HW.out _).mono ?_;rintro e w' ⟨rfl,rfl⟩)
 go_ret
 exact⟨rfl,ξb _ _⟩
theorem isNode_any (v u:Value) (n:Net) (x y:Int) (w:World) (h:NetR w v n) (hn:ξL n=true) (hx:inB x 0 ((n.ns.length:Int)-1)=true) (hy:inB y 0 ((n.ns.length:Int)-1)=true) (hg:Rd w u [x,y]):
 Calls Tryz.prog 219 #[v,u] w fun e w'=>e= .returned (.bool true)∧Below w.heap.size w w':=by
 have HVN:=ξh (fun w' (hb:Below w.heap.size w w')=>ξas v n w' (h.behind hb))
 rw[hn] at HVN
 have hm8:=ξaE hn
 obtain⟨u1,u2,rfl,r1,r2,hsm⟩:=h
 obtain⟨a1,m1,c1,rfl,HN1,hc1,hm1,-⟩:=ξC (m:=1) (enc:=strE) (fun _=>rfl) (by omega) nilS r1
 obtain⟨a2,m2,c2,rfl,HN2,hc2,hm2,-⟩:=ξC (m:=4) (enc:=fibE) (fun _=>rfl) (by omega) nilB r2
 obtain⟨a3,c3,m3,HN3,rfl,-⟩:=hg.opn
 rw[HN1.out] at hm8 hx hy
 obtain⟨bx,bc,blt,-⟩:=ξD w #[.slice a1 m1 c1,.slice a2 m2 c2] 35
 have q0:=bc 0 _ rfl
 have q1:=bc 1 _ rfl
 have HBX:=ξh bx
 have HG:=ξh (hg.belowAll bx)
 have HAN:=ξh (show([x,y]:List Int).any (fun g=>!inB g 0 ((m1:Int)-1))=false by simp[hx,hy])
 clear r1 r2 hsm bc bx hg hx hy hn
 have HFN:=ξh (show IsFn 237 from isFn_of rfl rfl rfl)
 go_enter Tryz.func219,Tryz.ntmps219
 go_wp2_with fail
 generalize w.alloc (.cells #[.slice a1 m1 c1,.slice a2 m2 c2] 35)=w1 at *
 have HVN1:=ξh (HVN.out w1 HBX.out)
 refine HVN1.mono ?_
 rintro e w2 ⟨rfl,b2⟩
 have HB2:=ξh (HBX.trans (b2.mono HBX.size))
 have p0:=(b2.cell blt).trans q0
 have HG2:=ξh (HG.belowAll b2)
 clear b2
 have HCF:=ξh (ξcn _ [x,y] 237 w.heap.size (fun g=>!inB g 0 ((m1:Int)-1)) w2 HG2.out HFN.out (fun i w' _ hb z _=>isNode1_any z w.heap.size a1 m1 c1 w' hm8 ((hb.cell (ξd _ _ p0)).trans p0)))
 rw[HAN.out] at HCF
 go_wp2_with fail
 refine HCF.mono ?_
 rintro e w3 ⟨rfl,b3⟩
 have HB3:=ξh (HB2.trans (b3.mono HB2.size))
 clear b3
 go_wp2
 go_ret
 exact⟨rfl,HB3.out⟩
def AllP (n:Net) (fr tn:Int) (w:World) (e:Ending) (w':World):Prop:=Below w.heap.size w w'∧((200<(allR n fr tn).length∧e= .returned (.tuple #[.slice none 0 0,.bool false]))∨
 ((allR n fr tn).length≤200∧ ∃v ps,e= .returned (.tuple #[v,.bool true])∧w'.ownsRow w.heap.size 82 2 v ps.length (rcs fr ps)∧(∀p∈ps,Rd w' p.2 p.1)∧ps.map Prod.fst=allR n fr tn))
theorem allRoutes_any (v:Value) (n:Net) (fr tn:Int) (w:World) (h:NetR w v n) (hn:ξL n=true) (hx:inB fr 0 ((n.ns.length:Int)-1)=true) (hy:inB tn 0 ((n.ns.length:Int)-1)=true) (hne:fr≠tn):
 Calls Tryz.prog 189 #[v,.int .i64 fr,.int .i64 tn] w (AllP n fr tn w):=by
 obtain⟨NP,hNP⟩:∃NP,NP=AllP n fr tn w:=⟨_,rfl⟩
 rw[←hNP]
 have HND:=ξh (fun u w' (hb:Below w.heap.size w w') hg=>isNode_any v u n fr tn w' (h.behind hb) hn hx hy hg)
 have hnet:=fun w' (hb:Below w.heap.size w w')=>h.behind hb
 obtain⟨u1,u2,rfl,r1,r2,hsm⟩:=h
 have HRB:=ξh (fun w' (hb:Below w.heap.size w w')=>ξcp u1 u2 n fr tn w' (r2.behind hb) (Rdt.slice (show Rdt w (.rows _ _) u1 from r1)) hn hx hne)
 obtain⟨a1,m1,c1,rfl⟩:=Rdt.slice (show Rdt w (.rows _ _) u1 from r1)
 obtain⟨a2,m2,c2,rfl⟩:=Rdt.slice (show Rdt w (.rows _ _) u2 from r2)
 obtain⟨bx,bc,blt,-⟩:=ξD w #[.slice a1 m1 c1,.slice a2 m2 c2] 35
 have q0:=bc 0 _ rfl
 have q1:=bc 1 _ rfl
 have HBX:=ξh bx
 have hbn:(fr==tn)=false:=by simpa using hne
 have hbd:decide (fr=tn)=false:=by simpa using hne
 have HNP:=ξh hNP
 clear r1 r2 hsm bc bx hx hy hn hnet hNP hne
 go_enter Tryz.func189,Tryz.ntmps189
 go_wp2_with fail
 have HRD:=ξh (rd_alloc (w.alloc (.cells #[.slice a1 m1 c1,.slice a2 m2 c2] 35)) 3 [fr,tn] (by unfold maxLen;simp))
 rw[show(w.alloc (.cells #[.slice a1 m1 c1,.slice a2 m2 c2] 35)).heap.size=w.heap.size+1 by simp] at HRD
 have HB2:=ξh (HBX.alloc HBX.size (.cells #[.int .i64 fr,.int .i64 tn] 3))
 have hk:=(ξb (w.alloc (.cells #[.slice a1 m1 c1,.slice a2 m2 c2] 35)).heap.size (w.alloc (.cells #[.slice a1 m1 c1,.slice a2 m2 c2] 35))).alloc (ξr _) (.cells #[.int .i64 fr,.int .i64 tn] 3)
 have p0:=(hk.cell blt).trans q0
 have p1:=(hk.cell blt).trans q1
 have blt2:=ξq blt hk.size
 clear hk q0 q1 blt
 refine(HND.out _ _ HB2.out HRD.out).mono ?_
 rintro e w3 ⟨rfl,b3⟩
 have HB3:=ξh (HB2.trans (b3.mono HB2.size))
 have t0:=(b3.cell blt2).trans p0
 have t1:=(b3.cell blt2).trans p1
 clear b3 p0 p1 blt2 HRD
 go_wp2_with fail
 refine(HRB.out _ HB3.out).mono ?_
 rintro e w4 ⟨v4,ps,rfl,hrow,hsm,hrd,hpe,hpw,b4⟩
 have HB4:=ξh (HB3.trans (b4.mono HB3.size))
 have hl:ps.length=(extR n tn (n.ns.length+1) fr [fr] []).length:=by have:=hpe.length_eq;rwa [List.length_map] at this
 have HL:=ξh (show(allR n fr tn).length=min 201 ps.length by rw[allR_len,hl])
 have HONE:=ξh (fun(h:ps.length≤200)=>allR_one (n:=n) (by omega) hpw hpe)
 have HROW:=ξh (show w4.ownsRow w.heap.size 82 2 v4 ps.length (rcs fr ps) from⟨hrow.1,hrow.2.imp id fun⟨g,cap,cur,k1,k2,k3⟩=>⟨g,cap,cur,k1,ξs HB3.size k2,k3⟩⟩)
 have HRDS:=ξh hrd
 obtain⟨a4,c4,rfl⟩:=rowf hrow
 obtain⟨m,hm⟩:∃m,m=ps.length:=⟨_,rfl⟩
 rw[←hm] at HL HONE HROW ⊢
 have HM:=ξh hm
 clear hrow hsm hrd hpe hpw b4 hl hm
 by_cases h2:200<m
 · have h2I:(m:Int)>200:=by omega
   go_wp2
   rw[HNP.out]
   exact⟨HB4.out,.inl ⟨by rw[HL.out];omega,rfl⟩⟩
 · have h2I:¬(m:Int)>200:=by omega
   go_wp2
   rw[HNP.out]
   exact⟨HB4.out,.inr ⟨by rw[HL.out];omega,_,ps,rfl,by rw[←HM.out];exact HROW.out,HRDS.out,HONE.out (by omega)⟩⟩
end Go.Proofs.YtofcicomhnkocaaGreat
