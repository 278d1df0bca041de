import Derived.Test.YtofcicomhnkocaaGreatBx23
set_option linter.unusedVariables false
namespace Go.Proofs.YtofcicomhnkocaaGreat
set_option maxHeartbeats 12800000
open Go.RowKit Go.Sort
set_option maxRecDepth 100000
theorem l10Best_any (v:Value) (fs:List Fmt) (len:Int) (w:World) (h:Rdt w (flt 2 fmE fs) v):
 Calls Tryz.prog 234 #[v,.int .i64 len] w fun e w'=>e= .returned (.int .i64 (bstI fs len fs.length))∧w=w':=by
 have HSTEP:=ξh (fun k=>show bstI fs len (k+1)=if len≤(fs[k]?.getD ξJ).c then(k:Int) else bstI fs len k from rfl)
 obtain⟨a1,n1,c1,rfl,HN1,hc1,hm1,ha1⟩:=ξC (m:=2) (enc:=fmE) (fun _=>rfl) (by omega) ξJ h
 have HA1:=ξh ha1
 rw[HN1.out]
 have hb0:bstI fs len 0= -1:=rfl
 have HB0:=ξh hb0
 clear ha1 h hb0
 go_enter Tryz.func234,Tryz.ntmps234
 go_wp2
 go_loopw [5,6] (fun s i wr=>∃(k:Nat) (x:Int),k≤n1∧i= .int .i64 k∧s= .int .i64 x∧Hid (bstI fs len k=x)∧wr=w) (fun _ i _=>n1-(intOf i).toNat)
 case atStart=>exact⟨0,-1,ξu _,rfl,rfl,HB0,rfl⟩
 case round=>
  obtain⟨k,x,hk,rfl,rfl,HK,rfl⟩:=hrel
  by_cases hlt:k<n1
  · have hltI:(k:Int)<(n1:Int):=by omega
    obtain⟨b,off,rfl,hbs,hcs⟩:=HA1.out (by omega)
    have e0:wr.cell? ⟨b,off+k*2,none⟩=_:=hcs k hlt 0 _ rfl
    have HSK:=ξh (HSTEP.out k)
    clear hcs
    generalize (fs[k]?.getD ξJ).c=rc at *
    by_cases hr:len≤rc
    · have hrI:rc≥len:=hr
      have HS:=ξh (show bstI fs len (k+1)=(k:Int) from by rw[HSK.out,if_pos hr])
      clear hr
      go_wp2
      go_roundw
      case rel=>exact⟨k+1,k,by omega,by go_num,rfl,HS,trivial⟩
      case measure=>simp[intOf];omega
    · have hrI:¬rc≥len:=hr
      have HS:=ξh (show bstI fs len (k+1)=x from by rw[HSK.out,if_neg hr];exact HK.out)
      clear hr
      go_wp2
      go_roundw
      case rel=>exact⟨k+1,x,by omega,by go_num,rfl,HS,trivial⟩
      case measure=>simp[intOf];omega
  · obtain rfl:k=n1:=by omega
    go_wp2
    go_ret
    exact⟨by rw[HK.out];rfl,rfl⟩
theorem l10Slots_any (v:Value) (fs:List Fmt) (len rate:Int) (w:World) (h:Rdt w (flt 2 fmE fs) v) (hf:fmOk fs=true) (hr1:1≤rate) (hr2:rate≤1000):
 Calls Tryz.prog 215 #[v,.int .i64 len,.int .i64 rate] w fun e w'=>e= .returned (.int .i64 (slI fs len rate))∧Below w.heap.size w w':=by
 have HV:=ξh (l10Best_any v fs len w h)
 have hrng:=bstI_rng fs len fs.length
 by_cases hneg:bstI fs len fs.length<0
 · have HS:=ξh (slI_no rate hneg)
   generalize slI fs len rate=S at *
   obtain⟨a1,n1,c1,rfl,HN1,hc1,hm1,-⟩:=ξC (m:=2) (enc:=fmE) (fun _=>rfl) (by omega) ξJ h
   generalize bstI fs len fs.length=x at *
   clear h hf hrng
   go_enter Tryz.func215,Tryz.ntmps215
   go_wp2_with (go_at_call 234;refine HV.mono ?_;rintro e w2 ⟨rfl,rfl⟩)
   go_ret
   exact⟨by rw[HS.out];rfl,ξb _ _⟩
 · obtain⟨k,hk⟩:=Int.eq_ofNat_of_zero_le (show 0≤bstI fs len fs.length by omega)
   have HS:=ξh (slI_at rate hk)
   rw[hk] at HV
   have hkn:k<fs.length:=by omega
   have hrg:=fmOk_rng hf hkn
   obtain⟨a1,n1,c1,rfl,HN1,hc1,hm1,ha1⟩:=ξC (m:=2) (enc:=fmE) (fun _=>rfl) (by omega) ξJ h
   rw[HN1.out] at hkn
   obtain⟨b,off,rfl,hbs,hcs⟩:=ha1 (by omega)
   have e1:=hcs k hkn 1 _ rfl
   have hkI:(k:Int)<(n1:Int):=by omega
   have hk0:(0:Int)≤(k:Int):=by omega
   unfold fmA at hrg HS
   generalize hrr:(fs[k]?.getD ξJ).r=r at *
   obtain⟨q,hq⟩:∃q,q=(rate+r-1)/r:=⟨_,rfl⟩
   have hs1:IntKind.i64.wrap (rate+r)=rate+r:=ξi _ (by omega)
   have hs2:IntKind.i64.wrap (rate+r-1)=rate+r-1:=ξi _ (by omega)
   have hq0:0≤q∧q≤2000:=by
    rw[hq]
    refine⟨Int.ediv_nonneg (by omega) (by omega),?_⟩
    have:=Int.ediv_le_self r (show 0≤rate+r-1 by omega)
    have:=Int.ediv_le_self (b:=r) (a:=rate+r-1) (by omega)
    omega
   have hdv:(rate+r-1).tdiv r=q:=by rw[hq];exact Int.tdiv_eq_ediv_of_nonneg (by omega)
   have hqw:IntKind.i64.wrap q=q:=ξi _ (by omega)
   have hr0:(r==0)=false:=by rw[beq_eq_false_iff_ne];omega
   rw[←hq] at HS
   generalize slI fs len rate=S at *
   clear h hf hneg hrng hcs ha1 hrr hk hq
   go_enter Tryz.func215,Tryz.ntmps215
   go_wp2_with (first | (go_at_call 234;refine HV.mono ?_;rintro e w2 ⟨rfl,rfl⟩) | fail)
   by_cases h24:24<q
   · have h24I:q>24:=h24
     have HZ:=ξh (show S=0 by have:=HS.out;rwa [if_pos h24] at this)
     clear h24
     go_quiet (fail)
     go_wp2
     go_ret
     exact⟨by rw[HZ.out];rfl,ξbd (ξb _ _) _⟩
   · have h24I:¬q>24:=h24
     have HZ:=ξh (show S=q by have:=HS.out;rwa [if_neg h24] at this)
     clear h24
     go_quiet (fail)
     go_wp2
     go_ret
     exact⟨by rw[HZ.out];rfl,ξbd (ξb _ _) _⟩
def TT (v1 v2:Value):Nat→Prop:=fun g=>v1.ownBlock=some g∨v2.ownBlock=some g
theorem mv_one {w w':World} {v1 v2 v1':Value} (hg:w.grownBy w' v1.ownBlock) (hl:v1'.ownBlock=v1.ownBlock∨v1'.ownBlock=some w.heap.size):Mv (TT v1 v2) (TT v1' v2) w w':=
 ⟨hg.os,hg.tape,hg.output,hg.size,fun g h1 h2=>hg.block g h1 (fun e=>h2 (.inl e.symm)),fun g h=>by
  rcases h with h | h
  · rcases hl with e | e
    · exact .inl (.inl (e▸h))
    · rw[e] at h;have:=ξo h;right;omega
  · exact .inl (.inr h)⟩
theorem mv_two {w w':World} {v1 v2 v2':Value} (hg:w.grownBy w' v2.ownBlock) (hl:∀g,v2'.ownBlock=some g→v2.ownBlock=some g∨w.heap.size≤g):Mv (TT v1 v2) (TT v1 v2') w w':=
 ⟨hg.os,hg.tape,hg.output,hg.size,fun g h1 h2=>hg.block g h1 (fun e=>h2 (.inr e.symm)),fun g h=>by
  rcases h with h | h
  · exact .inl (.inl h)
  · exact(hl g h).imp .inr id⟩
def usaS (n:Net) (fs:List Fmt) (d:Dem) (k:Nat):List (List Int × Int):=((allR n d.a d.b).take k).filterMap fun fb=>if 0<slI fs (lenR n fb) d.r then some (fb,slI fs (lenR n fb) d.r) else none
theorem usaS_step {n:Net} {fs:List Fmt} {d:Dem} {k:Nat} (hk:k<(allR n d.a d.b).length):usaS n fs d (k+1)=usaS n fs d k++(if 0<slI fs (lenR n ((allR n d.a d.b)[k]?.getD [])) d.r then[((allR n d.a d.b)[k]?.getD [],slI fs (lenR n ((allR n d.a d.b)[k]?.getD [])) d.r)] else[]):=by
 unfold usaS
 rw[List.take_add_one,List.filterMap_append,ξg hk]
 simp only[Option.toList_some,Option.getD_some]
 congr 1
 split
 · rename_i h;simp[h]
 · rename_i h;simp[h]
theorem usaS_len (n:Net) (fs:List Fmt) (d:Dem) (k:Nat):(usaS n fs d k).length≤k:=by
 unfold usaS;exact ξs (List.length_filterMap_le _ _) (by rw[List.length_take];omega)
theorem usaS_all (n:Net) (fs:List Fmt) (d:Dem):usaS n fs d (allR n d.a d.b).length=usaR n fs d:=by unfold usaS usaR;rw[List.take_of_length_le (ξr _)]
def UslP (n:Net) (fs:List Fmt) (d:Dem) (w:World) (e:Ending) (w':World):Prop:=Below w.heap.size w w'∧
 ((failU n d=true∧ ∃v1 v2,e= .returned (.tuple #[v1,v2,.bool false]))∨
  (failU n d=false∧ ∃a1 c1 a2 m c2 qs,e= .returned (.tuple #[.slice a1 m c1,.slice a2 m c2,.bool true])∧qs.length=m∧m≤200∧w'.ownsRow w.heap.size 82 2 (.slice a1 m c1) m (rcs d.a qs)∧Own w' w.heap.size (.slice a2 m c2) ((usaR n fs d).map Prod.snd)∧qs.map Prod.fst=(usaR n fs d).map Prod.fst∧ ∀p∈qs,Rd w' p.2 p.1∧p.1.length≤1000∧ξa7 n p.1))
theorem box4_facts (w:World) (A B C D:Obj):Below w.heap.size w ((((w.alloc A).alloc B).alloc C).alloc D)∧((((w.alloc A).alloc B).alloc C).alloc D).heap[w.heap.size]?= some A∧((((w.alloc A).alloc B).alloc C).alloc D).heap[w.heap.size+1]?= some B∧((((w.alloc A).alloc B).alloc C).alloc D).heap[w.heap.size+1+1]?= some C∧((((w.alloc A).alloc B).alloc C).alloc D).heap[w.heap.size+1+1+1]?= some D∧((((w.alloc A).alloc B).alloc C).alloc D).heap.size=w.heap.size+1+1+1+1:=by
 obtain⟨b3,g0,g1,g2,hz⟩:=ξal w A B C
 have b4:=(ξb (((w.alloc A).alloc B).alloc C).heap.size _).alloc (ξr _) D
 have g3:=ξn (((w.alloc A).alloc B).alloc C) D
 rw[hz] at g3
 exact⟨b3.trans (b4.mono b3.size),ξA g0 b4,ξA g1 b4,ξA g2 b4,g3,by simp⟩
theorem row_cells2 {w:World} {base m c:Nat} {a:Option Addr} {st:Int} {ps:List (List Int × Value)} (h:w.ownsRow base 82 2 (.slice a m c) m (rcs st ps)) (hm:ps.length=m):∀i,i<m→ ∃g,a=some ⟨g,0,none⟩∧g<w.heap.size∧w.cell? ⟨g,i*2,none⟩=some (.int .i64 st)∧w.cell? ⟨g,i*2+1,none⟩=some (ps[i]?.getD ξZ).2:=fun i hi=>by
 rcases h.2 with ⟨h1,h2⟩ | ⟨g,cap,cur,h1,h2,h3,_⟩
 · omega
 · cases h1
   have hc:=World.ownsRow.cells h (g:=g) rfl
   obtain⟨k1,k2⟩:=rcsS_at st ps i (by omega)
   have c0:=hc _ _ k1
   have c1:=hc _ _ k2
   rw[addr_add,Nat.zero_add] at c0 c1
   exact⟨g,rfl,(ξa h3).1,c0,c1⟩
theorem Rd.keptE {w w':World} {v:Value} {xs:List Int} {T T':Nat→Prop} (h:Rd w v xs) (hm:Mv T T' w w') (hT:∀g,T g→ ∃E,w.heap[g]?= some (.cells #[] E (0,0))):Rd w' v xs:=by
 rcases h with h | ⟨b,off,cap,rfl,h1,h2,h3,h4⟩
 · exact .inl h
 · refine .inr ⟨b,off,cap,rfl,h1,h2,ξq h3 hm.size,fun j hj=> ?_⟩
   have hb:¬T b:=fun e=>by
    obtain⟨E,hE⟩:=hT b e
    have:=h4 j hj
    rw[cell_of_row _ _ _ _ _ _ hE] at this
    simp at this
   rw[World.cell?_of_block (w:=w) (hm.block b h3 hb)];exact h4 j hj
theorem l10Usable_any (u1 u2 vf:Value) (n:Net) (fs:List Fmt) (d:Dem) (w:World) (hnet:Rdt w (flt 4 fibE n.fs) u2) (h1:∃a m c,u1= .slice a m c) (hfm:Rdt w (flt 2 fmE fs) vf) (hn:ξL n=true) (hfo:fmOk fs=true) (hd:demOk d n.ns.length=true):
 Calls Tryz.prog 186 #[.agg #[u1,u2],vf,demV d] w (UslP n fs d w):=by
 obtain⟨NP,hNP⟩:∃NP,NP=UslP n fs d w:=⟨_,rfl⟩
 rw[←hNP]
 have HNP:=ξh hNP
 have HAL:=ξh (fun w' (hb:Below w.heap.size w w')=>l4All_any u1 u2 n d.a d.b w' (hnet.behind hb) h1 hn (ξcs hd).1)
 have hr:=ξO (show inB d.r 1 1000=true from by unfold demOk at hd;simp only[Bool.and_eq_true] at hd;exact hd.1.2)
 have HLE:=ξh (fun(v:Value) (fb:List Int) w' (hb:Below w.heap.size w w') (hr:Rd w' v fb) (hl:fb.length≤1000) (hi:ξa7 n fb)=>ξbF u1 u2 v n d.a fb w' (hnet.behind hb) h1 hr hl hi (lenOk_of hn))
 have HSL:=ξh (fun(len:Int) w' (hb:Below w.heap.size w w')=>l10Slots_any vf fs len d.r w' (hfm.behind hb) hfo hr.1 hr.2)
 have HFU:=ξh (show failU n d=decide (200<(allR n d.a d.b).length) from rfl)
 obtain⟨a1,m1,c1,rfl⟩:=h1
 obtain⟨a2,m2,c2,rfl,-,-,-,-⟩:=ξC (m:=4) (enc:=fibE) (fun _=>rfl) (by omega) nilB hnet
 obtain⟨af,mf,cf,rfl,-,-,-,-⟩:=ξC (m:=2) (enc:=fmE) (fun _=>rfl) (by omega) ξJ hfm
 have HB4:=ξh (box4_facts w (.cells #[.slice a1 m1 c1,.slice a2 m2 c2] 35) (.cells #[.int .i64 d.a,.int .i64 d.b,.int .i64 d.r,.int .i64 d.c] 53) (.cells #[] 82) (.cells #[] 3))
 clear hnet hfm hn hfo hd hr hNP
 unfold demV
 go_enter Tryz.func186,Tryz.ntmps186
 go_wp2_with fail
 generalize (((w.alloc (.cells #[.slice a1 m1 c1,.slice a2 m2 c2] 35)).alloc (.cells #[.int .i64 d.a,.int .i64 d.b,.int .i64 d.r,.int .i64 d.c] 53)).alloc (.cells #[] 82)).alloc (.cells #[] 3)=w4 at *
 obtain⟨b4,g0,g1,g2,g3,hz4⟩:=HB4.out
 refine(HAL.out w4 b4).mono ?_
 rintro e w5 ⟨b5,hcase⟩
 have HB5:=ξh (b4.trans (b5.mono b4.size))
 have HK0:=ξh (ξA g0 b5)
 have HK1:=ξh (ξA g1 b5)
 have HK2:=ξh (ξA g2 b5)
 have HK3:=ξh (ξA g3 b5)
 have HZ4:=ξh hz4
 have HS5:=ξh b5.size
 clear b4 g0 g1 g2 g3 hz4 b5 HAL
 rcases hcase with ⟨hlt,v,rfl⟩ | ⟨hle,a5,c5,ps,rfl,hrow,hmap,hels⟩
 · have HF:=ξh (show failU n d=true from by rw[HFU.out];exact ξt hlt)
   clear hlt
   go_wp2_with fail
   rw[HNP.out]
   exact⟨HB5.out,.inl ⟨HF.out,_,_,rfl⟩⟩
 · have HF:=ξh (show failU n d=false from by rw[HFU.out];exact ξf (by omega))
   have hpl:ps.length=(allR n d.a d.b).length:=by rw[←hmap,List.length_map]
   have HAT:=ξh (show∀k,(allR n d.a d.b)[k]?.getD []=(ps[k]?.getD ξZ).1 from fun k=>by rw[←hmap,List.getElem?_map];cases ps[k]? <;> rfl)
   have HUS:=ξh (fun k (hk:k<ps.length)=>@usaS_step n fs d k (by rw[←hpl];exact hk))
   have HUA:=ξh (show usaS n fs d ps.length=usaR n fs d from by rw[hpl];exact usaS_all n fs d)
   have hm200:ps.length≤200:=by omega
   have HEL:=ξh (fun i (hi:i<ps.length)=>hels (ps[i]?.getD ξZ) (by rw[ξg hi];exact ξj hi))
   generalize hm:ps.length=m at *
   have HM:=ξh hm
   have HCE:=ξh (row_cells2 hrow hm)
   have HRG:=ξh (fun g hg=>(hrow.lt g hg))
   have HR1:=ξh (show w5.ownsRow w.heap.size 82 2 (.slice (some ⟨w.heap.size+1+1,0,none⟩) 0 0) 0 [] from ξbx HK2.out (by omega))
   have HO1:=ξh (show Own w5 w.heap.size (.slice (some ⟨w.heap.size+1+1+1,0,none⟩) 0 0) [] from .inr ⟨_,0,0,#[],rfl,by omega,⟨_,HK3.out⟩,ξr _,by simp[maxLen],by simp,by simp[ints]⟩)
   clear hle hrow hmap hels hpl hm
   go_wp2_with fail
   have HTE:=ξh (show∀g,TT (.slice (some ⟨w.heap.size+1+1,0,none⟩) 0 0) (.slice (some ⟨w.heap.size+1+1+1,0,none⟩) 0 0) g→(g=w.heap.size+1+1∨g=w.heap.size+1+1+1)∧ ∃E,w5.heap[g]?= some (.cells #[] E (0,0)) from fun g hg=>by
    rcases hg with hg | hg
    · have:w.heap.size+1+1=g:=ξo hg
      subst this
      exact⟨.inl rfl,_,HK2.out⟩
    · have:w.heap.size+1+1+1=g:=ξo hg
      subst this
      exact⟨.inr rfl,_,HK3.out⟩)
   have HAP:=ξh (show∀g,(Value.slice (some ⟨w.heap.size+1+1,0,none⟩) 0 0).ownBlock=some g→(Value.slice (some ⟨w.heap.size+1+1+1,0,none⟩) 0 0).ownBlock≠some g from fun g h1 h2=>by
    have e1:w.heap.size+1+1=g:=ξo h1
    have e2:w.heap.size+1+1+1=g:=ξo h2
    omega)
   generalize (some ⟨w.heap.size+1+1,0,none⟩:Option Addr)=b10 at *
   generalize (some ⟨w.heap.size+1+1+1,0,none⟩:Option Addr)=b20 at *
   clear HK2 HK3
   go_loopw [9,10,13] (fun s9 s10 i wr=>∃(k q:Nat) (a9:Option Addr) (c9:Nat) (a10:Option Addr) (c10:Nat) (qs:List (List Int × Value)),k≤m∧i= .int .i64 k∧s9= .slice a9 q c9∧s10= .slice a10 q c10∧q≤k∧Hid (qs.length=q)∧Hid (wr.ownsRow w.heap.size 82 2 (.slice a9 q c9) q (rcs d.a qs))∧Hid (Own wr w.heap.size (.slice a10 q c10) ((usaS n fs d k).map Prod.snd))∧Hid (qs.map Prod.fst=(usaS n fs d k).map Prod.fst)∧Hid (∀p∈qs,∃i,i<m∧p=ps[i]?.getD ξZ)∧Hid (Mv (TT (.slice b10 0 0) (.slice b20 0 0)) (TT (.slice a9 q c9) (.slice a10 q c10)) w5 wr)∧Hid (∀g,(Value.slice a9 q c9).ownBlock=some g→(Value.slice a10 q c10).ownBlock≠some g)) (fun _ _ i _=>m-(intOf i).toNat)
   case atStart=>exact⟨0,0,b10,0,b20,0,[],by omega,rfl,rfl,rfl,by omega,rfl,HR1.out,HO1.out,rfl,(fun p hp=>by cases hp),Mv.refl _ _,HAP.out⟩
   case round=>
    clear HR1 HO1 HAP
    obtain⟨k,q,a9,c9,a10,c10,qs,hk,rfl,rfl,rfl,hqk,HQ,HR,HO,HMP,HMEM,HMV,HAP⟩:=hrel
    have HBW:=ξh (show Below w.heap.size w wr from HMV.below HB5.out HB5.size (fun g hg=>by have:=(HTE.out g hg).1;omega))
    by_cases hlt:k<m
    · have hltI:(k:Int)<(m:Int):=by omega
      obtain⟨g,rfl,hgs,e0,e1⟩:=HCE.out k hlt
      have hgw:=HRG.out g rfl
      have HGN:=ξh (show¬TT (.slice b10 0 0) (.slice b20 0 0) g from fun h=>by have:=(HTE.out g h).1;have:=HZ4.out;omega)
      have e0:=(World.cell?_of_block (a:=⟨g,k*2,none⟩) (HMV.block g hgs HGN.out)).trans e0
      have e1:=(World.cell?_of_block (a:=⟨g,k*2+1,none⟩) (HMV.block g hgs HGN.out)).trans e1
      obtain⟨r1,r2,r3⟩:=HEL.out k hlt
      have HRX:=ξh (r1.keptE HMV.out fun g hg=>(HTE.out g hg).2)
      have HLX:=ξh (fun w' hb hr=>HLE.out (ps[k]?.getD ξZ).2 (ps[k]?.getD ξZ).1 w' hb hr r2 r3)
      have HSX:=ξh (fun w' hb=>HSL.out (lenR n (ps[k]?.getD ξZ).1) w' hb)
      have HUK:=ξh (HUS.out k hlt)
      rw[HAT.out k] at HUK
      obtain⟨ax,mx,cx,hvx⟩:=r1.sl
      have hnx:∀g',g'=w.heap.size∨g'=w.heap.size+1→wr.heap[g']?= w5.heap[g']?:=fun g' h=>HMV.block g' (by have:=HS5.out;have:=HZ4.out;omega) (fun e=>by have:=(HTE.out g' e).1;omega)
      have hk0:=(hnx w.heap.size (.inl rfl)).trans HK0.out
      have hk1:=(hnx (w.heap.size+1) (.inr rfl)).trans HK1.out
      have y0:=blkc hk0 (j:=0) (u:= .slice a1 m1 c1) rfl
      have y1:=blkc hk0 (j:=1) (u:= .slice a2 m2 c2) rfl
      have z2:=blkc hk1 (j:=2) (u:= .int .i64 d.r) rfl
      rw[hvx] at e1 HRX HLX
      have HXE:=ξh (show ps[k]?.getD ξZ=((ps[k]?.getD ξZ).1,.slice ax mx cx) from Prod.ext rfl hvx)
      generalize hln:lenR n (ps[k]?.getD ξZ).1=ln at *
      generalize hfb:(ps[k]?.getD ξZ).1=fb at *
      generalize hsl:slI fs ln d.r=sl at *
      clear hln hfb hsl r1 r2 r3 hvx hnx hk0 hk1 hgs hgw
      go_wp2
      have j0:=rg y0
      have j1:=rg y1
      have j2:=rg z2
      have j3:=rg e0
      have j4:=rg e1
      have HL2:=ξh (fun d os=>HLX.out (grow (redrawn wr d) os) (HBW.trans ((ξc wr d os).mono HBW.size)) (HRX.belowAll (ξc wr d os)))
      have HS2:=ξh (fun d os=>HSX.out (grow (redrawn wr d) os) (HBW.trans ((ξc wr d os).mono HBW.size)))
      clear y0 y1 z2
      refine ξv ?_
      repeat (go_big_quiet_step (first | (go_at_call 216;exact Calls.regrown_of (HL2.out _ _)) | (go_at_call 215;exact Calls.regrown_of (HS2.out _ _))))
      refine wpQuiet_nil ?_
      rintro _ ⟨⟨dq,osq⟩,rfl⟩
      have HB6:=ξh (ξc wr dq osq)
      have x0:=j3 dq osq
      have x1:=j4 dq osq
      clear e0 e1 j0 j1 j2 j3 j4
      generalize grow (redrawn wr dq) osq=w6 at *
      have HR6:=ξh (ξN HR.out HB6.out)
      have HO6:=ξh (HO.belowAll HB6.out)
      have HMV6:=ξh (HMV.trans (Mv.of_below HB6.out))
      have HBW6:=ξh (HBW.trans (HB6.mono HBW.size))
      have HUL:=ξh (usaS_len n fs d k)
      by_cases hpos:0<sl
      · have hpd:decide (sl>0)=true:=ξt hpos
        have HUN:=ξh (show usaS n fs d (k+1)=usaS n fs d k++[(fb,sl)] from by rw[HUK.out,if_pos hpos])
        go_upto_region 11 with (at_builtin;refine wpList_catG rfl (.tmp 48) (.tmp 53) 176 82 rfl Tryz.underlying176 (.agg #[.int .i64 0,.slice none 0 0]) 2 32 Tryz.infoRou rfl (by decide) w.heap.size (.slice a9 q c9) q (rcs d.a qs) (by rfl) (ξN HR6.out ((ξb w6.heap.size w6).alloc (ξr _) (.cells #[.int .i64 d.a,.slice ax mx cx] 82))) (some ⟨w6.heap.size,0,none⟩) 1 1 [.int .i64 d.a,.slice ax mx cx] (by rfl) rfl (fun e=>by cases e) (ξbf (us:=[.int .i64 d.a,.slice ax mx cx])) (fun u hu=>by simp at hu;rcases hu with rfl | rfl <;> rfl) (by unfold maxLen;omega) (by omega) (by simp;have:=HBW6.size;omega) ?_;intro v7 w7 o7 g7 l7;have O7:=ξh o7;have G7:=ξh g7;have L7:=ξh l7;obtain⟨a7,c7,rfl⟩:=rowf o7;clear o7 g7 l7)
        have HBA:=ξh ((ξb w6.heap.size w6).alloc (ξr _) (.cells #[.int .i64 d.a,.slice ax mx cx] 82))
        have HO6':=ξh (HO6.belowAll HBA.out)
        have hz6:(w6.alloc (.cells #[.int .i64 d.a,.slice ax mx cx] 82)).heap.size=w6.heap.size+1:=by simp
        have HO7:=ξh (HO6'.kept fun g' hg'=>G7.block g' (by have:=(HO6'.lt g' hg').2;omega) (fun e=>HAP.out g' e.symm hg'))
        have HMV7:=ξh ((HMV6.trans (Mv.of_below HBA.out)).trans (mv_one (v2:= .slice a10 q c10) G7.out L7.out))
        have HAP7:=ξh (show∀g',(Value.slice a7 (q+1) c7).ownBlock=some g'→(Value.slice a10 q c10).ownBlock≠some g' from fun g' h1 h2=>by
         rcases L7.out with e | e
         · exact HAP.out g' (e▸h1) h2
         · rw[e] at h1
           have h3:=ξo h1
           have:=(HO6.lt g' h2).2
           omega)
        have HBW7:=ξh (show Below w.heap.size w w7 from HMV7.below HB5.out HB5.size (fun g hg=>by have:=(HTE.out g hg).1;omega))
        clear hz6 x0 x1
        go_wp2_with (at_builtin;refine ξa6 rfl (.tmp 55) (.tmp 57) 58 rfl Tryz.underlying58 Tryz.infoI w.heap.size (.slice a10 q c10) _ rfl HO7.out rfl (by rw[List.length_map];have:=HUL.out;omega) HBW7.size ?_;intro v8 w8 o8 g8 l8;have O8:=ξh o8;have G8:=ξh g8;have L8:=ξh l8;obtain⟨a8,m8,c8,rfl⟩:=ξag o8;clear o8 g8 l8)
        have hm8:m8=q+1:=by
         have h1:=congrArg List.length HMP.out
         rw[List.length_map,List.length_map] at h1
         have h2:=O8.rd.opn
         obtain⟨_,_,mm,HMM,e,-⟩:=h2
         simp only[Value.slice.injEq] at e
         have h3:=HMM.out
         simp only[ξk,List.length_map,List.length_singleton] at h3
         have:=HQ.out
         omega
        subst hm8
        have HR8:=ξh (rowX_kept O7.out fun g' hg'=>G8.block g' (O7.lt g' hg').2 (fun e=>HAP7.out g' hg' e.symm))
        have HMV8:=ξh (HMV7.trans (mv_two (v1:= .slice a7 (q+1) c7) G8.out L8.out))
        have HAP8:=ξh (show∀g',(Value.slice a7 (q+1) c7).ownBlock=some g'→(Value.slice a8 (q+1) c8).ownBlock≠some g' from fun g' h1 h2=>by
         rcases L8.out g' h2 with e | e
         · exact HAP7.out g' h1 e
         · have:=(O7.lt g' h1).2
           omega)
        go_roundw
        case rel=>exact⟨k+1,q+1,a7,c7,a8,c8,qs++[(fb,.slice ax mx cx)],by omega,by go_num,rfl,rfl,by omega,by rw[ξk,HQ.out];rfl,by rw[rcs_app];exact HR8.out,by rw[HUN.out,List.map_append];exact O8.out,by rw[HUN.out,List.map_append,List.map_append,HMP.out];rfl,fun p hp=>(by
         rcases List.mem_append.1 hp with hp | hp
         · exact HMEM.out p hp
         · exact⟨k,hlt,by rw[List.mem_singleton.1 hp,HXE.out]⟩),HMV8.out,HAP8.out⟩
        case measure=>simp[intOf];omega
      · have hpd:decide (sl>0)=false:=ξf hpos
        have hpn:sl≤0:=by omega
        have HUN:=ξh (show usaS n fs d (k+1)=usaS n fs d k from by rw[HUK.out,if_neg hpos,List.append_nil])
        go_wp2_with fail
        go_roundw
        case rel=>exact⟨k+1,q,a9,c9,a10,c10,qs,by omega,by go_num,rfl,rfl,by omega,HQ.out,HR6.out,by rw[HUN.out];exact HO6.out,by rw[HUN.out];exact HMP.out,HMEM.out,HMV6.out,HAP.out⟩
        case measure=>simp[intOf];omega
    · have hltI:¬(k:Int)<(m:Int):=by omega
      obtain rfl:k=m:=by omega
      have hol:((usaR n fs d).map Prod.snd).length=q:=by
       rw[←HUA.out,List.length_map]
       have:=congrArg List.length HMP.out
       rw[List.length_map,List.length_map] at this
       rw[←this];exact HQ.out
      rw[HUA.out] at HO HMP
      have HFIN:=ξh (show∀p∈qs,Rd wr p.2 p.1∧p.1.length≤1000∧ξa7 n p.1 from fun p hp=>by
       obtain⟨i,hi,e⟩:=HMEM.out p hp
       obtain⟨r1,r2,r3⟩:=HEL.out i hi
       rw[e]
       exact⟨r1.keptE HMV.out fun g hg=>(HTE.out g hg).2,r2,r3⟩)
      clear hol
      go_wp2_with fail
      rw[HNP.out]
      exact⟨HBW.out,.inr ⟨HF.out,a9,c9,a10,q,c10,qs,rfl,HQ.out,by omega,HR.out,HO.out,HMP.out,HFIN.out⟩⟩
theorem UslP.from_ {n:Net} {fs:List Fmt} {d:Dem} {w w1 w':World} {e:Ending} (hb:Below w.heap.size w w1) (h:UslP n fs d w1 e w'):UslP n fs d w e w':=by
 obtain⟨h1,h2⟩:=h
 refine⟨hb.trans (h1.mono hb.size),h2.imp id fun⟨hf,a1,c1,a2,m,c2,qs,he,hq,hm,hr,ho,hx⟩=>⟨hf,a1,c1,a2,m,c2,qs,he,hq,hm,ξaB hr hb.size,ho.mono hb.size,hx⟩⟩
theorem ξcD (u1 u2 vf:Value) (n:Net) (fs:List Fmt) (d:Dem) (w:World) (h:NetR w (.agg #[u1,u2]) n) (hfm:Rdt w (flt 2 fmE fs) vf) (hn:ξL n=true) (hfo:fmOk fs=true) (hd:demOk d n.ns.length=true):
 Calls Tryz.prog 149 #[.agg #[u1,u2],vf,demV d] w (UslP n fs d w):=by
 obtain⟨NP,hNP⟩:∃NP,NP=UslP n fs d w:=⟨_,rfl⟩
 rw[←hNP]
 have HNP:=ξh hNP
 have h0:=h
 obtain⟨x1,x2,e,r1,r2,hsm⟩:=h0
 simp only[Value.agg.injEq,Array.mk.injEq,List.cons.injEq,and_true] at e
 obtain⟨rfl,rfl⟩:=e
 obtain⟨⟨a1,m1,c1,rfl⟩,a2,m2,c2,rfl⟩:=ξF h
 have hm8:m1≤1000:=by
  obtain⟨_,_,_,e,HN1,-⟩:=ξC (m:=1) (enc:=strE) (fun _=>rfl) (by omega) nilS r1
  simp only[Value.slice.injEq] at e
  have:=HN1.out
  have:=ξaE hn
  omega
 have hmn:n.ns.length=m1:=by
  obtain⟨_,_,_,e,HN1,-⟩:=ξC (m:=1) (enc:=strE) (fun _=>rfl) (by omega) nilS r1
  simp only[Value.slice.injEq] at e
  have:=HN1.out
  omega
 have HG:=ξh (fun w' (hb:Below w.heap.size w w')=>ξbq _ n w' (h.behind hb))
 have HF:=ξh (fun w' (hb:Below w.heap.size w w')=>ξbW vf fs w' (hfm.behind hb))
 have HD:=ξh (fun w'=>ξc9 a1 a2 m1 c1 m2 c2 d w' hm8)
 have HU:=ξh (fun w' (hb:Below w.heap.size w w')=>l10Usable_any (.slice a1 m1 c1) (.slice a2 m2 c2) vf n fs d w' (r2.behind hb) ⟨_,_,_,rfl⟩ (hfm.behind hb) hn hfo hd)
 rw[hn] at HG
 rw[hfo] at HF
 rw[←hmn,hd] at HD
 obtain⟨af,mf,cf,rfl,-,-,-,-⟩:=ξC (m:=2) (enc:=fmE) (fun _=>rfl) (by omega) ξJ hfm
 rw[hmn] at HD
 have HB2:=ξh (ξb2 w (.cells #[.slice a1 m1 c1,.slice a2 m2 c2] 35) (.cells #[.int .i64 d.a,.int .i64 d.b,.int .i64 d.r,.int .i64 d.c] 53))
 clear h r1 r2 hsm hfm hn hfo hd hNP hmn
 unfold demV at HD HU ⊢
 go_enter Tryz.func149,Tryz.ntmps149
 go_upto_region 1 with fail
 generalize (w.alloc (.cells #[.slice a1 m1 c1,.slice a2 m2 c2] 35)).alloc (.cells #[.int .i64 d.a,.int .i64 d.b,.int .i64 d.r,.int .i64 d.c] 53)=w2 at *
 obtain⟨b2,g0,g1,hz2⟩:=HB2.out
 have HB:=ξh b2
 have HK0:=ξh g0
 have HK1:=ξh g1
 clear b2 g0 g1 hz2
 have y0:=blkc HK0.out (j:=0) (u:= .slice a1 m1 c1) rfl
 have y1:=blkc HK0.out (j:=1) (u:= .slice a2 m2 c2) rfl
 go_wp2_with fail
 refine(HG.out w2 HB.out).mono ?_
 rintro e w3 ⟨rfl,b3⟩
 have HB3:=ξh (HB.trans (b3.mono HB.size))
 have HK03:=ξh (ξA HK0.out b3)
 have HK13:=ξh (ξA HK1.out b3)
 clear b3 y0 y1
 go_wp2_with fail
 refine(HF.out w3 HB3.out).mono ?_
 rintro e w4 ⟨rfl,b4⟩
 have HB4:=ξh (HB3.trans (b4.mono HB3.size))
 have HK04:=ξh (ξA HK03.out b4)
 have HK14:=ξh (ξA HK13.out b4)
 clear b4
 have y0:=blkc HK04.out (j:=0) (u:= .slice a1 m1 c1) rfl
 have y1:=blkc HK04.out (j:=1) (u:= .slice a2 m2 c2) rfl
 have z0:=blkc HK14.out (j:=0) (u:= .int .i64 d.a) rfl
 have z1:=blkc HK14.out (j:=1) (u:= .int .i64 d.b) rfl
 have z2:=blkc HK14.out (j:=2) (u:= .int .i64 d.r) rfl
 have z3:=blkc HK14.out (j:=3) (u:= .int .i64 d.c) rfl
 go_wp2_with fail
 refine(HD.out w4).mono ?_
 rintro e w5 ⟨rfl,b5⟩
 have HB5:=ξh (HB4.trans (b5.mono HB4.size))
 have HK05:=ξh (ξA HK04.out b5)
 have HK15:=ξh (ξA HK14.out b5)
 clear b5 y0 y1 z0 z1 z2 z3
 have y0:=blkc HK05.out (j:=0) (u:= .slice a1 m1 c1) rfl
 have y1:=blkc HK05.out (j:=1) (u:= .slice a2 m2 c2) rfl
 have z0:=blkc HK15.out (j:=0) (u:= .int .i64 d.a) rfl
 have z1:=blkc HK15.out (j:=1) (u:= .int .i64 d.b) rfl
 have z2:=blkc HK15.out (j:=2) (u:= .int .i64 d.r) rfl
 have z3:=blkc HK15.out (j:=3) (u:= .int .i64 d.c) rfl
 go_wp2_with fail
 refine(HU.out w5 HB5.out).mono ?_
 intro e w6 hu
 have HU6:=ξh (UslP.from_ HB5.out hu)
 have hcs:(∃v1 v2 b,e= .returned (.tuple #[v1,v2,.bool b])):=by
  rcases hu.2 with ⟨-,v1,v2,h⟩ | ⟨-,a1,c1,a2,m,c2,qs,h,-⟩
  · exact⟨_,_,_,h⟩
  · exact⟨_,_,_,h⟩
 obtain⟨v1,v2,b,rfl⟩:=hcs
 clear hu y0 y1 z0 z1 z2 z3
 go_wp2_with fail
 rw[HNP.out]
 exact HU6.out
theorem usedN_step {ls:List Lgt} {f:Int} {k:Nat} (hk:k<ls.length):ξU (ls.take (k+1)) f=if(ls[k]?.getD nilL).fb.contains f then ξU (ls.take k) f ||| lmk (ls[k]?.getD nilL) else ξU (ls.take k) f:=by
 unfold ξU
 rw[List.take_add_one,List.foldl_append,ξg hk]
 rfl
theorem l8BitsL_any {nf:Nat} {x:Lgt} (w:World) (h:LgO nf x):Calls Tryz.prog 132 #[.agg #[.int .i64 x.fi,.int .i64 x.ct]] w fun e w2=>e= .returned (.int .i64 (lmk x:Nat))∧Below w.heap.size w w2:=by
 have hlx:=h.2
 have:=ξbo x.fi.toNat x.ct.toNat w (by omega)
 rw[Int.toNat_of_nonneg hlx.1,Int.toNat_of_nonneg hlx.2.1] at this
 exact this
theorem ξc5 (v:Value) (p:Pln) (f:Int) (w:World) (h:PlnR w v p) (hlo:∀x∈p.ls,LgO p.n.fs.length x):
 Calls Tryz.prog 84 #[v,.int .i64 f] w fun e w'=>e= .returned (.int .i64 (ξU p.ls f:Nat))∧Below w.heap.size w w':=by
 obtain⟨u1,u2,u3,rfl,r1,r2,r3,hsm⟩:=h
 have hnet:NetR w (.agg #[u1,u2]) p.n:=⟨u1,u2,rfl,r1,r2,hsm⟩
 obtain⟨⟨a1,m1,c1,rfl⟩,a2,m2,c2,rfl⟩:=ξF hnet
 obtain⟨a3,m3,c3,rfl,HN3,hc3,hm3,ha3⟩:=ξa1 r3
 have HA:=ξh ha3
 have HLO:=ξh (fun k (hk:k<m3)=>show LgO p.n.fs.length (p.ls[k]?.getD nilL) from by
  have h1:k<p.ls.length:=by rw[HN3.out];exact hk
  rw[ξg h1];exact hlo _ (ξj h1))
 have HST:=ξh (fun k (hk:k<m3)=>@usedN_step p.ls f k (by rw[HN3.out];exact hk))
 have HLT:=ξh (fun k=>ξaA (ls:=p.ls.take k) (fun x hx=>hlo x (List.mem_of_mem_take hx)) f)
 have HTA:=ξh (show ξU (p.ls.take m3) f=ξU p.ls f from by rw[List.take_of_length_le (Nat.le_of_eq HN3.out)])
 clear ha3 r1 r2 r3 hsm hnet hlo
 obtain⟨bx,bc,blt,-⟩:=ξD w #[.slice a1 m1 c1,.slice a2 m2 c2,.slice a3 m3 c3] 75
 have q2:=bc 2 _ rfl
 have HBX:=ξh bx
 clear bx bc
 go_enter Tryz.func84,Tryz.ntmps84
 go_wp2_with fail
 generalize w.alloc (.cells #[.slice a1 m1 c1,.slice a2 m2 c2,.slice a3 m3 c3] 75)=w1 at *
 go_loopw [5,6] (fun s5 i wr=>∃(k:Nat) (m:Int),k≤m3∧i= .int .i64 k∧s5= .int .i64 m∧Hid (m=(ξU (p.ls.take k) f:Nat))∧Hid (Below w1.heap.size w1 wr)) (fun _ i _=>m3-(intOf i).toNat)
 case atStart=>exact⟨0,0,ξu _,rfl,rfl,rfl,ξb _ _⟩
 case round=>
  obtain⟨k,m,hk,rfl,rfl,HM,HB⟩:=hrel
  have t2:=(HB.cell (p:=⟨w.heap.size,2,none⟩) blt).trans q2
  have HBW:=ξh (HBX.trans (HB.mono HBX.size))
  by_cases hlt:k<m3
  · have hltI:(k:Int)<(m3:Int):=by omega
    have hwk:IntKind.i64.wrap ((k:Int)+1)=(k:Int)+1:=ξi _ (by omega)
    obtain⟨b,off,rfl,hbs,hcs⟩:=HA.out (by omega)
    obtain⟨u,x0,x1,x2,x3,x4,hxu⟩:=hcs k hlt
    have y2:=(HBW.cell (p:=⟨b,off+k*5+2,none⟩) hbs).trans x2
    have y3:=(HBW.cell (p:=⟨b,off+k*5+3,none⟩) hbs).trans x3
    have y4:=(HBW.cell (p:=⟨b,off+k*5+4,none⟩) hbs).trans x4
    have HS:=ξh (ξbh u (p.ls[k]?.getD nilL).fb f wr (hxu.belowAll HBW.out))
    have HX:=ξh (HLO.out k hlt)
    have HSK:=ξh (HST.out k hlt)
    have HMU:=ξh (HLT.out k)
    generalize p.ls[k]?.getD nilL=x at *
    have HOR:=ξh (show bits .or .i64 m (lmk x:Nat)=((ξU (p.ls.take k) f ||| lmk x:Nat):Int) from by rw[HM.out];exact ξb6 HMU.out HX.mk)
    have HS0:=ξh (fun(hc:x.fb.contains f=false)=>show ξU (p.ls.take (k+1)) f=ξU (p.ls.take k) f from by rw[HSK.out,hc];rfl)
    have HS1:=ξh (fun(hc:x.fb.contains f=true)=>show ξU (p.ls.take (k+1)) f=ξU (p.ls.take k) f ||| lmk x from by rw[HSK.out,hc];rfl)
    clear HSK
    by_cases hct:x.fb.contains f=true
    rotate_left 1
    have hc:x.fb.contains f=false:=by simpa using hct
    clear hct
    rotate_left 1
    have hc:x.fb.contains f=true:=hct
    clear hct
    rotate_left 1
    · rw[hc] at HS
      have HCF:=ξh (HS0.out hc)
      clear hc HS0 HS1
      go_wp2_with (first | (go_at_call 59;refine HS.mono ?_;rintro e w5 ⟨rfl,rfl⟩))
      go_roundw
      case rel=>exact⟨k+1,m,by omega,by go_num,rfl,by rw[HCF.out];exact HM.out,HB.out⟩
      case measure=>simp[intOf];omega
    · rw[hc] at HS
      have HCF:=ξh (HS1.out hc)
      clear hc HS0 HS1
      go_wp2_with (first | (go_at_call 59;refine HS.mono ?_;rintro e w5 ⟨rfl,rfl⟩) | (go_at_call 132;refine(l8BitsL_any _ HX.out).mono ?_;rintro e w6 ⟨rfl,b6⟩))
      have HB6:=ξh (HB.trans (b6.mono HB.size))
      go_roundw
      case rel=>exact⟨k+1,_,by omega,by go_num,rfl,by rw[HCF.out];exact HOR.out,HB6.out⟩
      case measure=>simp[intOf];omega
  · have hltI:¬(k:Int)<(m3:Int):=by omega
    have HE:=ξh (show m=(ξU p.ls f:Nat) from by rw[HM.out,←HTA.out,show m3=k by omega])
    go_wp2_with fail
    go_ret
    exact⟨by rw[←HE.out];rfl,HBW.out⟩
theorem l9Along_any (v vf:Value) (p:Pln) (st:Int) (fb:List Int) (w:World) (h:PlnR w v p) (hf:Rd w vf fb) (hlo:∀x∈p.ls,LgO p.n.fs.length x) (hfb:∀f∈fb,0≤f):
 Calls Tryz.prog 151 #[v,.agg #[.int .i64 st,vf]] w fun e w'=>e= .returned (.int .i64 (ξP p.ls fb:Nat))∧Below w.heap.size w w':=by
 have HU:=ξh (fun f w' (hb:Below w.heap.size w w')=>ξc5 v p f w' (h.behind hb) hlo)
 obtain⟨u1,u2,u3,rfl,r1,r2,r3,hsm⟩:=h
 have hnet:NetR w (.agg #[u1,u2]) p.n:=⟨u1,u2,rfl,r1,r2,hsm⟩
 obtain⟨⟨a1,m1,c1,rfl⟩,a2,m2,c2,rfl⟩:=ξF hnet
 obtain⟨a3,m3,c3,rfl,HN3,hc3,hm3,-⟩:=ξa1 r3
 obtain⟨af,cf,nf,HNF,rfl,hcf,hnf,haf⟩:=hf.opn
 have HA:=ξh haf
 have HST:=ξh (fun k (hk:k<nf)=>@ξcw p.ls fb k (by rw[HNF.out];exact hk))
 have HLT:=ξh (fun k=>show ξP p.ls (fb.take k)<16777216 from ξbg (fun i=>ξaA hlo i) _ 0 (fun f hf=>hfb f (List.mem_of_mem_take hf)) (by decide))
 have HUL:=ξh (fun i=>ξaA hlo i)
 have HTA:=ξh (show ξP p.ls (fb.take nf)=ξP p.ls fb from by rw[List.take_of_length_le (Nat.le_of_eq HNF.out)])
 clear haf r1 r2 r3 hsm hnet hf hlo hfb
 obtain⟨bx,bc,blt,-⟩:=ξD w #[.slice a1 m1 c1,.slice a2 m2 c2,.slice a3 m3 c3] 75
 have q0:=bc 0 _ rfl
 have q1:=bc 1 _ rfl
 have q2:=bc 2 _ rfl
 have HBX:=ξh bx
 clear bx bc
 generalize hw1:w.alloc (.cells #[.slice a1 m1 c1,.slice a2 m2 c2,.slice a3 m3 c3] 75)=w1 at *
 have hz1:w1.heap.size=w.heap.size+1:=by rw[←hw1];simp
 obtain⟨bx,bc,blt3,-⟩:=ξD w1 #[.int .i64 st,.slice af nf cf] 82
 have p1:=bc 1 _ rfl
 have q0:=(bx.cell (p:=⟨w.heap.size,0,none⟩) blt).trans q0
 have q1:=(bx.cell (p:=⟨w.heap.size,1,none⟩) blt).trans q1
 have q2:=(bx.cell (p:=⟨w.heap.size,2,none⟩) blt).trans q2
 have HBY:=ξh (HBX.trans (bx.mono HBX.size))
 have hbl:w.heap.size<(w1.alloc (.cells #[.int .i64 st,.slice af nf cf] 82)).heap.size:=by simp;omega
 clear bx bc
 go_enter Tryz.func151,Tryz.ntmps151
 go_wp2_with fail
 generalize w1.alloc (.cells #[.int .i64 st,.slice af nf cf] 82)=w2 at *
 rw[hz1] at blt3 p1
 clear hw1
 go_loopw [5,6] (fun s5 i wr=>∃(k:Nat) (m:Int),k≤nf∧i= .int .i64 k∧s5= .int .i64 m∧Hid (m=(ξP p.ls (fb.take k):Nat))∧Hid (Below w2.heap.size w2 wr)) (fun _ i _=>nf-(intOf i).toNat)
 case atStart=>exact⟨0,0,ξu _,rfl,rfl,rfl,ξb _ _⟩
 case round=>
  obtain⟨k,m,hk,rfl,rfl,HM,HB⟩:=hrel
  have t0:=(HB.cell (p:=⟨w.heap.size,0,none⟩) hbl).trans q0
  have t1:=(HB.cell (p:=⟨w.heap.size,1,none⟩) hbl).trans q1
  have t2:=(HB.cell (p:=⟨w.heap.size,2,none⟩) hbl).trans q2
  have s1:=(HB.cell (p:=⟨w.heap.size+1,1,none⟩) blt3).trans p1
  have HBW:=ξh (HBY.trans (HB.mono HBY.size))
  by_cases hlt:k<nf
  · have hltI:(k:Int)<(nf:Int):=by omega
    have hwk:IntKind.i64.wrap ((k:Int)+1)=(k:Int)+1:=ξi _ (by omega)
    obtain⟨b,off,rfl,hcs⟩:=HA.out (by omega)
    obtain⟨hbs,hcs⟩:=hcs
    have hb2:=(HBW.size)
    have hkl:w.heap.size<wr.heap.size:=ξq hbl HB.size
    have x1:=(HBW.cell (p:=⟨b,off+k,none⟩) hbs).trans (hcs k hlt)
    have HSK:=ξh (HST.out k hlt)
    generalize fb[k]?.getD 0=f at *
    have HOR:=ξh (show bits .or .i64 m (ξU p.ls f:Nat)=((ξP p.ls (fb.take k) ||| ξU p.ls f:Nat):Int) from by rw[HM.out];exact ξb6 (HLT.out k) (HUL.out f))
    have HS:=ξh (fun(w':World) (hb:Below wr.heap.size wr w')=>show Below wr.heap.size wr w'∧w'.cell? ⟨w.heap.size,0,none⟩=some (.slice a1 m1 c1)∧w'.cell? ⟨w.heap.size,1,none⟩=some (.slice a2 m2 c2)∧w'.cell? ⟨w.heap.size,2,none⟩=some (.slice a3 m3 c3)∧w'.cell? ⟨w.heap.size+1,1,none⟩=some (.slice (some ⟨b,off,none⟩) nf cf)∧w'.cell? ⟨b,off+k,none⟩=some (.int .i64 f) from
     ⟨hb,(hb.cell (p:=⟨w.heap.size,0,none⟩) hkl).trans t0,(hb.cell (p:=⟨w.heap.size,1,none⟩) hkl).trans t1,(hb.cell (p:=⟨w.heap.size,2,none⟩) hkl).trans t2,(hb.cell (p:=⟨w.heap.size+1,1,none⟩) (ξq blt3 HB.size)).trans s1,(hb.cell (p:=⟨b,off+k,none⟩) (ξq hbs HBW.size)).trans x1⟩)
    have HUR:=ξh (fun w' (hb:Below wr.heap.size wr w')=>HU.out f w' (HBW.trans (hb.mono HBW.size)))
    have hb0:=(ξb wr.heap.size wr).drew
    go_wp2_with fail
    clear t0 t1 t2 s1 x1 hcs
    go_region_held3 (fun w'=>Below wr.heap.size wr w'∧w'.cell? ⟨w.heap.size,0,none⟩=some (.slice a1 m1 c1)∧w'.cell? ⟨w.heap.size,1,none⟩=some (.slice a2 m2 c2)∧w'.cell? ⟨w.heap.size,2,none⟩=some (.slice a3 m3 c3)∧w'.cell? ⟨w.heap.size+1,1,none⟩=some (.slice (some ⟨b,off,none⟩) nf cf)∧w'.cell? ⟨b,off+k,none⟩=some (.int .i64 f))
     (first | exact HS.out _ (by assumption))
     (first | (go_at_call 84;(with_reducible refine(HUR.out _ hb0).mono ?_);rintro e w7 ⟨rfl,b7⟩;have B7:=hb0.trans (b7.mono hb0.size)))
    all_goals
     have HB7:=ξh (HB.trans (B7.mono HB.size))
     clear b7 B7
     go_wp2_with fail
     go_roundw
     case rel=>exact⟨k+1,_,by omega,by go_num,rfl,by rw[HSK.out];exact HOR.out,HB7.out⟩
     case measure=>simp[intOf];omega
  · have hltI:¬(k:Int)<(nf:Int):=by omega
    have HE:=ξh (show m=(ξP p.ls fb:Nat) from by rw[HM.out,←HTA.out,show nf=k by omega])
    go_wp2_with fail
    go_ret
    exact⟨by rw[←HE.out];rfl,HBW.out⟩
theorem l8FitsE_any (u c:Nat) (w:World) (hu:u<16777216) (hc1:1≤c) (hc:c≤24):
 Calls Tryz.prog 150 #[.int .i64 u,.int .i64 c] w fun e w'=>∃v',e= .returned v'∧Own w' w.heap.size v' (posI u c (25-c))∧Below w.heap.size w w':=by
 have HM:=ξh (fun k w' (hk:k+c≤24)=>ξbo k c w' hk)
 have HAND:=ξh (fun k (hk:k+c≤24)=>bits_and hu (ξbv k c hk))
 have HY:=ξh (fun k h=>@posI_yes u c k h)
 have HN:=ξh (fun k h=>@posI_no u c k h)
 have HL:=ξh (posI_len u c)
 have HO0:=ξh (show Own (w.alloc (.cells #[] 3)) w.heap.size (.slice (some ⟨w.heap.size,0,none⟩) 0 0) (posI u c 0) from ξaG w 3)
 have HB0:=ξh ((ξb w.heap.size w).alloc (ξr _) (.cells #[] 3))
 have hui:(u:Int)<16777216:=by omega
 have hci:(1:Int)≤c∧(c:Int)≤24:=by omega
 clear hu
 go_enter Tryz.func150,Tryz.ntmps150
 go_wp2
 go_loopw [5,6] (fun s5 i wr=>∃k:Nat,k+c≤25∧i= .int .i64 k∧Hid (Own wr w.heap.size s5 (posI u c k))∧Hid (Below w.heap.size w wr)) (fun _ i _=>25-(intOf i).toNat)
 case atStart=>exact⟨0,by omega,rfl,HO0.out,HB0.out⟩
 case round=>
  obtain⟨k,hk,rfl,HO,HB⟩:=hrel
  obtain⟨aR,cR,nR,HNR,rfl,hcR,hnR,-⟩:=HO.rd.opn
  by_cases hlt:k+c≤24
  · have hltI:(k:Int)+(c:Int)≤24:=by omega
    have hb:=HAND.out k hlt
    have HM1:=ξh (HM.out k wr hlt)
    have HY1:=ξh (HY.out k)
    have HN1:=ξh (HN.out k)
    have HLO:=ξh (show(posI u c k).length≤4000000 by have:=HL.out k;omega)
    generalize posI u c k=out at *
    generalize u &&& mskN k c=r at *
    generalize mskN k c=mk at *
    by_cases hr:r=0
    · subst hr
      have HE:=ξh (HY1.out rfl)
      have hb0:bits .and .i64 (u:Int) (mk:Int)=0:=hb
      clear hb
      go_wp2_with (first
       | (go_at_call 132;refine HM1.mono ?_;rintro e w4 ⟨rfl,b4⟩;have HB4:=ξh (HB.trans (b4.mono HB.size));have HO4:=ξh (HO.belowAll b4);clear b4)
       | (at_builtin;go_loud (refine ξa6 rfl (.tmp 21) (.tmp 23) 58 rfl Tryz.underlying58 Tryz.infoI w.heap.size (.slice aR nR cR) out rfl HO4.out rfl HLO.out HB4.size ?_);intro v5 w5 o5 g5 l5;have HO5:=ξh o5;have HB5:=ξh (HB4.grown g5 HB4.size (fun q hq=>(HO4.lt q hq).1));clear o5 g5 l5))
      go_roundw
      case rel=>exact⟨k+1,by omega,by go_num,by rw[HE.out];exact HO5.out,HB5.out⟩
      case measure=>simp[intOf];omega
    · have HE:=ξh (HN1.out hr)
      have hr0:((r:Int)==0)=false:=by simpa using(by omega:(r:Int)≠0)
      go_wp2_with (go_at_call 132;refine HM1.mono ?_;rintro e w4 ⟨rfl,b4⟩;have HB4:=ξh (HB.trans (b4.mono HB.size));have HO4:=ξh (HO.belowAll b4);clear b4)
      go_roundw
      case rel=>exact⟨k+1,by omega,by go_num,by rw[HE.out];exact HO4.out,HB4.out⟩
      case measure=>simp[intOf];omega
  · have hltI:¬(k:Int)+(c:Int)≤24:=by omega
    obtain rfl:k=25-c:=by omega
    go_wp2
    go_ret
    exact⟨_,rfl,HO.out,HB.out⟩
end Go.Proofs.YtofcicomhnkocaaGreat
