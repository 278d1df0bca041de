/- Joined: XUsb XCnp XPos XFms. -/
import Derived.Test.YtofcicomhnkocaaGreatBp14
import Derived.Test.YtofcicomhnkocaaGreatBp15
import Derived.Test.YtofcicomhnkocaaGreatBp18
import Derived.Test.YtofcicomhnkocaaGreatBp11
import Derived.Test.YtofcicomhnkocaaGreatBp12
import Derived.Test.YtofcicomhnkocaaGreatBp08
import Derived.Test.YtofcicomhnkocaaGreatBp01
import Derived.Test.YtofcicomhnkocaaGreatBp06
set_option linter.unusedVariables false
namespace Go.Proofs.YtofcicomhnkocaaGreat
set_option maxHeartbeats 12800000
open Go.RowKit Go.Sort
set_option maxRecDepth 100000
def ChoR (w:World) (base g cap:Nat) (st:Int) (L:List Chc):Prop:=w.ownsRow base 189 3 (.slice (some ⟨g,0,none⟩) L.length cap) L.length (L.flatMap encC)∧ ∀x∈L,x.st=st∧Rd w (.slice x.a x.fb.length x.c) x.fb∧ ∀q,(Value.slice x.a x.fb.length x.c).ownBlock=some q→q≠g
def usC (x:Chc):List Int × Int:=(x.fb,(x.ct:Int))
def UsaP (n:Net) (fs:List Fmt) (d:Dem) (w:World) (e:Ending) (w':World):Prop:=Below w.heap.size w w'∧((failU n d=true∧e= .returned (.tuple #[.slice none 0 0,.bool false]))∨
 (failU n d=false∧ ∃g cap L,e= .returned (.tuple #[.slice (some ⟨g,0,none⟩) L.length cap,.bool true])∧ChoR w' w.heap.size g cap d.a L∧L.map usC=usaR n fs d))
def usaK (n:Net) (fs:List Fmt) (d:Dem) (rs:List (List Int)) (k:Nat):List (List Int × Int):=(rs.take k).filterMap fun fb=>if 0<slI fs (lenR n fb) d.r then some (fb,slI fs (lenR n fb) d.r) else none
theorem usaK_step {n:Net} {fs:List Fmt} {d:Dem} {rs:List (List Int)} {k:Nat} (hk:k<rs.length):usaK n fs d rs (k+1)=usaK n fs d rs k++(if 0<slI fs (lenR n (rs[k]?.getD [])) d.r then[(rs[k]?.getD [],slI fs (lenR n (rs[k]?.getD [])) d.r)] else[]):=by
 unfold usaK
 rw[List.take_add_one,List.filterMap_append,List.getElem?_eq_getElem hk]
 simp only[Option.toList_some,Option.getD_some]
 congr 1
 by_cases h:0<slI fs (lenR n rs[k]) d.r
 · rw[if_pos h];simp[h]
 · rw[if_neg h];simp[h]
theorem usaK_all (n:Net) (fs:List Fmt) (d:Dem):usaK n fs d (allR n d.a d.b) (allR n d.a d.b).length=usaR n fs d:=by
 unfold usaK usaR
 rw[List.take_length]
theorem Tryz.infoCho:(Tryz.prog.info? 189).map (fun i=>(i.zero,i.size,i.bytes))=some (some (.agg #[.int .i64 0,.slice none 0 0,.int .i64 0]),3,40):=by kernel_rfl
theorem ChoR.below {w w':World} {base g cap:Nat} {st:Int} {L:List Chc} (h:ChoR w base g cap st L) (hb:Below w.heap.size w w'):ChoR w' base g cap st L:=
 ⟨owr_below h.1 hb,fun x hx=>⟨(h.2 x hx).1,(h.2 x hx).2.1.belowAll hb,(h.2 x hx).2.2⟩⟩
theorem rcs_at {st:Int} {ps:List (List Int × Value)} {k:Nat} (hk:k<ps.length):(rcs st ps)[k*2]?= some (.int .i64 st)∧(rcs st ps)[k*2+1]?= some (ps[k]?.getD ([],.slice none 0 0)).2:=by
 have key:=fun r (h:r<2)=>flatv_at (F:=fun p:List Int × Value=>[Value.int .i64 st,p.2]) (k:=2) (fun _=>rfl) ps k r h
 have h0:=key 0 (by omega)
 have h1:=key 1 (by omega)
 unfold rcs
 rw[Nat.add_zero] at h0
 rw[h0,h1,List.getElem?_eq_getElem hk]
 exact⟨rfl,rfl⟩
theorem ChoR.push {w w3:World} {base g cap:Nat} {st:Int} {L:List Chc} {v':Value} (h:ChoR w base g cap st L) (x:Chc) (hst:x.st=st) (hx:Rd w (.slice x.a x.fb.length x.c) x.fb) (hxg:∀q,(Value.slice x.a x.fb.length x.c).ownBlock=some q→q≠g) (W2:World) (hb:Below w.heap.size w W2)
 (hr:w3.ownsRow base 189 3 v' (L.length+1) (L.flatMap encC++encC x)) (hg:W2.grownBy w3 (some g)) (hl:v'.ownBlock=some g∨v'.ownBlock=some W2.heap.size):
 ∃g' cap',v'= .slice (some ⟨g',0,none⟩) (L++[x]).length cap'∧ChoR w3 base g' cap' st (L++[x]):=by
 have hlen:(L++[x]).length=L.length+1:=by simp
 rcases hr.2 with ⟨rfl,e0⟩ | ⟨g',cap',cur,rfl,q1,q2,q3,q4,q5,q6⟩
 · omega
 · refine⟨g',cap',by rw[hlen],?_,fun y hy=> ?_⟩
   · rw[hlen,List.flatMap_append]
     have:[x].flatMap encC=encC x:=by simp
     rw[this];exact hr
   · have key:∀y:Chc,Rd w (.slice y.a y.fb.length y.c) y.fb→(∀q,(Value.slice y.a y.fb.length y.c).ownBlock=some q→q≠g)→Rd w3 (.slice y.a y.fb.length y.c) y.fb∧ ∀q,(Value.slice y.a y.fb.length y.c).ownBlock=some q→q≠g':=fun y h1 h2=>by
      refine⟨?_,fun q hq e=> ?_⟩
      · have h1':=h1.belowAll hb
        rcases h1' with h | ⟨b,off,c',hv,k1,k2,k3,k4⟩
        · exact .inl h
        · exact .inr ⟨b,off,c',hv,k1,k2,Nat.lt_of_lt_of_le k3 hg.size,fun j hj=>by rw[World.cell?_of_block (hg.block b k3 (fun e=>h2 b (by rw[hv];rfl) (Option.some.inj e)))];exact k4 j hj⟩
      · subst e
        rcases hl with hl | hl
        · have:q=g:=by simpa[Value.ownBlock] using hl
          exact h2 q hq this
        · have h3:=h1.lt q hq
          have:q=W2.heap.size:=by simpa[Value.ownBlock] using hl
          have:=hb.size
          omega
     rcases List.mem_append.1 hy with hy | hy
     · obtain⟨k1,k2,k3⟩:=h.2 y hy
       exact⟨k1,(key y k2 k3).1,(key y k2 k3).2⟩
     · rw[List.mem_singleton.1 hy]
       exact⟨hst,(key x hx hxg).1,(key x hx hxg).2⟩
theorem demRd (w:World) (d:Dem):Rdt (w.alloc (.cells #[.int .i64 d.a,.int .i64 d.b,.int .i64 d.r,.int .i64 d.c] 53)) (flt 4 demE [d]) (.slice (some ⟨w.heap.size,0,none⟩) 1 1):=by
 have h:(w.alloc (.cells #[.int .i64 d.a,.int .i64 d.b,.int .i64 d.r,.int .i64 d.c] 53)).ownsRow w.heap.size 53 4 (.slice (some ⟨w.heap.size,0,none⟩) 1 1) 1 ([d].flatMap demE):=
  World.ownsRow_lit (base:=w.heap.size) (e:=53) (size:=4) w #[.int .i64 d.a,.int .i64 d.b,.int .i64 d.r,.int .i64 d.c] 1 (Nat.le_refl _) (by unfold maxLen;omega) rfl
 exact(flt_of_row' (zs:=[d]) h).choose_spec.1.rd
theorem rts_cells {w:World} {base m c:Nat} {a:Option Addr} {st:Int} {ps:List (List Int × Value)} (h:w.ownsRow base 82 2 (.slice a m c) ps.length (rcs st ps)) (hm:m=ps.length) {k:Nat} (hk:k<m):
 ∃gr,a=some ⟨gr,0,none⟩∧gr<w.heap.size∧w.cell? ⟨gr,k*2,none⟩=some (.int .i64 st)∧w.cell? ⟨gr,k*2+1,none⟩=some (ps[k]?.getD ([],.slice none 0 0)).2:=by
 obtain⟨h0,h1⟩:=rcs_at (st:=st) (ps:=ps) (k:=k) (by omega)
 rcases h.2 with ⟨e,e0⟩ | ⟨g,cap,cur,e,q1,q2,q3,q4,q5,q6⟩
 · omega
 · simp only[Value.slice.injEq] at e
   obtain⟨rfl,-,-⟩:=e
   have ht:(cur.toList.drop 0).take (ps.length*2)=rcs st ps:=by rw[List.drop_zero];exact q6
   have c0:=row_cell q2 ht h0 h.1
   have c1:=row_cell q2 ht h1 h.1
   rw[Nat.zero_add] at c0 c1
   exact⟨g,rfl,(Array.getElem?_eq_some_iff.1 q2).1,c0,c1⟩
theorem usable_any (v vf:Value) (n:Net) (fs:List Fmt) (d:Dem) (w:World) (h:NetR w v n) (hf:Rdt w (flt 2 fmE fs) vf) (hn:netOk n=true) (hfo:fmOk fs=true) (hd:demOk d n.ns.length=true):
 Calls Tryz.prog 156 #[v,vf,demV d] w (UsaP n fs d w):=by
 obtain⟨NP,hNP⟩:∃NP,NP=UsaP n fs d w:=⟨_,rfl⟩
 rw[←hNP]
 have hdm:=hd
 unfold demOk at hdm
 simp only[Bool.and_eq_true,bne_iff_ne,ne_eq] at hdm
 obtain⟨⟨⟨⟨hda,hdb⟩,hdn⟩,hdr⟩,hdc⟩:=hdm
 have hrr:=inB_true hdr
 have HVF:=Lib.hid (fun w' (hb:Below w.heap.size w w')=>implFormats_any vf fs w' (hf.behind hb))
 rw[hfo] at HVF
 have HVD:=Lib.hid (fun u w' (hb:Below w.heap.size w w') hg=>validDemand_any v u n d w' (h.behind hb) hn hd hg)
 have HAR:=Lib.hid (fun w' (hb:Below w.heap.size w w')=>allRoutes_any v n d.a d.b w' (h.behind hb) hn hda hdb hdn)
 have HSF:=Lib.hid (fun len w' (hb:Below w.heap.size w w') (hl:0≤len)=>slotsFor_any vf fs len d.r w' (hf.behind hb) hfo hl hrr.1 hrr.2)
 have HFU:=Lib.hid (show failU n d=decide (200<(allR n d.a d.b).length) from rfl)
 have HIN:=Lib.hid (fun r (hr:r∈allR n d.a d.b)=>show InNet n r∧r.length≤9 from⟨extR_inn (allR_mem hr),by
  have h9:=extR_len9 _ _ _ _ r (allR_mem hr)
  have:=netOk_len hn
  rw[List.length_nil] at h9;omega⟩)
 have HLN:=Lib.hid (lenOk_of hn)
 obtain⟨af,mf,cf,rfl,-,-,-,-⟩:=flt_opn (m:=2) (enc:=fmE) (fun _=>rfl) (by omega) nilFm hf
 obtain⟨u1,u2,rfl,r1,r2,hsm⟩:=h
 have HLE:=Lib.hid (fun u (fb:List Int) w' (hb:Below w.heap.size w w') (hr:Rd w' u fb) hl hi=>lengthOf_any u1 u2 u n d.a fb w' (r2.behind hb) (Rdt.slice (show Rdt w (.rows _ _) u1 from r1)) hr hl hi HLN.out)
 obtain⟨a1,m1,c1,rfl⟩:=Rdt.slice (show Rdt w (.rows _ _) u1 from r1)
 obtain⟨a2,m2,c2,rfl⟩:=Rdt.slice (show Rdt w (.rows _ _) u2 from r2)
 have HDR:=Lib.hid (fun w'=>demRd w' d)
 have HAL:=Lib.hid (usaK_all n fs d)
 have HST:=Lib.hid (fun rs k hk=>usaK_step (n:=n) (fs:=fs) (d:=d) (rs:=rs) (k:=k) hk)
 have HSL:=Lib.hid (fun len=>slI_le fs len d.r)
 obtain⟨da,db,dr,dc⟩:=d
 have b1:=(Below.refl w.heap.size w).alloc (Nat.le_refl _) (.cells #[.slice a1 m1 c1,.slice a2 m2 c2] 35)
 have b2:=b1.alloc b1.size (.cells #[.int .i64 da,.int .i64 db,.int .i64 dr,.int .i64 dc] 53)
 have k0:=heap_alloc_new w (.cells #[.slice a1 m1 c1,.slice a2 m2 c2] 35)
 have k1:=heap_alloc_new (w.alloc (.cells #[.slice a1 m1 c1,.slice a2 m2 c2] 35)) (.cells #[.int .i64 da,.int .i64 db,.int .i64 dr,.int .i64 dc] 53)
 have k0':=(heap_alloc_old _ (.cells #[.int .i64 da,.int .i64 db,.int .i64 dr,.int .i64 dc] 53) (Array.getElem?_eq_some_iff.1 k0).1).trans k0
 rw[show(w.alloc (.cells #[.slice a1 m1 c1,.slice a2 m2 c2] 35)).heap.size=w.heap.size+1 by simp] at k1
 have HB2:=Lib.hid b2
 have K0:=Lib.hid k0'
 have K1:=Lib.hid k1
 have HNP:=Lib.hid hNP
 clear r1 r2 hsm hf hn hfo hd hda hdb hdn hdr hdc b1 b2 k0 k0' k1 hNP
 dsimp only at *
 unfold demV
 go_enter Tryz.func156,Tryz.ntmps156
 go_wp2_with fail
 generalize (w.alloc (.cells #[.slice a1 m1 c1,.slice a2 m2 c2] 35)).alloc (.cells #[.int .i64 da,.int .i64 db,.int .i64 dr,.int .i64 dc] 53)=w2 at *
 have HQ:=Lib.hid (fun(w':World) (hb:Below w2.heap.size w2 w')=>show w'.cell? ⟨w.heap.size,0,none⟩=some (.slice a1 m1 c1)∧w'.cell? ⟨w.heap.size,1,none⟩=some (.slice a2 m2 c2)∧w'.cell? ⟨w.heap.size+1,0,none⟩=some (.int .i64 da)∧w'.cell? ⟨w.heap.size+1,1,none⟩=some (.int .i64 db)∧w'.cell? ⟨w.heap.size+1,2,none⟩=some (.int .i64 dr)∧w'.cell? ⟨w.heap.size+1,3,none⟩=some (.int .i64 dc) from
  have h0:=kept_o' K0.out hb
  have h1:=kept_o' K1.out hb
  ⟨blkc h0 rfl,blkc h0 rfl,blkc h1 rfl,blkc h1 rfl,blkc h1 rfl,blkc h1 rfl⟩)
 refine(HVF.out _ HB2.out).mono ?_
 rintro e w3 ⟨rfl,b3⟩
 have hz2:=HB2.out.size
 obtain⟨x0,x1,y0,y1,y2,y3⟩:=HQ.out _ b3
 have HB3:=Lib.hid (HB2.out.trans (b3.mono hz2))
 have HB3':=Lib.hid b3
 clear b3
 go_wp2_with fail
 refine(HVD.out _ _ (HB3.out.alloc HB3.out.size _) (HDR.out w3)).mono ?_
 rintro e w4 ⟨rfl,b4⟩
 have HB4':=Lib.hid (HB3'.out.trans (((Below.refl w3.heap.size w3).alloc (Nat.le_refl _) (.cells #[.int .i64 da,.int .i64 db,.int .i64 dr,.int .i64 dc] 53)).trans (b4.mono (by simp)) |>.mono HB3'.out.size))
 have HB4:=Lib.hid (HB2.out.trans (HB4'.out.mono hz2))
 clear b4 x0 x1 y0 y1 y2 y3
 obtain⟨x0,x1,y0,y1,y2,y3⟩:=HQ.out _ HB4'.out
 go_wp2_with fail
 refine(HAR.out _ HB4.out).mono ?_
 rintro e w5 ⟨b5,hc⟩
 have HB5':=Lib.hid (HB4'.out.trans (b5.mono HB4'.out.size))
 have HB5:=Lib.hid (HB4.out.trans (b5.mono HB4.out.size))
 clear b5 x0 x1 y0 y1 y2 y3
 rcases hc with ⟨h2,rfl⟩ | ⟨h2,va,ps,rfl,hrow,hrd,hps⟩
 · have HFT:=Lib.hid (HFU.out.trans (decide_eq_true h2))
   clear h2
   go_wp2
   rw[HNP.out]
   exact⟨HB5.out,.inl ⟨HFT.out,rfl⟩⟩
 have HFT:=Lib.hid (HFU.out.trans (decide_eq_false (by omega)))
 obtain⟨a4,c4,rfl⟩:=rowf hrow
 have hpl:ps.length=(allR n da db).length:=by rw[←hps,List.length_map]
 obtain⟨m,hm⟩:∃m,m=ps.length:=⟨_,rfl⟩
 have hm2:m≤200:=by omega
 have HRC:=Lib.hid (fun k (hk:k<m)=>rts_cells hrow rfl (by omega:k<ps.length))
 have HEL:=Lib.hid (fun k (hk:k<m)=>show Rd w5 (ps[k]?.getD ([],.slice none 0 0)).2 ((allR n da db)[k]?.getD [])∧((allR n da db)[k]?.getD [])∈allR n da db from by
  have h1:k<ps.length:=by omega
  have h2:k<(allR n da db).length:=by omega
  rw[List.getElem?_eq_getElem h1,List.getElem?_eq_getElem h2,Option.getD_some,Option.getD_some]
  refine⟨?_,List.getElem_mem h2⟩
  have h3:(ps.map Prod.fst)[k]?= (allR n da db)[k]?:=by rw[hps]
  rw[List.getElem?_map,List.getElem?_eq_getElem h1,List.getElem?_eq_getElem h2] at h3
  have h4:ps[k].1=(allR n da db)[k]:=by simpa using h3
  rw[←h4];exact hrd _ (List.getElem_mem h1))
 have HRL:=Lib.hid (show(allR n da db).length=m by omega)
 rw[←hm]
 clear hrow hrd hps hpl h2 hm
 generalize allR n da db=rs at *
 rw[HRL.out] at HAL
 have HST2:=Lib.hid (fun k (hk:k<m)=>HST.out rs k (by rw[HRL.out];exact hk))
 go_upto_region 7 with fail
 have hz5:=HB5.out.size
 have HL0:=Lib.hid (show ChoR (w5.alloc (.cells #[] 189)) w5.heap.size w5.heap.size 0 da []∧([]:List Chc).map usC=usaK n fs ⟨da,db,dr,dc⟩ rs 0 from⟨⟨World.ownsRow_made w5 #[] 0 (Nat.le_refl _) (Nat.zero_le _) (by simp),fun x hx=>by cases hx⟩,rfl⟩)
 have HB0:=Lib.hid (show Below w5.heap.size w5 (w5.alloc (.cells #[] 189)) from(Below.refl _ _).alloc (Nat.le_refl _) _)
 go_wp2
 go_loopw [10,12,13,14,39] (fun so _ _ _ si wr=>∃(k g cap:Nat) (L:List Chc),k≤m∧L.length≤k∧si= .int .i64 k∧so= .slice (some ⟨g,0,none⟩) L.length cap∧Hid (ChoR wr w5.heap.size g cap da L∧L.map usC=usaK n fs ⟨da,db,dr,dc⟩ rs k)∧Hid (Below w5.heap.size w5 wr)) (fun _ _ _ _ si _=>m-(intOf si).toNat)
 case atStart=>exact⟨0,w5.heap.size,0,[],Nat.zero_le _,Nat.le_refl _,rfl,rfl,HL0,HB0⟩
 case round=>
  obtain⟨k,g,cap,L,hk,hLk,rfl,rfl,HC,HB⟩:=hrel
  by_cases hlt:k<m
  · have hltI:(k:Int)<(m:Int):=by omega
    obtain⟨gr,rfl,hgl,hc0,hc1⟩:=HRC.out k hlt
    obtain⟨hrd,hmem⟩:=HEL.out k hlt
    have HSK:=Lib.hid (HST2.out k hlt)
    obtain⟨hin,hl9⟩:=HIN.out _ hmem
    generalize (ps[k]?.getD ([],.slice none 0 0)).2=vk at *
    generalize rs[k]?.getD []=fb at *
    obtain⟨ak,ck,nk,HNK,rfl,-,hnk,-⟩:=hrd.opn
    have e0:=(HB.out.cell (p:=⟨gr,k*2,none⟩) hgl).trans hc0
    have e1:=(HB.out.cell (p:=⟨gr,k*2+1,none⟩) hgl).trans hc1
    have HBR:=Lib.hid (HB5'.out.trans (HB.out.mono HB5'.out.size))
    have HBW:=Lib.hid (HB5.out.trans (HB.out.mono hz5))
    obtain⟨by',bd,bmt,-⟩:=box_facts wr #[.int .i64 da,.slice ak nk ck] 82
    have z0:=bd 0 _ rfl
    have z1:=bd 1 _ rfl
    have HBY:=Lib.hid (HBR.out.trans (by'.mono HBR.out.size))
    have HBZ:=Lib.hid (HBW.out.trans (by'.mono HBW.out.size))
    have HBD:=Lib.hid by'
    have HRK:=Lib.hid ((hrd.belowAll HB.out).belowAll by')
    have HL2:=Lib.hid (fun w' (hb:Below w.heap.size w w') (hr:Rd w' (.slice ak nk ck) fb)=>HLE.out (.slice ak nk ck) fb w' hb hr (by omega) hin)
    have HS2:=Lib.hid (fun w' (hb:Below w.heap.size w w')=>HSF.out (lenR n fb) w' hb (lenR_bd HLN.out fb).1)
    have hsl:=HSL.out (lenR n fb)
    have HRD0:=Lib.hid hrd
    have HNB:=Lib.hid (show nk≤1000 by rw[←HNK.out];omega)
    have HGE:=Lib.hid (show∀q,(Value.slice ak nk ck).ownBlock=some q→q≠g from fun q hq e=>by
     have h1:=hrd.lt q hq
     have h2:=(HC.out.1.1.lt g rfl).1
     omega)
    clear hc0 hc1 hgl hrd hmem hin hl9 bd by' bmt
    generalize slI fs (lenR n fb) dr=sl at *
    generalize lenR n fb=ln at *
    go_upto_region 10 with fail
    generalize wr.alloc (.cells #[.int .i64 da,.slice ak nk ck] 82)=w6 at *
    obtain⟨x0,x1,y0,y1,y2,y3⟩:=HQ.out _ HBY.out
    have j0:=rg x0
    have j1:=rg x1
    have j2:=rg y2
    have k0:=rg z0
    have k1:=rg z1
    have HL3:=Lib.hid (fun d os=>HL2.out (grow (redrawn w6 d) os) (HBZ.out.trans ((below_regrown w6 d os).mono HBZ.out.size)) (HRK.out.belowAll (below_regrown w6 d os)))
    have HS3:=Lib.hid (fun d os=>HS2.out (grow (redrawn w6 d) os) (HBZ.out.trans ((below_regrown w6 d os).mono HBZ.out.size)))
    clear x0 x1 y0 y1 y2 y3 e0 e1
    refine wp_region_quiet_below (by kernel_rfl) (by kernel_rfl) ?_
    repeat (go_big_quiet_step (first | (go_at_call 191;exact Calls.regrown_of ((HL3.out _ _).mono fun _ _ ⟨he,hg⟩=>⟨he,hg.below⟩)) | (go_at_call 190;exact Calls.regrown_of (HS3.out _ _))))
    refine wpQuiet_nil ?_
    rintro _ ⟨⟨dq,osq⟩,rfl⟩
    have k0':=k0 dq osq
    have k1':=k1 dq osq
    have HB7:=Lib.hid (HBD.out.trans ((below_regrown w6 dq osq).mono HBD.out.size))
    clear j0 j1 j2 k0 k1 HL3 HS3 HL2 HS2
    dsimp only
    generalize grow (redrawn w6 dq) osq=w7 at *
    have hb7:wr.heap.size≤w7.heap.size:=HB7.out.size
    by_cases hpos:0<sl
    · obtain⟨ct,hcs⟩:=Int.eq_ofNat_of_zero_le (Int.le_of_lt hpos)
      have hpd:decide (0<sl)=true:=decide_eq_true hpos
      have HE1:=Lib.hid (show usaK n fs ⟨da,db,dr,dc⟩ rs (k+1)=usaK n fs ⟨da,db,dr,dc⟩ rs k++[(fb,sl)] from HSK.out.trans (by rw[if_pos hpos]))
      have hct:ct≤24:=by omega
      have HCS:=Lib.hid hcs
      obtain⟨x,hx⟩:∃x:Chc,x.st=da∧x.a=ak∧x.c=ck∧x.fb=fb∧(x.ct:Int)=sl:=⟨⟨da,ak,ck,fb,ct,by rw[HNK.out];exact HNB.out,hct⟩,rfl,rfl,rfl,rfl,hcs.symm⟩
      have HXX:=Lib.hid hx
      have HXS:=Lib.hid (show Value.slice x.a x.fb.length x.c= .slice ak nk ck from by rw[hx.2.1,hx.2.2.1,hx.2.2.2.1,HNK.out])
      have HXE:=Lib.hid (show encC x=[.int .i64 da,.slice ak nk ck,.int .i64 sl] from by unfold encC;rw[HXS.out,hx.1,hx.2.2.2.2])
      clear hcs hx
      have HB8:=Lib.hid (show Below wr.heap.size wr (w7.alloc (.cells #[.int .i64 da,.slice ak nk ck,.int .i64 sl] 189)) from HB7.out.alloc HB7.out.size _)
      have HR8:=Lib.hid (show(w7.alloc (.cells #[.int .i64 da,.slice ak nk ck,.int .i64 sl] 189)).ownsRow w5.heap.size 189 3 (.slice (some ⟨g,0,none⟩) L.length cap) L.length (L.flatMap encC) from owr_below HC.out.1.1 HB8.out)
      have hg5:w5.heap.size≤w7.heap.size:=by have:=HB.out.size;omega
      go_wp2_with (at_builtin;refine wpList_catG rfl (.tmp 54) (.tmp 58) 184 189 rfl Tryz.underlying184 (.agg #[.int .i64 0,.slice none 0 0,.int .i64 0]) 3 40 Tryz.infoCho rfl (by decide) w5.heap.size (.slice (some ⟨g,0,none⟩) L.length cap) L.length (L.flatMap encC) (by rfl) HR8.out (some ⟨w7.heap.size,0,none⟩) 1 1 [.int .i64 da,.slice ak nk ck,.int .i64 sl] (by rfl) rfl (fun e=>by cases e) (new_cells (us:=[.int .i64 da,.slice ak nk ck,.int .i64 sl])) (fun u hu=>by simp at hu;rcases hu with rfl | rfl | rfl <;> rfl) (by unfold maxLen;omega) (by omega) (by simp;omega) ?_;intro v9 w9 o9 g9 l9;have O9:=Lib.hid o9;have G9:=Lib.hid g9;have L9:=Lib.hid l9;obtain⟨a9,c9,rfl⟩:=rowf o9;clear o9 g9 l9)
      have hpu:=HC.out.1.push x HXX.out.1 (by rw[HXS.out,HXX.out.2.2.2.1];exact HRD0.out.belowAll HB.out) (by rw[HXS.out];exact HGE.out) _ HB8.out (by rw[HXE.out];exact O9.out) G9.out L9.out
      obtain⟨g',cap',hv9,hch⟩:=hpu
      have HN:=Lib.hid (show ChoR w9 w5.heap.size g' cap' da (L++[x])∧(L++[x]).map usC=usaK n fs ⟨da,db,dr,dc⟩ rs (k+1) from⟨hch,by
       rw[List.map_append,HC.out.2,HE1.out]
       show _++[(x.fb,(x.ct:Int))]=_
       rw[HXX.out.2.2.2.1,HXX.out.2.2.2.2]⟩)
      have HB9:=Lib.hid (show Below w5.heap.size w5 w9 from Below.grown (HB.out.trans (HB8.out.mono (by have:=HB.out.size;omega))) G9.out (by simp;omega) (fun q hq=>by
       have:g=q:=Option.some.inj hq
       rw[←this];exact(HC.out.1.1.lt g rfl).1))
      have HV9:=Lib.hid hv9
      generalize hL':L++[x]=L' at *
      have hLl:L'.length=L.length+1:=by rw[←hL'];simp
      have HLL:=Lib.hid hLl
      clear hv9 hch hL' hLl
      go_roundw
      case rel=>exact⟨k+1,g',cap',L',by omega,by rw[HLL.out];omega,by go_num,HV9.out,HN,HB9⟩
      case measure=>simp[intOf];omega
    · have hpd:decide (0<sl)=false:=decide_eq_false hpos
      have HE1:=Lib.hid (show usaK n fs ⟨da,db,dr,dc⟩ rs (k+1)=usaK n fs ⟨da,db,dr,dc⟩ rs k from HSK.out.trans (by rw[if_neg hpos,List.append_nil]))
      have HCN:=Lib.hid (show ChoR w7 w5.heap.size g cap da L∧L.map usC=usaK n fs ⟨da,db,dr,dc⟩ rs (k+1) from⟨HC.out.1.below HB7.out,by rw[HE1.out];exact HC.out.2⟩)
      have HB9:=Lib.hid (show Below w5.heap.size w5 w7 from HB.out.trans (HB7.out.mono (by have:=HB.out.size;omega)))
      go_wp2
      go_roundw
      case rel=>exact⟨k+1,g,cap,L,by omega,by omega,by go_num,rfl,HCN,HB9⟩
      case measure=>simp[intOf];omega
  · obtain rfl:k=m:=by omega
    go_wp2
    rw[HNP.out]
    refine⟨HB5.out.trans (HB.out.mono hz5),.inr ⟨HFT.out,g,cap,L,rfl,⟨⟨HC.out.1.1.1,HC.out.1.1.2.imp id fun⟨g,cap,cur,k1,k2,k3⟩=>⟨g,cap,cur,k1,Nat.le_trans hz5 k2,k3⟩⟩,HC.out.1.2⟩,?_⟩⟩
    rw[HC.out.2];exact HAL.out
section
variable {α β : Type}
theorem tag_map (f:α→β) (L:List α):tagS (L.map f)=(tagS L).map fun y=>(f y.1,y.2):=by
 unfold tagS
 rw[List.zipIdx_map]
 rfl
theorem head_scan {k:α→Int} {p:α→Bool} {S:List (α × Nat)} {zs:List α} (hs:srtS k S) (hp:S.Perm (tagS zs)):(S.filter fun y=>p y.1).head?= scanS k p zs zs.length:=by
 have ht:(tagS zs).take zs.length=tagS zs:=List.take_of_length_le (by unfold tagS;simp)
 cases ho:scanS k p zs zs.length with
 | none=>
   have hn:=@scanS_some.scanS_none α k p zs 0 zs zs.length (Nat.le_refl _) ho
   rw[ht] at hn
   cases hf:S.filter (fun y=>p y.1) with
   | nil=>rfl
   | cons x T=>
     have hb:=head_best hs hp hf
     have:=hn x hb.1
     rw[hb.2.1] at this;cases this
 | some b=>
   have hb:=scanS_some (Nat.le_refl _) ho
   rw[ht] at hb
   cases hf:S.filter (fun y=>p y.1) with
   | nil=>
     have:=head_none hp hf b hb.1
     rw[hb.2.1] at this;cases this
   | cons x T=>rw[isBest_one (head_best hs hp hf) hb];rfl
end
def fitC (ls:List Lgt) (x:Chc):List Nat:=fitsN (alongN ls x.fb) x.ct
def encF (y:Chc × Nat):List Value:=[.int .i64 0,.int .i64 y.1.st,.slice y.1.a y.1.fb.length y.1.c,.int .i64 (y.2:Int),.int .i64 (y.1.ct:Int)]
def canC (ls:List Lgt) (C:List Chc):List (Chc × Nat):=C.filterMap fun x=>(fitC ls x).head?.map fun s=>(x,s)
theorem canC_step {ls:List Lgt} {C:List Chc} {k:Nat} (hk:k<C.length):canC ls (C.take (k+1))=canC ls (C.take k)++((fitC ls C[k]).head?.map fun s=>(C[k],s)).toList:=by
 unfold canC
 rw[List.take_add_one,List.filterMap_append,List.getElem?_eq_getElem hk]
 congr 1
theorem canC_head {ls:List Lgt} {n:Net} {fs:List Fmt} {d:Dem} {L:List Chc} {S:List (Chc × Nat)} (hs:srtS costC S) (hp:S.Perm (tagS L)) (hu:L.map usC=usaR n fs d):
 match pickU n fs d ls with
 | none=>canC ls (S.map Prod.fst)=[]
 | some (u,_)=>∃x T,canC ls (S.map Prod.fst)=(x,(fitU ls u).headD 0)::T∧usC x=u∧x∈L:=by
 have hs2:srtS costU (S.map fun y=>(usC y.1,y.2)):=by
  unfold srtS
  rw[List.pairwise_map]
  exact List.Pairwise.imp (fun h=>h) hs
 have hp2:(S.map fun y=>(usC y.1,y.2)).Perm (tagS (usaR n fs d)):=by
  rw[←hu,tag_map]
  exact hp.map _
 have hh:=head_scan (p:=okU ls) hs2 hp2
 rw[List.filter_map,List.head?_map] at hh
 have hfit:∀x:Chc,fitU ls (usC x)=fitC ls x:=fun x=>by
  unfold fitU fitC usC;simp
 have hok:∀y:Chc × Nat,((fun y=>okU ls y.1) ∘ fun y:Chc × Nat=>(usC y.1,y.2)) y= !(fitC ls y.1).isEmpty:=fun y=>by
  simp only[Function.comp,okU];rw[hfit]
 have key:∀S:List (Chc × Nat),(canC ls (S.map Prod.fst)).head?= (S.filter ((fun y=>okU ls y.1) ∘ fun y:Chc × Nat=>(usC y.1,y.2))).head?.map fun y=>(y.1,(fitU ls (usC y.1)).headD 0):=by
  intro S
  induction S with
  | nil=>rfl
  | cons y T ih=>
    cases hc:fitC ls y.1 with
    | nil=>
      have e1:canC ls ((y::T).map Prod.fst)=canC ls (T.map Prod.fst):=by
       unfold canC
       rw[List.map_cons,List.filterMap_cons_none (by rw[hc];rfl)]
      rw[e1,List.filter_cons_of_neg (by rw[hok,hc];simp),ih]
    | cons s t=>
      have e1:canC ls ((y::T).map Prod.fst)=(y.1,s)::canC ls (T.map Prod.fst):=by
       unfold canC
       rw[List.map_cons,List.filterMap_cons_some (by rw[hc];rfl)]
      rw[e1,List.filter_cons_of_pos (by rw[hok,hc];rfl)]
      simp[hfit,hc]
 have hk:=key S
 unfold pickU
 rw[←hh] at *
 cases hf:(S.filter ((fun y=>okU ls y.1) ∘ fun y:Chc × Nat=>(usC y.1,y.2))).head? with
 | none=>
   rw[hf] at hk
   simpa using hk
 | some y=>
   rw[hf] at hk
   simp only[Option.map_some] at hk ⊢
   obtain⟨x,T,e⟩:∃x T,canC ls (S.map Prod.fst)=x::T:=by
    cases h:canC ls (S.map Prod.fst) with
    | nil=>rw[h] at hk;cases hk
    | cons a b=>exact⟨a,b,rfl⟩
   rw[e] at hk
   simp only[List.head?_cons,Option.some.injEq] at hk
   refine⟨y.1,T,by rw[e,hk],rfl,?_⟩
   have hm:=List.mem_of_mem_head? (Option.mem_def.2 hf)
   have hm2:=hp.mem_iff.1 (List.mem_filter.1 hm).1
   rw[←tagS_fst L]
   exact List.mem_map.2 ⟨y,hm2,rfl⟩
def posI (u c k:Nat):List Int:=((List.range k).filter fun s=>u &&& mskN s c==0).map fun(s:Nat)=>((s:Nat):Int)
theorem posI_yes {u c k:Nat} (h:u &&& mskN k c=0):posI u c (k+1)=posI u c k++[(k:Int)]:=by
 unfold posI;rw[List.range_succ,List.filter_append,List.map_append];simp[h]
theorem posI_no {u c k:Nat} (h:u &&& mskN k c≠0):posI u c (k+1)=posI u c k:=by
 unfold posI;rw[List.range_succ,List.filter_append,List.map_append];simp[h]
theorem posI_len (u c k:Nat):(posI u c k).length≤k:=by
 unfold posI;rw[List.length_map];exact Nat.le_trans (List.length_filter_le _ _) (by simp)
theorem isMask_any (u:Nat) (w:World) (hu:u<16777216):
 Calls Tryz.prog 245 #[.int .i64 u] w fun e w'=>e= .returned (.bool true)∧w=w':=by
 have hw:=within_any (u:Int) 0 16777215 w
 rw[show inB (u:Int) 0 16777215=true by unfold inB;simp;omega] at hw
 have HW:=Lib.hid hw
 clear hw
 go_enter Tryz.func245,Tryz.ntmps245
 go_wp2_with (go_at_call 74;refine HW.out.mono ?_;rintro e w' ⟨rfl,rfl⟩)
 go_ret
 exact⟨rfl,rfl⟩
theorem isFit_any (u c:Nat) (w:World) (hu:u<16777216) (hc1:1≤c) (hc:c≤24):
 Calls Tryz.prog 223 #[.int .i64 u,.int .i64 c] w fun e w'=>e= .returned (.bool true)∧Below w.heap.size w w':=by
 have HM:=Lib.hid (fun w'=>isMask_any u w' hu)
 have HW:=Lib.hid (fun w'=>show Calls Tryz.prog 74 #[.int .i64 c,.int .i64 1,.int .i64 24] w' fun e w2=>e= .returned (.bool true)∧w'=w2 from by
  have hw:=within_any (c:Int) 1 24 w'
  rw[show inB (c:Int) 1 24=true by unfold inB;simp;omega] at hw
  exact hw)
 go_enter Tryz.func223,Tryz.ntmps223
 go_wp2_with (first | (go_at_call 245;refine(HM.out _).mono ?_;rintro e w' ⟨rfl,rfl⟩) | (go_at_call 74;refine(HW.out _).mono ?_;rintro e w' ⟨rfl,rfl⟩))
 go_ret
 exact⟨rfl,Below.refl _ _⟩
theorem positions_any (u c:Nat) (w:World) (hu:u<16777216) (hc1:1≤c) (hc:c≤24):
 Calls Tryz.prog 224 #[.int .i64 u,.int .i64 c] w fun e w'=>∃v',e= .returned v'∧Own w' w.heap.size v' (posI u c (25-c))∧Below w.heap.size w w':=by
 have HM:=Lib.hid (fun k w' (hk:k+c≤24)=>maskOf_any k c w' hk)
 have HAND:=Lib.hid (fun k (hk:k+c≤24)=>bits_and hu (mskN_lt k c hk))
 have HY:=Lib.hid (fun k h=>@posI_yes u c k h)
 have HN:=Lib.hid (fun k h=>@posI_no u c k h)
 have HL:=Lib.hid (posI_len u c)
 have HO0:=Lib.hid (show Own (w.alloc (.cells #[] 3)) w.heap.size (.slice (some ⟨w.heap.size,0,none⟩) 0 0) (posI u c 0) from own_none w 3)
 have HB0:=Lib.hid ((Below.refl w.heap.size w).alloc (Nat.le_refl _) (.cells #[] 3))
 have hui:(u:Int)<16777216:=by omega
 have hci:(1:Int)≤c∧(c:Int)≤24:=by omega
 clear hu
 go_enter Tryz.func224,Tryz.ntmps224
 go_wp2
 go_loopw [5,6] (fun s5 i wr=>∃k:Nat,k+c≤25∧i= .int .i64 k∧Hid (Own wr w.heap.size s5 (posI u c k))∧Hid (Below w.heap.size w wr)) (fun _ i _=>25-(intOf i).toNat)
 case atStart=>exact⟨0,by omega,rfl,HO0.out,HB0.out⟩
 case round=>
  obtain⟨k,hk,rfl,HO,HB⟩:=hrel
  obtain⟨aR,cR,nR,HNR,rfl,hcR,hnR,-⟩:=HO.out.rd.opn
  by_cases hlt:k+c≤24
  · have hltI:(k:Int)+(c:Int)≤24:=by omega
    have hb:=HAND.out k hlt
    have HM1:=Lib.hid (HM.out k wr hlt)
    have HY1:=Lib.hid (HY.out k)
    have HN1:=Lib.hid (HN.out k)
    have HLO:=Lib.hid (show(posI u c k).length≤4000000 by have:=HL.out k;omega)
    generalize posI u c k=out at *
    generalize u &&& mskN k c=r at *
    generalize mskN k c=mk at *
    by_cases hr:r=0
    · subst hr
      have HE:=Lib.hid (HY1.out rfl)
      have hb0:bits .and .i64 (u:Int) (mk:Int)=0:=hb
      clear hb
      go_wp2_with (first
       | (go_at_call 142;refine HM1.out.mono ?_;rintro e w4 ⟨rfl,b4⟩;have HB4:=Lib.hid (HB.out.trans (b4.mono HB.out.size));have HO4:=Lib.hid (HO.out.belowAll b4);clear b4)
       | (at_builtin;go_loud (refine wpList_pushI rfl (.tmp 21) (.tmp 23) 58 rfl Tryz.underlying58 Tryz.infoI w.heap.size (.slice aR nR cR) out rfl HO4.out rfl HLO.out HB4.out.size ?_);intro v5 w5 o5 g5 l5;have HO5:=Lib.hid o5;have HB5:=Lib.hid (HB4.out.grown g5 HB4.out.size (fun q hq=>(HO4.out.lt q hq).1));clear o5 g5 l5))
      go_roundw
      case rel=>exact⟨k+1,by omega,by go_num,by rw[HE.out];exact HO5.out,HB5.out⟩
      case measure=>simp[intOf];omega
    · have HE:=Lib.hid (HN1.out hr)
      have hr0:((r:Int)==0)=false:=by simpa using(by omega:(r:Int)≠0)
      go_wp2_with (go_at_call 142;refine HM1.out.mono ?_;rintro e w4 ⟨rfl,b4⟩;have HB4:=Lib.hid (HB.out.trans (b4.mono HB.out.size));have HO4:=Lib.hid (HO.out.belowAll b4);clear b4)
      go_roundw
      case rel=>exact⟨k+1,by omega,by go_num,by rw[HE.out];exact HO4.out,HB4.out⟩
      case measure=>simp[intOf];omega
  · have hltI:¬(k:Int)+(c:Int)≤24:=by omega
    obtain rfl:k=25-c:=by omega
    go_wp2
    go_ret
    exact⟨_,rfl,HO.out,HB.out⟩
theorem posI_fits (u c:Nat):posI u c (25-c)=(fitsN u c).map fun(s:Nat)=>((s:Nat):Int):=rfl
def fitV (u c:Nat):Value:=match fitsN u c with
 | []=> .tuple #[.agg #[.int .i64 0,.int .i64 0],.bool false]
 | s::_=> .tuple #[.agg #[.int .i64 (s:Int),.int .i64 (c:Int)],.bool true]
theorem firstFit_any (u c:Nat) (w:World) (hu:u<16777216) (hc1:1≤c) (hc:c≤24):
 Calls Tryz.prog 195 #[.int .i64 u,.int .i64 c] w fun e w'=>e= .returned (fitV u c)∧Below w.heap.size w w':=by
 have HF:=Lib.hid (fun w'=>isFit_any u c w' hu hc1 hc)
 have HP:=Lib.hid (fun w'=>positions_any u c w' hu hc1 hc)
 have HFV:=Lib.hid (show(fitsN u c=[]→fitV u c= .tuple #[.agg #[.int .i64 0,.int .i64 0],.bool false])∧ ∀s t,fitsN u c=s::t→fitV u c= .tuple #[.agg #[.int .i64 (s:Int),.int .i64 (c:Int)],.bool true] from⟨fun h=>by unfold fitV;rw[h],fun s t h=>by unfold fitV;rw[h]⟩)
 rw[posI_fits] at HP
 generalize fitV u c=RV at *
 generalize fitsN u c=L at *
 have hb1:=(Below.refl w.heap.size w).alloc (Nat.le_refl _) (.cells #[.int .i64 0,.int .i64 0] 84)
 have k1:=heap_alloc_new w (.cells #[.int .i64 0,.int .i64 0] 84)
 have HB1:=Lib.hid hb1
 have HK1:=Lib.hid k1
 have HZ1:=Lib.hid (show(w.alloc (.cells #[.int .i64 0,.int .i64 0] 84)).heap.size=w.heap.size+1 by simp)
 clear hb1 k1 hu hc1 hc
 go_enter Tryz.func195,Tryz.ntmps195
 go_upto_region 1 with fail
 generalize w.alloc (.cells #[.int .i64 0,.int .i64 0] 84)=w1 at *
 go_wp2_with (go_at_call 223;refine(HF.out _).mono ?_;rintro e w2 ⟨rfl,b2⟩;have HB2:=Lib.hid (HB1.out.trans (b2.mono HB1.out.size));have HK2:=Lib.hid (kept_o' HK1.out b2);clear b2)
 refine(HP.out w2).mono ?_
 rintro e w3 ⟨v3,rfl,o3,b3⟩
 obtain⟨a3,c3,n3,HN3,rfl,hc3,hn3,hcs⟩:=o3.rd.opn
 have hn:=HN3.out
 rw[List.length_map] at hn
 have hk3:=kept_o' HK2.out b3
 have HB3:=Lib.hid (HB2.out.trans (b3.mono HB2.out.size))
 have z0:=blkc hk3 (j:=0) (u:= .int .i64 0) rfl
 have z1:=blkc hk3 (j:=1) (u:= .int .i64 0) rfl
 have f0:w3.frozen? ⟨w.heap.size,0,none⟩=false:=frozen_of_row _ _ _ _ _ hk3
 have f1:w3.frozen? ⟨w.heap.size,1,none⟩=false:=frozen_of_row _ _ _ _ _ hk3
 cases hL:L with
 | nil=>
   subst hL
   obtain rfl:n3=0:=by simpa using hn.symm
   have HV:=Lib.hid (HFV.out.1 rfl)
   have q1:=heap_setCell_same w3 w.heap.size 0 _ 84 (.int .i64 0) hk3
   have q2:=heap_setCell_same _ w.heap.size 1 _ 84 (.int .i64 0) q1
   have t0:=blkc q2 (j:=0) (u:= .int .i64 0) (by simp)
   have t1:=blkc q2 (j:=1) (u:= .int .i64 0) (by simp)
   have HB4:=Lib.hid ((HB3.out.setCell (p:=⟨w.heap.size,0,none⟩) (Nat.le_refl _) (.int .i64 0)).setCell (p:=⟨w.heap.size,1,none⟩) (Nat.le_refl _) (.int .i64 0))
   clear q1 q2 hcs o3 b3 hk3 hn
   go_wp2_with fail
   exact bodyPost_ret (v:= .tuple #[.agg #[.int .i64 0,.int .i64 0],.bool false]) (by simp[results,Tryz.results195,go_sem,t0,t1]) rfl ⟨by rw[HV.out],HB4.out⟩
 | cons s t=>
   subst hL
   have hpos:0<n3:=by rw[←hn];simp
   obtain⟨b,off,rfl,-,hcl⟩:=hcs hpos
   have c0:=hcl 0 hpos
   simp only[List.map_cons,List.getElem?_cons_zero,Option.getD_some,Nat.add_zero] at c0
   have hne:((n3:Int)==0)=false:=by simpa using(by omega:(n3:Int)≠0)
   have hpi:(0:Int)<(n3:Int):=by omega
   have HV:=Lib.hid (HFV.out.2 s t rfl)
   have q1:=heap_setCell_same w3 w.heap.size 0 _ 84 (.int .i64 (s:Int)) hk3
   have q2:=heap_setCell_same _ w.heap.size 1 _ 84 (.int .i64 (c:Int)) q1
   have t0:=blkc q2 (j:=0) (u:= .int .i64 (s:Int)) (by simp)
   have t1:=blkc q2 (j:=1) (u:= .int .i64 (c:Int)) (by simp)
   have HB4:=Lib.hid ((HB3.out.setCell (p:=⟨w.heap.size,0,none⟩) (Nat.le_refl _) (.int .i64 (s:Int))).setCell (p:=⟨w.heap.size,1,none⟩) (Nat.le_refl _) (.int .i64 (c:Int)))
   clear q1 q2 hcs hcl o3 b3 hk3 hn
   go_wp2_with fail
   exact bodyPost_ret (v:= .tuple #[.agg #[.int .i64 (s:Int),.int .i64 (c:Int)],.bool true]) (by simp[results,Tryz.results195,go_sem,t0,t1]) rfl ⟨by rw[HV.out],HB4.out⟩
theorem fitting_any (u c:Nat) (w:World) (hu:u<16777216) (hc1:1≤c) (hc:c≤24):
 Calls Tryz.prog 158 #[.int .i64 u,.int .i64 c,.int .i64 1] w fun e w'=>e= .returned (fitV u c)∧Below w.heap.size w w':=by
 have HP:=Lib.hid (fun w'=>firstFit_any u c w' hu hc1 hc)
 obtain⟨f1,f2,b,hv⟩:∃f1 f2 b,fitV u c= .tuple #[.agg #[.int .i64 f1,.int .i64 f2],.bool b]:=by
  unfold fitV
  split
  · exact⟨_,_,_,rfl⟩
  · exact⟨_,_,_,rfl⟩
 rw[hv] at HP ⊢
 have hb1:=(Below.refl w.heap.size w).alloc (Nat.le_refl _) (.cells #[.int .i64 0,.int .i64 0] 84)
 have k1:=heap_alloc_new w (.cells #[.int .i64 0,.int .i64 0] 84)
 have HB1:=Lib.hid hb1
 have HK1:=Lib.hid k1
 clear hb1 k1 hu hc1 hc hv
 go_enter Tryz.func158,Tryz.ntmps158
 go_upto_region 1 with fail
 generalize w.alloc (.cells #[.int .i64 0,.int .i64 0] 84)=w1 at *
 go_wp2_with fail
 refine(HP.out w1).mono ?_
 rintro e w2 ⟨rfl,b2⟩
 have HB2:=Lib.hid (HB1.out.trans (b2.mono HB1.out.size))
 have hk2:=kept_o' HK1.out b2
 have z0:=blkc hk2 (j:=0) (u:= .int .i64 0) rfl
 have z1:=blkc hk2 (j:=1) (u:= .int .i64 0) rfl
 have g0:w2.frozen? ⟨w.heap.size,0,none⟩=false:=frozen_of_row _ _ _ _ _ hk2
 have g1:w2.frozen? ⟨w.heap.size,1,none⟩=false:=frozen_of_row _ _ _ _ _ hk2
 have q1:=heap_setCell_same w2 w.heap.size 0 _ 84 (.int .i64 f1) hk2
 have q2:=heap_setCell_same _ w.heap.size 1 _ 84 (.int .i64 f2) q1
 have t0:=blkc q2 (j:=0) (u:= .int .i64 f1) (by simp)
 have t1:=blkc q2 (j:=1) (u:= .int .i64 f2) (by simp)
 have HB4:=Lib.hid ((HB2.out.setCell (p:=⟨w.heap.size,0,none⟩) (Nat.le_refl _) (.int .i64 f1)).setCell (p:=⟨w.heap.size,1,none⟩) (Nat.le_refl _) (.int .i64 f2))
 clear q1 q2 b2 hk2
 go_wp2_with fail
 exact bodyPost_ret (v:= .tuple #[.agg #[.int .i64 f1,.int .i64 f2],.bool b]) (by simp[results,Tryz.results158,go_sem,t0,t1]) rfl ⟨rfl,HB4.out⟩
def lmk (x:Lgt):Nat:=mskN x.fi.toNat x.ct.toNat
def orAt (M:List Nat) (f:Int) (m:Nat):List Nat:=M.set f.toNat ((M[f.toNat]?.getD 0) ||| m)
def orF (M:List Nat) (m:Nat) (fb:List Int):List Nat:=fb.foldl (fun M f=>orAt M f m) M
def orL (M:List Nat) (x:Lgt):List Nat:=orF M (lmk x) x.fb
def orAll (ls:List Lgt) (nf:Nat):List Nat:=ls.foldl orL (List.replicate nf 0)
theorem orAt_len (M:List Nat) (f:Int) (m:Nat):(orAt M f m).length=M.length:=by unfold orAt;simp
theorem orF_len (m:Nat):∀(fb:List Int) (M:List Nat),(orF M m fb).length=M.length
 | [],M=>rfl
 | f::fb,M=>by unfold orF;rw[List.foldl_cons];exact(orF_len m fb (orAt M f m)).trans (orAt_len M f m)
theorem orLs_len:∀(ls:List Lgt) (M:List Nat),(ls.foldl orL M).length=M.length
 | [],M=>rfl
 | x::ls,M=>by rw[List.foldl_cons,orLs_len ls];exact orF_len _ _ _
theorem orAt_get (M:List Nat) (f:Int) (m i:Nat) (hi:i<M.length):(orAt M f m)[i]?.getD 0=if i=f.toNat then(M[i]?.getD 0) ||| m else M[i]?.getD 0:=by
 unfold orAt
 by_cases h:i=f.toNat
 · subst h
   rw[List.getElem?_set_self hi,if_pos rfl];rfl
 · rw[List.getElem?_set_ne (fun e=>h e.symm),if_neg h]
theorem orF_get (m i:Nat):∀(fb:List Int) (M:List Nat),i<M.length→(∀f∈fb,0≤f)→(orF M m fb)[i]?.getD 0=if fb.contains (i:Int) then(M[i]?.getD 0) ||| m else M[i]?.getD 0
 | [],M,_,_=>by simp[orF]
 | f::fb,M,hi,h0=>by
   have hf:=h0 f (List.mem_cons_self ..)
   have e:orF M m (f::fb)=orF (orAt M f m) m fb:=rfl
   rw[e,orF_get m i fb _ (by rw[orAt_len];exact hi) (fun x hx=>h0 x (List.mem_cons_of_mem _ hx)),orAt_get M f m i hi,List.contains_cons]
   by_cases h:i=f.toNat
   · have h2:((i:Int)==f)=true:=by simpa using(by omega:(i:Int)=f)
     rw[if_pos h,h2,Bool.true_or,if_pos rfl]
     split
     · rw[Nat.or_assoc,Nat.or_self]
     · rfl
   · have h2:((i:Int)==f)=false:=by simpa using(by omega:(i:Int)≠f)
     rw[if_neg h,h2,Bool.false_or]
theorem orLs_get (i:Nat):∀(ls:List Lgt) (M:List Nat),i<M.length→(∀x∈ls,∀f∈x.fb,0≤f)→(ls.foldl orL M)[i]?.getD 0=ls.foldl (fun m x=>if x.fb.contains (i:Int) then m ||| mskN x.fi.toNat x.ct.toNat else m) (M[i]?.getD 0)
 | [],M,_,_=>rfl
 | x::ls,M,hi,h0=>by
   rw[List.foldl_cons,List.foldl_cons,orLs_get i ls _ (by unfold orL;rw[orF_len];exact hi) (fun y hy=>h0 y (List.mem_cons_of_mem _ hy))]
   congr 1
   unfold orL
   rw[orF_get _ i _ _ hi (h0 x (List.mem_cons_self ..))]
   rfl
theorem orAll_get {ls:List Lgt} {nf i:Nat} (hi:i<nf) (h0:∀x∈ls,∀f∈x.fb,0≤f):(orAll ls nf)[i]?.getD 0=usedN ls (i:Int):=by
 unfold orAll usedN
 rw[orLs_get i ls _ (by simpa using hi) h0]
 simp[hi]
def orK (ls:List Lgt) (nf k:Nat):List Nat:=(ls.take k).foldl orL (List.replicate nf 0)
def SmM (M:List Nat):Prop:=∀i:Nat,M[i]?.getD 0<16777216
theorem or_24 {a b:Nat} (ha:a<16777216) (hb:b<16777216):a ||| b<16777216:=Nat.or_lt_two_pow (n:=24) ha hb
theorem SmM.at {M:List Nat} (h:SmM M) (f:Int) {m:Nat} (hm:m<16777216):SmM (orAt M f m):=fun i=>by
 by_cases hi:i<M.length
 · rw[orAt_get M f m i hi]
   split
   · exact or_24 (h i) hm
   · exact h i
 · rw[List.getElem?_eq_none (by rw[orAt_len];omega)];decide
theorem SmM.fold {m:Nat} (hm:m<16777216):∀(fb:List Int) {M:List Nat},SmM M→SmM (orF M m fb)
 | [],_,h=>h
 | f::fb,M,h=>SmM.fold hm fb (M:=orAt M f m) (h.at f hm)
theorem SmM.ls:∀(ls:List Lgt) {M:List Nat},(∀x∈ls,lmk x<16777216)→SmM M→SmM (ls.foldl orL M)
 | [],_,_,h=>h
 | x::ls,M,hx,h=>SmM.ls ls (M:=orL M x) (fun y hy=>hx y (List.mem_cons_of_mem _ hy)) (SmM.fold (hx x (List.mem_cons_self ..)) x.fb h)
theorem SmM.zero (nf:Nat):SmM (List.replicate nf 0):=fun i=>by
 rw[List.getElem?_replicate];split <;> simp
def LgO (nf:Nat) (x:Lgt):Prop:=(∀f∈x.fb,0≤f∧f<nf)∧0≤x.fi∧0≤x.ct∧x.fi+x.ct≤24
theorem LgO.mk {nf:Nat} {x:Lgt} (h:LgO nf x):lmk x<16777216:=mskN_lt _ _ (by have:=h.2;omega)
theorem orF_step {M:List Nat} {m:Nat} {fb:List Int} {j:Nat} (hj:j<fb.length):orF M m (fb.take (j+1))=orAt (orF M m (fb.take j)) (fb[j]?.getD 0) m:=by
 unfold orF
 rw[List.take_add_one,List.foldl_append,List.getElem?_eq_getElem hj];rfl
theorem orLs_step {M:List Nat} {ls:List Lgt} {k:Nat} (hk:k<ls.length):(ls.take (k+1)).foldl orL M=orL ((ls.take k).foldl orL M) (ls[k]?.getD nilL):=by
 rw[List.take_add_one,List.foldl_append,List.getElem?_eq_getElem hk];rfl
theorem nats_set (M:List Nat) (i m:Nat):(nats M).set i (m:Int)=nats (M.set i m):=by
 unfold nats;rw[List.map_set]
theorem nats_rep (k:Nat):nats (List.replicate k 0)=List.replicate k 0:=by unfold nats;simp
theorem fiberMasks_any (v:Value) (p:Pln) (w:World) (h:PlnR w v p) (hn2:p.n.fs.length≤1048576) (hl:p.ls.length≤1000) (hlo:∀x∈p.ls,LgO p.n.fs.length x):
 Calls Tryz.prog 133 #[v] w fun e w'=>∃v',e= .returned v'∧Own w' w.heap.size v' (nats (orAll p.ls p.n.fs.length))∧Below w.heap.size w w':=by
 obtain⟨i0,hi,hz0,hz1,hz2⟩:=info_parts Tryz.infoInt
 obtain⟨u1,u2,u3,rfl,r1,r2,r3,hsm⟩:=h
 have hnet:NetR w (.agg #[u1,u2]) p.n:=⟨u1,u2,rfl,r1,r2,hsm⟩
 obtain⟨⟨a1,m1,c1,rfl⟩,-⟩:=slice_of_net hnet
 obtain⟨a2,m2,c2,rfl,HN2,-,hm2,-⟩:=flt_opn (m:=4) (enc:=fibE) (fun _=>rfl) (by omega) nilB r2
 obtain⟨a3,m3,c3,rfl,HN3,hc3,hm3,ha3⟩:=lgt_opn r3
 have HA:=Lib.hid ha3
 have hl3:m3≤1000:=by rw[←HN3.out];exact hl
 have hl2:m2≤1048576:=by rw[←HN2.out];exact hn2
 rw[HN2.out] at hlo ⊢
 have HLO:=Lib.hid (fun k (hk:k<m3)=>show LgO m2 (p.ls[k]?.getD nilL) from by
  have h1:k<p.ls.length:=by rw[HN3.out];exact hk
  rw[List.getElem?_eq_getElem h1];exact hlo _ (List.getElem_mem h1))
 have HSM:=Lib.hid (fun k=>show SmM (orK p.ls m2 k) from SmM.ls _ (fun x hx=>(hlo x (List.mem_of_mem_take hx)).mk) (SmM.zero _))
 have HLN:=Lib.hid (fun k=>show(orK p.ls m2 k).length=m2 from by unfold orK;rw[orLs_len];simp)
 have HST:=Lib.hid (fun k (hk:k<m3)=>show orK p.ls m2 (k+1)=orL (orK p.ls m2 k) (p.ls[k]?.getD nilL) from orLs_step (by rw[HN3.out];exact hk))
 have HTA:=Lib.hid (show orK p.ls m2 m3=orAll p.ls m2 from by unfold orK;rw[List.take_of_length_le (Nat.le_of_eq HN3.out)];rfl)
 have hb1:=(Below.refl w.heap.size w).alloc (Nat.le_refl _) (.cells #[.slice a1 m1 c1,.slice a2 m2 c2,.slice a3 m3 c3] 75)
 have k1:=heap_alloc_new w (.cells #[.slice a1 m1 c1,.slice a2 m2 c2,.slice a3 m3 c3] 75)
 have HB1:=Lib.hid hb1
 have HK1:=Lib.hid k1
 have HZ1:=Lib.hid (show(w.alloc (.cells #[.slice a1 m1 c1,.slice a2 m2 c2,.slice a3 m3 c3] 75)).heap.size=w.heap.size+1 by simp)
 clear r1 r2 r3 hsm hnet ha3 hl hn2 hb1 k1 hlo
 generalize orAll p.ls m2=RES at *
 go_enter Tryz.func133,Tryz.ntmps133
 go_upto_region 1 with fail
 generalize w.alloc (.cells #[.slice a1 m1 c1,.slice a2 m2 c2,.slice a3 m3 c3] 75)=w1 at *
 have y1:=blkc HK1.out (j:=1) (u:= .slice a2 m2 c2) rfl
 have y2:=blkc HK1.out (j:=2) (u:= .slice a3 m3 c3) rfl
 go_upto_region 2 with (refine wpList_make_full _ rfl _ _ 58 rfl w1.heap.size 3 i0 (.int .i64 0) 1 Tryz.underlying58 hi hz0 hz1 _ _ _ _ m2 rfl rfl rfl rfl (by rw[hz2];omega) (by unfold maxLen;omega) (Nat.le_refl _) ?_;intro w2 hown1 hgrow1)
 obtain⟨g,hg⟩:∃g,g=w1.heap.size:=⟨_,rfl⟩
 have hown2:Own w2 w.heap.size (.slice (some ⟨g,0,none⟩) m2 m2) (nats (orK p.ls m2 0)):=by
  have hown1:=own_of_row (n:=m2) (xs:=List.replicate m2 0) (w:=w2) (base:=w1.heap.size) (v:= .slice (some ⟨w1.heap.size,0,none⟩) m2 m2) (by
   have e:(madeCells (Value.int .i64 0).cells (m2*1)).toList=ints (List.replicate m2 0):=by
    rw[Nat.mul_one]
    have:=toList_madeCells_one (.int .i64 0) m2
    simpa[ints,Value.cells] using this
   rw[←e];exact hown1)
  rw[show orK p.ls m2 0=List.replicate m2 0 from rfl,nats_rep,hg]
  exact hown1.mono (by have:=HZ1.out;omega)
 have hb2:Below w1.heap.size w1 w2:=(Below.refl _ _).grown hgrow1 (Nat.le_refl _) (by simp)
 have HB2:=Lib.hid (HB1.out.trans (hb2.mono HB1.out.size))
 have HO2:=Lib.hid hown2
 have HGE:=Lib.hid (show w.heap.size<g from by rw[hg,HZ1.out];omega)
 have z2:=blkc (kept_o' HK1.out hb2) (j:=2) (u:= .slice a3 m3 c3) rfl
 rw[←hg]
 clear hown1 hgrow1 hb2 hown2 y1 y2 hg hi hz0 hz1 hz2
 go_wp2_with fail
 clear z2
 go_loopw [16] (fun i wr=>∃k:Nat,k≤m3∧i= .int .i64 k∧Hid (Own wr w.heap.size (.slice (some ⟨g,0,none⟩) m2 m2) (nats (orK p.ls m2 k)))∧Hid (Below w.heap.size w wr)) (fun i _=>m3-(intOf i).toNat)
 case atStart=>exact⟨0,Nat.zero_le _,rfl,HO2.out,HB2.out⟩
 case round=>
  obtain⟨k,hk,rfl,HO,HB⟩:=hrel
  by_cases hlt:k<m3
  · have hltI:(k:Int)<(m3:Int):=by omega
    obtain⟨b3,o3,rfl,hbl,hcs⟩:=HA.out (by omega)
    obtain⟨u,e0,e1,e2,e3,e4,hru⟩:=hcs k hlt
    have mv:∀j,wr.cell? ⟨b3,j,none⟩=w.cell? ⟨b3,j,none⟩:=fun j=>HB.out.cell (p:=⟨b3,j,none⟩) hbl
    rw[←mv] at e0 e1 e2 e3 e4
    obtain⟨au,cu,nu,HNU,rfl,-,hnu,hcu⟩:=hru.opn
    have HCU:=Lib.hid hcu
    have HLX:=Lib.hid (HLO.out k hlt)
    have HSK:=Lib.hid (HST.out k hlt)
    have HSMK:=Lib.hid (HSM.out k)
    have HLNK:=Lib.hid (HLN.out k)
    clear hcs mv hru hbl hcu
    generalize p.ls[k]?.getD nilL=x at *
    generalize orK p.ls m2 k=M at *
    generalize hM2:orK p.ls m2 (k+1)=M' at *
    have HM2:=Lib.hid hM2
    clear hM2
    have HSTP:=Lib.hid (fun j (hj:j<x.fb.length)=>@orF_step M (lmk x) x.fb j hj)
    have HSMJ:=Lib.hid (fun j=>SmM.fold HLX.out.mk (x.fb.take j) HSMK.out)
    have HLNJ:=Lib.hid (fun j=>(orF_len (lmk x) (x.fb.take j) M).trans HLNK.out)
    go_upto_region 5 with fail
    have n2:=heap_alloc_new wr (.cells #[.int .i64 x.id,.int .i64 x.st,.slice au nu cu,.int .i64 x.fi,.int .i64 x.ct] 86)
    have n3:=(Below.refl wr.heap.size wr).alloc (Nat.le_refl _) (.cells #[.int .i64 x.id,.int .i64 x.st,.slice au nu cu,.int .i64 x.fi,.int .i64 x.ct] 86)
    obtain⟨bx,hbx⟩:∃bx,bx=wr.heap.size:=⟨_,rfl⟩
    rw[←hbx] at n2 n3 ⊢
    have HB5:=Lib.hid n3
    have HX5:=Lib.hid n2
    have HBX:=Lib.hid hbx
    generalize wr.alloc (.cells #[.int .i64 x.id,.int .i64 x.st,.slice au nu cu,.int .i64 x.fi,.int .i64 x.ct] 86)=w5 at *
    have t2:=blkc n2 (j:=2) (u:= .slice au nu cu) rfl
    have HO5:=Lib.hid (HO.out.belowAll (HBX.out▸HB5.out))
    have HGB:=Lib.hid (show g<bx from by rw[hbx];exact(HO.out.lt g rfl).2)
    have HBW5:=Lib.hid (HB.out.trans ((HBX.out▸HB5.out:Below wr.heap.size wr w5).mono HB.out.size))
    clear n2 n3 hbx e0 e1 e2 e3 e4
    go_wp2_with fail
    clear t2
    go_loopw [24] (fun i wq=>∃j:Nat,j≤nu∧i= .int .i64 j∧Hid (Own wq w.heap.size (.slice (some ⟨g,0,none⟩) m2 m2) (nats (orF M (lmk x) (x.fb.take j))))∧Hid (Below w.heap.size w wq)∧Hid (wq.heap[bx]?= some (.cells #[.int .i64 x.id,.int .i64 x.st,.slice au nu cu,.int .i64 x.fi,.int .i64 x.ct] 86))) (fun i _=>nu-(intOf i).toNat)
    case atStart=>exact⟨0,Nat.zero_le _,rfl,HO5.out,HBW5.out,HX5.out⟩
    case round=>
     obtain⟨j,hj,rfl,HOQ,HBQ,HXQ⟩:=hrel
     by_cases hlj:j<nu
     · have hljI:(j:Int)<(nu:Int):=by omega
       obtain⟨bf,of,rfl,hbf,hcf⟩:=HCU.out (by omega)
       have ef:=(HBQ.out.cell (p:=⟨bf,of+j,none⟩) hbf).trans (hcf j hlj)
       have hjl:j<x.fb.length:=by rw[HNU.out];exact hlj
       have hfr:=HLX.out.1 (x.fb[j]?.getD 0) (by rw[List.getElem?_eq_getElem hjl];exact List.getElem_mem hjl)
       have HN:=Lib.hid (HSTP.out j hjl)
       have HSN:=Lib.hid (HSMJ.out j)
       have HLE:=Lib.hid (HLNJ.out j)
       have HMK:=Lib.hid (fun w'=>show Calls Tryz.prog 142 #[.agg #[.int .i64 x.fi,.int .i64 x.ct]] w' fun e w2=>e= .returned (.int .i64 (lmk x:Nat))∧Below w'.heap.size w' w2 from by
        have hlx:=HLX.out.2
        have:=maskOf_any x.fi.toNat x.ct.toNat w' (by omega)
        rw[Int.toNat_of_nonneg hlx.1,Int.toNat_of_nonneg hlx.2.1] at this
        exact this)
       have HMX:=Lib.hid HLX.out.mk
       generalize x.fb[j]?.getD 0=f at *
       obtain⟨fn,rfl⟩:∃fn:Nat,f=(fn:Int):=⟨f.toNat,by omega⟩
       have hfI:(fn:Int)<(m2:Int):=hfr.2
       have hfn:fn<m2:=by omega
       generalize hN2:orF M (lmk x) (x.fb.take (j+1))=N' at *
       have HN2':=Lib.hid hN2
       clear hN2
       generalize orF M (lmk x) (x.fb.take j)=N at *
       generalize lmk x=mk at *
       have hon:=HSN.out fn
       have hor:=bits_or hon HMX.out
       have HN':=Lib.hid (show N'=N.set fn ((N[fn]?.getD 0) ||| mk) from HN.out)
       have c0:=(HOQ.out.cellAt rfl).2 fn (by rw[nats_len,HLE.out];exact hfn)
       rw[nats_at,Nat.zero_add] at c0
       generalize N[fn]?.getD 0=on at *
       have HC0:=Lib.hid c0
       have HON:=Lib.hid hon
       clear hcf hbf hfr hjl c0 hon
       go_upto_region 8 with fail
       have HSS:=Lib.hid (fun(w':World) (hb:Below wr.heap.size wr w')=>show w'.cell? ⟨g,fn,none⟩=some (.int .i64 (on:Int))∧w'.cell? ⟨bx,3,none⟩=some (.int .i64 x.fi)∧w'.cell? ⟨bx,4,none⟩=some (.int .i64 x.ct) from
        have hx:=kept_o' HXQ.out hb
        ⟨(hb.cell (p:=⟨g,fn,none⟩) (HOQ.out.lt g rfl).2).trans HC0.out,blkc hx rfl,blkc hx rfl⟩)
       refine wp_region_L [0,1,2,3,4,5,6,7,8] (S:=fun w'=>w'.cell? ⟨g,fn,none⟩=some (.int .i64 (on:Int))∧w'.cell? ⟨bx,3,none⟩=some (.int .i64 x.fi)∧w'.cell? ⟨bx,4,none⟩=some (.int .i64 x.ct)) (by kernel_rfl) (HSS.out _ (Below.refl _ _).drew) (fun hH=> ?_)
       refine hlE 0 rfl hH ⟨_,by intro w hSw;(try dsimp only at hSw);go_simp;try with_reducible rfl,?_⟩
       try simp only[Act.put,hlA,hlB,hlC]
       refine hlE 1 rfl hH ⟨_,by intro w hSw;(try dsimp only at hSw);go_simp;try with_reducible rfl,?_⟩
       try simp only[Act.put,hlA,hlB,hlC]
       refine hlE 2 rfl hH ⟨_,by intro w hSw;(try dsimp only at hSw);go_simp;try with_reducible rfl,?_⟩
       try simp only[Act.put,hlA,hlB,hlC]
       refine hlE 3 rfl hH ⟨_,by intro w hSw;(try dsimp only at hSw);go_simp;try with_reducible rfl,?_⟩
       try simp only[Act.put,hlA,hlB,hlC]
       refine hlE 4 rfl hH ⟨_,by intro w hSw;(try dsimp only at hSw);go_simp;try with_reducible rfl,?_⟩
       try simp only[Act.put,hlA,hlB,hlC]
       refine hlE 5 rfl hH ⟨_,by intro w hSw;(try dsimp only at hSw);go_simp;try with_reducible rfl,?_⟩
       try simp only[Act.put,hlA,hlB,hlC]
       refine hlReady (rs:=[6]) (by kernel_rfl) (by simp) ?_
       refine AllReadyL.cons rfl (fun KK hKK=> ?_) AllReadyL.nil
       go_simp
       go_at_call 142
       refine(HMK.out _).mono ?_
       rintro e w34 ⟨rfl,b34⟩
       have B34:Below wr.heap.size wr w34:=(Below.refl wr.heap.size wr).drew.trans b34
       have O34:=Lib.hid (HOQ.out.belowAll B34)
       have fz:w34.frozen? ⟨g,fn,none⟩=false:=O34.out.frozenAt rfl fn
       refine hKK.out _ _ (HSS.out _ B34) (fun hH=> ?_)
       clear hKK KK
       try simp only[Act.put,hlA,hlB,hlC]
       refine hlE 7 rfl hH ⟨_,by intro w hSw;(try dsimp only at hSw);go_simp;try with_reducible rfl,?_⟩
       try simp only[Act.put,hlA,hlB,hlC]
       refine hlStep 8 rfl (by kernel_rfl) (by kernel_rfl) (fun KK hKK=> ?_)
       go_simp
       refine hKK.out _ _ ?_
       clear hKK KK
       try simp only[Act.put,hlA,hlB,hlC]
       refine hlStep 9 rfl (by kernel_rfl) (by kernel_rfl) (fun KK hKK=> ?_)
       go_simp
       refine hKK.out _ _ ?_
       clear hKK KK
       try simp only[Act.put,hlA,hlB,hlC]
       refine hlDone (by kernel_rfl) ?_ _
       rotate_left 1
       have hst:=O34.out.stored rfl fn (by rw[nats_len,HLE.out];exact hfn) ((on ||| mk:Nat):Int)
       rw[nats_set,←HN'.out,Nat.zero_add] at hst
       have HO9:=Lib.hid hst.1
       have HB9:=Lib.hid ((HBQ.out.trans (B34.mono HBQ.out.size)).grown hst.2 (Nat.le_trans HBQ.out.size B34.size) (fun q hq=>by have:g=q:=Option.some.inj hq;have:=HGE.out;omega))
       have HX9:=Lib.hid (show(w34.setCell ⟨g,fn,none⟩ (.int .i64 ((on ||| mk:Nat):Int))).heap[bx]?= _ from(heap_setCell_other _ ⟨g,fn,none⟩ bx _ (by have:=HGB.out;show bx≠g;omega)).trans (kept_o' HXQ.out B34))
       generalize w34.setCell ⟨g,fn,none⟩ (.int .i64 ((on ||| mk:Nat):Int))=w9 at *
       clear hst fz b34 B34 hor
       go_wp2
       go_roundw
       exact⟨j+1,by omega,by simp,by rw[HN2'.out];exact HO9.out,HB9.out,HX9.out⟩
       simp[intOf];omega
     · have hljI:¬(j:Int)<(nu:Int):=by omega
       have HM':=Lib.hid (show M'=orF M (lmk x) (x.fb.take j) from by
        have e:=HSK.out
        unfold orL at e
        rw[e,List.take_of_length_le (by rw[HNU.out];omega)])
       go_wp2
       go_roundw
       exact⟨k+1,by omega,by simp,by rw[HM2.out,HM'.out];exact HOQ.out,HBQ.out⟩
       simp[intOf];omega
  · obtain rfl:m3=k:=by omega
    have hltI:¬(m3:Int)<(m3:Int):=by omega
    go_wp2
    go_ret
    exact⟨_,rfl,by rw[←HTA.out];exact HO.out,HB.out⟩
end Go.Proofs.YtofcicomhnkocaaGreat
