/- Joined: XFmtP XOpf XLfm XRow XPlnP XGrpP XHitP XBlk XMsk XBit XOnp XOnc XOnd XCur XSrtP XAlbP. -/
import Derived.Test.YtofcicomhnkocaaGreatBp02
import Derived.Test.YtofcicomhnkocaaGreatBp01
import Derived.Test.YtofcicomhnkocaaGreatBp05
import Derived.Test.YtofcicomhnkocaaGreatBp04
import Derived.Test.YtofcicomhnkocaaGreatBp03
import Derived.Lib.QuietBelow
import Derived.Lib.SlicesCompact
import Derived.Sort.OwnSortedInts
set_option linter.unusedVariables false
namespace Go.Proofs.YtofcicomhnkocaaGreat
set_option maxHeartbeats 3200000
open Go.RowKit
structure Fmt where
 c:Int
 r:Int
def nilFm:Fmt:=⟨0,0⟩
def fmE (z:Fmt):List Value:=[.int .i64 z.c,.int .i64 z.r]
def fmAt (zs:List Fmt) (i:Nat):Bool:=
 inB (zs[i]?.getD nilFm).c 1 20000&&(inB (zs[i]?.getD nilFm).r 1 1000 && !(decide (0<i)&&(decide ((zs[i-1]?.getD nilFm).c≤(zs[i]?.getD nilFm).c) || decide ((zs[i]?.getD nilFm).r≤(zs[i-1]?.getD nilFm).r))))
def fmOk (zs:List Fmt):Bool:=(List.range zs.length).all (fmAt zs)&&inB (zs.length:Int) 1 6
theorem fmOk_at {zs:List Fmt} {k:Nat} (hk:k<zs.length) (h:fmAt zs k=false):fmOk zs=false:=by
 unfold fmOk
 have:(List.range zs.length).all (fmAt zs)=false:=by
  rw[List.all_eq_false]
  exact⟨k,List.mem_range.2 hk,by simp[h]⟩
 rw[this];rfl
theorem fmOk_all {zs:List Fmt} (h:∀i,i<zs.length→fmAt zs i=true):fmOk zs=inB (zs.length:Int) 1 6:=by
 unfold fmOk
 have:(List.range zs.length).all (fmAt zs)=true:=List.all_eq_true.2 fun i hi=>h i (List.mem_range.1 hi)
 rw[this];rfl
theorem fmOk_long {zs:List Fmt} (h:6<zs.length):fmOk zs=false:=by
 unfold fmOk
 have:inB (zs.length:Int) 1 6=false:=by unfold inB;rw[decide_eq_false (show¬(zs.length:Int)≤6 by omega)];simp
 rw[this];simp
theorem fmOk_len {zs:List Fmt} (h:fmOk zs=true):1≤zs.length∧zs.length≤6:=by
 unfold fmOk at h
 simp only[Bool.and_eq_true] at h
 have:=inB_true h.2
 omega
theorem fm_up {zs:List Fmt} {k:Nat} (h:∀i,i<k→fmAt zs i=true) (hk:fmAt zs k=true):∀i,i<k+1→fmAt zs i=true:=fun i hi=>by
 by_cases e:i=k
 · subst e;exact hk
 · exact h i (by omega)
open Go.RowKit Go.WideShapes
set_option maxRecDepth 100000
section
variable {H : Type} {enc : TypeId × Value → H} {W : World} {r : Reach} {b0 : Nat} {v : Value} {d : DataW H} {ps : List MemPlace}
instance:Inhabited Fmt:=⟨nilFm⟩
theorem opens_fmt:Opens enc Tryz.prog W 103 (fun f:Fmt=>(fmE f).map Dt.leaf):=
 opens_map' (opens_struct2 (k0:=1) (k1:=1) Tryz.underlying103 (by kernel_rfl) rfl rfl (by kernel_rfl) (by kernel_rfl) opens_int_ opens_int_) (fun p=>⟨p.1,p.2⟩) (fun _=>rfl)
theorem opens_fmts:Opens enc Tryz.prog W 26 (fun zs:List Fmt=>[flt 2 fmE zs]):=
 opens_flt (m:=2) (en:=fmE) (fun _=>rfl) (by decide) Tryz.underlying26 (by kernel_rfl) opens_fmt
theorem open_formats (hval:Value.okWide Tryz.prog W r b0 26 v) (h:DataW.Trod enc Tryz.prog W 0 (fun _=>true) true 26 v d ps):∃zs:List Fmt,Rwt W (flt 2 fmE zs) v:=
 opens_val Tryz.underlying26 hval opens_fmts h
end
open Go.RowKit Go.Sort
def fmV (z:Fmt):Value:= .agg #[.int .i64 z.c,.int .i64 z.r]
def mkFmt (q:Int):Fmt:=⟨q,q+1⟩
theorem szFormatS_any (v:Value) (zs:List Fmt) (l:Int) (w:World) (h:Rwt w (flt 2 fmE zs) v) (h0:0≤l) (h1:l≤1048576):
 Calls Tryz.prog 13 #[v,.int .i64 l] w fun e w'=>e= .returned (.int .i64 (if l<zs.length then -1 else l-zs.length))∧w=w':=by
 obtain⟨a,n,cap,rfl,HN,hla,_⟩:=flt_opnw (m:=2) (enc:=fmE) (fun _=>rfl) (by omega) nilFm h
 rw[HN.out]
 clear h
 by_cases hc:l-n<0
 · have hb:decide (l-n<0)=true:=by simpa using hc
   have e:(if l<(n:Int) then(-1:Int) else l-n)= -1:=if_pos (by omega)
   rw[e]
   go_enter Tryz.func13,Tryz.ntmps13
   go_wp2
   go_ret
   exact⟨rfl,rfl⟩
 · have hb:decide (l-n<0)=false:=by simpa using hc
   have e:(if l<(n:Int) then(-1:Int) else l-n)=l-n:=if_neg (by omega)
   rw[e]
   go_enter Tryz.func13,Tryz.ntmps13
   go_wp2
   go_ret
   exact⟨rfl,rfl⟩
theorem toFormat_any (z:Fmt) (w:World):
 Calls Tryz.prog 62 #[fmV z] w fun e w'=>e= .returned (fmV z)∧Below w.heap.size w w':=by
 unfold fmV
 go_enter Tryz.func62,Tryz.ntmps62
 go_wp2
 exact bodyPost_ret (v:= .agg #[.int .i64 z.c,.int .i64 z.r]) (by simp[results,Tryz.results62,go_sem]) rfl ⟨rfl,(((Below.refl _ _).alloc (Nat.le_refl _) _).alloc (by simp) _).alloc (by simp;omega) _⟩
theorem eqFormat_same (z:Fmt) (w:World):
 Calls Tryz.prog 68 #[fmV z,fmV z] w fun e w'=>e= .returned (.bool true)∧Below w.heap.size w w':=by
 have n0:(z.c != z.c)=false:=by simp
 have n1:(z.r != z.r)=false:=by simp
 have HB:=Lib.hid (((Below.refl w.heap.size w).alloc (Nat.le_refl _) (.cells #[.int .i64 z.c,.int .i64 z.r] 101)).alloc (by simp) (.cells #[.int .i64 z.c,.int .i64 z.r] 101))
 unfold fmV
 go_enter Tryz.func68,Tryz.ntmps68
 go_wp2
 go_ret
 exact⟨rfl,HB.out⟩
theorem Tryz.infoFormat:(Tryz.prog.info? 101).map (fun i=>(i.zero,i.size,i.bytes))=some (some (.agg #[.int .i64 0,.int .i64 0]),2,16):=by kernel_rfl
theorem toFormatS_any (v:Value) (zs:List Fmt) (w:World) (h:Rwt w (flt 2 fmE zs) v) (hr:zs.length≤1048576):
 Calls Tryz.prog 17 #[v] w fun e w'=>∃v',e= .returned v'∧Ofr w' w.heap.size (flt 2 fmE zs) v'∧Below w.heap.size w w':=by
 obtain⟨i0,hi,hz0,hz1,hz2⟩:=info_parts Tryz.infoFormat
 obtain⟨a,n,cap,rfl,HN,hn,ha⟩:=flt_opnw (m:=2) (enc:=fmE) (fun _=>rfl) (by omega) nilFm h
 have HA:=Lib.hid ha
 have HL:=Lib.hid (fun k hk=>fillG_len nilFm zs n k HN.out hk)
 have HST:=Lib.hid (fun k hk=>fillG_step nilFm zs n k HN.out hk)
 have HAL:=Lib.hid (fillG_all nilFm zs n HN.out)
 rw[HN.out] at hr
 clear ha h
 go_enter Tryz.func17,Tryz.ntmps17
 go_wp2_with (refine wpList_make_full _ rfl _ _ 37 rfl w.heap.size 101 i0 (.agg #[.int .i64 0,.int .i64 0]) 2 Tryz.underlying37 hi hz0 hz1 _ _ _ _ n rfl rfl rfl rfl (by rw[hz2];omega) (by unfold maxLen;omega) (Nat.le_refl _) ?_;intro w1 hown1 hgrow1)
 have HO1:=Lib.hid (show Ofr w1 w.heap.size (flt 2 fmE (fillG nilFm zs n 0)) (.slice (some ⟨w.heap.size,0,none⟩) n n) from by
  rw[fillG_zero]
  exact made_flat (enc:=fmE) (fun _=>rfl) (by omega) nilFm rfl hown1)
 have HB1:=Lib.hid (show Below w.heap.size w w1 from(Below.refl _ _).grown hgrow1 (Nat.le_refl _) (by simp))
 clear hown1 hgrow1
 go_loopw [4] (fun i wr=>∃k:Nat,k≤n∧i= .int .i64 k∧Hid (Ofr wr w.heap.size (flt 2 fmE (fillG nilFm zs n k)) (.slice (some ⟨w.heap.size,0,none⟩) n n))∧Hid (Below w.heap.size w wr)) (fun i _=>n-(intOf i).toNat)
 case atStart=>exact⟨0,by omega,rfl,HO1.out,HB1.out⟩
 case round=>
  obtain⟨k,hk,rfl,HO,HB⟩:=hrel
  by_cases hlt:k<n
  · obtain⟨b,off,rfl,hbs,hcs⟩:=HA.out (by omega)
    have hltI:(k:Int)<(n:Int):=by omega
    have d0:=(HB.out.cell (p:=⟨b,off+k*2+0,none⟩) hbs).trans (hcs k hlt 0 _ rfl)
    have d1:=(HB.out.cell (p:=⟨b,off+k*2+1,none⟩) hbs).trans (hcs k hlt 1 _ rfl)
    simp only[Nat.add_zero] at d0
    have HS:=Lib.hid (fun w=>toFormat_any (zs[k]?.getD nilFm) w)
    have HSK:=Lib.hid (HST.out k hlt)
    have HLK:=Lib.hid (HL.out k (by omega))
    clear hcs HO1 HB1
    unfold fmV at HS
    generalize zs[k]?.getD nilFm=z at *
    go_wp2_with fail
    refine(HS.out _).mono ?_
    rintro e w2 ⟨rfl,b2⟩
    obtain⟨g,o,cp,ev,hg1,hg2,hcc,hfz,hof⟩:=flt_put (enc:=fmE) (m:=2) (fun _=>rfl) (by omega) (HO.out.below b2) (Nat.le_trans HB.out.size b2.size) (k:=k) (by rw[HLK.out];exact hlt) z
    simp only[Value.slice.injEq,Option.some.injEq,Addr.mk.injEq,and_true] at ev
    obtain⟨⟨rfl,rfl⟩,-,rfl⟩:=ev
    rw[HSK.out] at hof
    simp only[Nat.zero_add] at hcc hof
    obtain⟨q0,c0⟩:=hcc 0 (by omega)
    obtain⟨q1,c1⟩:=hcc 1 (by omega)
    simp only[Nat.add_zero] at c0
    have f0:=hfz (k*2+0)
    have f1:=hfz (k*2+1)
    simp only[Nat.add_zero] at f0
    have HB2:=Lib.hid (setRow_below (Nat.le_refl w.heap.size) (fmE z) w2 (k*2) (HB.out.trans (b2.mono HB.out.size)))
    simp only[setRow,fmE] at hof HB2
    have HOF:=Lib.hid hof
    clear hof b2 hfz hcc
    go_wp2
    go_roundw
    case rel=>exact⟨k+1,by omega,by go_num,HOF.out,HB2.out⟩
    case measure=>simp[intOf];omega
  · obtain rfl:k=n:=by omega
    have hof:=HO.out
    rw[HAL.out] at hof
    have HOF:=Lib.hid hof
    go_wp2
    go_ret
    exact⟨_,rfl,HOF.out,HB.out⟩
theorem eqFormatS_same (va vb:Value) (zs:List Fmt) (w:World) (ha:Rdt w (flt 2 fmE zs) va) (hb:Rdt w (flt 2 fmE zs) vb):
 Calls Tryz.prog 21 #[va,vb] w fun e w'=>e= .returned (.bool true)∧Below w.heap.size w w':=by
 obtain⟨a,n,ca,rfl,HN,_,hn,HA⟩:=flt_opn (m:=2) (enc:=fmE) (fun _=>rfl) (by omega) nilFm ha
 obtain⟨b,n2,cb,rfl,HM,_,_,HBB⟩:=flt_opn (m:=2) (enc:=fmE) (fun _=>rfl) (by omega) nilFm hb
 obtain rfl:n=n2:=HN.out.symm.trans HM.out
 have HA:=Lib.hid HA
 have HBB:=Lib.hid HBB
 clear HM ha hb
 have hne:((n:Int) != (n:Int))=false:=by simp
 go_enter Tryz.func21,Tryz.ntmps21
 go_wp2
 go_loopw [5] (fun i wr=>∃k:Nat,k≤n∧i= .int .i64 k∧Hid (Below w.heap.size w wr)) (fun i _=>n-(intOf i).toNat)
 case atStart=>exact⟨0,by omega,rfl,Below.refl _ _⟩
 case round=>
  obtain⟨k,hk,rfl,HB⟩:=hrel
  by_cases hlt:k<n
  · obtain⟨g1,o1,rfl,hg1,hc1⟩:=HA.out (by omega)
    obtain⟨g2,o2,rfl,hg2,hc2⟩:=HBB.out (by omega)
    have hltI:(k:Int)<(n:Int):=by omega
    have x0:=rg ((HB.out.cell (p:=⟨g1,o1+k*2+0,none⟩) hg1).trans (hc1 k hlt 0 _ rfl))
    have y0:=rg ((HB.out.cell (p:=⟨g2,o2+k*2+0,none⟩) hg2).trans (hc2 k hlt 0 _ rfl))
    have x1:=rg ((HB.out.cell (p:=⟨g1,o1+k*2+1,none⟩) hg1).trans (hc1 k hlt 1 _ rfl))
    have y1:=rg ((HB.out.cell (p:=⟨g2,o2+k*2+1,none⟩) hg2).trans (hc2 k hlt 1 _ rfl))
    simp only[Nat.add_zero] at x0 y0
    have HQ:=Lib.hid (fun w=>eqFormat_same (zs[k]?.getD nilFm) w)
    unfold fmV at HQ
    generalize zs[k]?.getD nilFm=z at *
    clear hc1 hc2
    go_wp2
    refine wp_region_quiet_below (by kernel_rfl) (by kernel_rfl) ?_
    repeat (go_big_quiet_step (first | (go_at_call 68;exact Calls.regrown_of (HQ.out _))))
    refine wpQuiet_nil ?_
    rintro _ ⟨⟨dq,osq⟩,rfl⟩
    go_wp2
    go_roundw
    case rel=>exact⟨k+1,by omega,by go_num,HB.out.trans ((below_regrown _ dq osq).mono HB.out.size)⟩
    case measure=>simp[intOf];omega
  · obtain rfl:k=n:=by omega
    go_wp2
    go_ret
    exact⟨rfl,HB.out⟩
theorem markFormatS_any (v:Value) (zs:List Fmt) (fp:List Nat) (q:Int) (w:World) (h:Odt w (flt 2 fmE zs) v fp) (hn:fp.Nodup) (hb:zs.length≤4194304) (hq:0≤q) (hq2:q≤1125899906842624):
 Calls Tryz.prog 35 #[v,.int .i64 q] w fun e w'=>e= .returned (.int .i64 (q+2*(zs.length:Int)))∧Odt w' (flt 2 fmE ((List.range zs.length).map fun i:Nat=>mkFmt (q+2*(i:Int)))) v fp∧Wr w w' fp:=by
 obtain⟨a,n,cap,rfl,HN,_,hnl,-⟩:=flt_opn (m:=2) (enc:=fmE) (fun _=>rfl) (by omega) nilFm h.rd
 obtain⟨f,hf⟩:∃f:Nat→Fmt,f=fun i:Nat=>mkFmt (q+2*(i:Int)):=⟨_,rfl⟩
 have HFE:=Lib.hid (fun i=>congrFun hf i)
 rw[←hf,HN.out]
 rw[HN.out] at hb
 clear hf
 have HST:=Lib.hid (fun k (h:k<n)=>mkG_step f zs k (by rw[HN.out];exact h))
 have HLN:=Lib.hid (fun k (h:k≤n)=>(mkG_len f zs k (by rw[HN.out];exact h)).trans HN.out)
 have HALL:=Lib.hid (mkG_all f zs n HN.out)
 have HH:=Lib.hid h
 clear h
 go_enter Tryz.func35,Tryz.ntmps35
 go_wp2
 go_loopw [1,5] (fun x i wr=>∃k:Nat,k≤n∧i= .int .i64 k∧x= .int .i64 (q+2*(k:Int))∧Hid (Odt wr (flt 2 fmE (mkG f zs k)) (.slice a n cap) fp)∧Hid (Wr w wr fp)) (fun _ i _=>n-(intOf i).toNat)
 case atStart=>exact⟨0,by omega,rfl,int_eq (by simp),by rw[mkG_zero];exact HH.out,Wr.refl _ _⟩
 case round=>
  obtain⟨k,hk,rfl,rfl,HO,HW⟩:=hrel
  by_cases hlt:k<n
  · have hltI:(k:Int)<(n:Int):=by omega
    obtain⟨g,off,rfl,hcc,hfz,hset⟩:=flt_mark (enc:=fmE) (m:=2) (fun _=>rfl) (by omega) HO.out hn (k:=k) (by rw[HLN.out k (by omega)];exact hlt)
    obtain⟨s1,s2⟩:=hset (f k)
    rw[HST.out k hlt] at s1
    have hfk:=HFE.out k
    obtain⟨p,hp⟩:∃p:Int,p=q+2*(k:Int):=⟨_,rfl⟩
    have hp1:0≤p:=by omega
    have hp2:p≤1125899940397056:=by omega
    rw[←hp] at hfk ⊢
    have HP:=Lib.hid hp
    clear hp
    rw[hfk] at s1 s2
    simp only[setRow,fmE,mkFmt] at s1 s2
    have HS1:=Lib.hid s1
    have HS2:=Lib.hid (HW.out.trans s2)
    obtain⟨q0,c0⟩:=hcc 0 (by omega)
    obtain⟨q1,c1⟩:=hcc 1 (by omega)
    have f0:=hfz (off+k*2+0)
    have f1:=hfz (off+k*2+1)
    simp only[Nat.add_zero] at c0 f0
    clear s1 s2 hset hcc hfz hfk
    go_wp2
    go_roundw
    case rel=>exact⟨k+1,by omega,by go_num,int_eq (by rw[HP.out];omega),HS1.out,HS2.out⟩
    case measure=>simp[intOf];omega
  · obtain rfl:k=n:=by omega
    have ho:=HO.out
    rw[HALL.out] at ho
    have HOF:=Lib.hid ho
    clear HO ho
    go_wp2
    go_ret
    exact⟨rfl,HOF.out,HW.out⟩
theorem szFormatS_Q (v:Value) (zs:List Fmt) (l:Int) (w:World) (h:Rwt w (flt 2 fmE zs) v) (h0:0≤l) (h1:l≤1048576):Calls Tryz.prog 13 #[v,.int .i64 l] w (SzQ zs.length l w):=by
 refine(szFormatS_any v zs l w h h0 h1).mono ?_
 rintro e w' ⟨rfl,rfl⟩
 by_cases hx:l<(zs.length:Int)
 · rw[if_pos hx];exact⟨_,rfl,Below.refl _ _,.inl ⟨rfl,hx⟩⟩
 · rw[if_neg hx];exact⟨_,rfl,Below.refl _ _,.inr ⟨rfl,by omega⟩⟩
theorem toFormatS_P (v:Value) (zs:List Fmt) (w:World) (h:Rwt w (flt 2 fmE zs) v) (hr:zs.length≤1048576):Calls Tryz.prog 17 #[v] w (ToP (fun w' v' fp=>Odt w' (flt 2 fmE zs) v' fp) w):=by
 refine(toFormatS_any v zs w h hr).mono ?_
 rintro e w' ⟨v',rfl,⟨fp,h1,h2,h3⟩,hb⟩
 exact⟨v',fp,rfl,h1,h2,h3,hb⟩
theorem markFormatS_N (v:Value) (zs:List Fmt) (fp:List Nat) (q:Nat) (w:World) (h:Odt w (flt 2 fmE zs) v fp) (hn:fp.Nodup) (hb:zs.length≤1048576) (hq:0<q) (hq2:q≤1099511627776):
 Calls Tryz.prog 35 #[v,.int .i64 (q:Int)] w fun e w'=>e= .returned (.int .i64 ((q+2*zs.length:Nat):Int))∧Odt w' (flt 2 fmE ((List.range zs.length).map fun i:Nat=>mkFmt ((q:Int)+2*(i:Int)))) v fp∧Wr w w' fp:=by
 refine(markFormatS_any v zs fp q w h hn (by omega) (by omega) (by omega)).mono ?_
 rintro e w' ⟨rfl,h1,h2⟩
 exact⟨ret_int (by omega),h1,h2⟩
section
variable {α : Type}
def rws (m:Nat) (en:α→List Dt) (zs:List α):Dt:= .rows m (zs.flatMap en)
theorem rws_len {en:α→List Dt} {m:Nat} (hm:∀z,(en z).length=m) (zs:List α):(zs.flatMap en).length=zs.length*m:=flat_length hm zs
theorem rws_at {en:α→List Dt} {m:Nat} (hm:∀z,(en z).length=m) (nil:α) (zs:List α) {i r:Nat} (hi:i<zs.length) (hr:r<m):(zs.flatMap en)[i*m+r]?= (en (zs[i]?.getD nil))[r]?:=by
 rw[flat_at hm zs i r hr,List.getElem?_eq_getElem hi];rfl
theorem rws_opn {en:α→List Dt} {m:Nat} {w:World} {v:Value} {zs:List α} (hm:∀z,(en z).length=m) (hm0:0<m) (nil:α) (h:Rdt w (rws m en zs) v):
 ∃a n cap,v= .slice a n cap∧Hid (zs.length=n)∧n≤cap∧n≤9223372036854775807∧
 (0<n→ ∃b off,a=some ⟨b,off,none⟩∧b<w.heap.size∧ ∀i,i<n→ ∀r d,(en (zs[i]?.getD nil))[r]?= some d→ ∃u,w.cell? ⟨b,off+i*m+r,none⟩=some u∧Rdt w d u):=by
 obtain⟨a,n,cap,hv,HN,h1,h2,h3⟩:=h.opn
 have hn:zs.length=n:=by
  have:=HN.out
  rw[rws_len hm] at this
  exact Nat.eq_of_mul_eq_mul_right hm0 this
 refine⟨a,n,cap,hv,hn,h1,h2,fun h0=> ?_⟩
 obtain⟨b,off,ea,hb,hc⟩:=h3 h0
 refine⟨b,off,ea,hb,fun i hi r d hd=> ?_⟩
 have hr:r<m:=by rw[←hm (zs[i]?.getD nil)];exact(List.getElem?_eq_some_iff.1 hd).1
 obtain⟨u,k1,k2⟩:=hc (i*m+r) d (by rw[rws_at hm nil zs (by omega) hr];exact hd)
 exact⟨u,by rw[Nat.add_assoc];exact k1,k2⟩
theorem rws_take {en:α→List Dt} {m:Nat} {w:World} {a:Option Addr} {n cap k:Nat} {zs:List α} (hm:∀z,(en z).length=m) (hm0:0<m) (nil:α) (h:Rdt w (rws m en zs) (.slice a n cap)) (hk:k≤n):Rdt w (rws m en (zs.take k)) (.slice a k cap):=by
 unfold rws at h ⊢
 have hlen:=rws_len hm zs
 have hlk:=rws_len hm (zs.take k)
 have hat:∀j,j<(zs.take k).length*m→((zs.take k).flatMap en)[j]?= (zs.flatMap en)[j]?:=fun j hj=>by
  obtain⟨i,r,hr,rfl⟩:∃i r,r<m∧j=i*m+r:=⟨j/m,j%m,Nat.mod_lt _ hm0,by rw[Nat.mul_comm];exact(Nat.div_add_mod j m).symm⟩
  have hi:i<(zs.take k).length:=by
   by_cases e:i<(zs.take k).length
   · exact e
   · have:=Nat.mul_le_mul_right m (Nat.le_of_not_lt e);omega
  have hi2:i<zs.length:=by rw[List.length_take] at hi;omega
  have hik:i<k:=by rw[List.length_take] at hi;omega
  rw[rws_at hm nil (zs.take k) hi hr,rws_at hm nil zs hi2 hr,List.getElem?_take,if_pos hik]
 generalize zs.flatMap en=ds at *
 generalize (zs.take k).flatMap en=ds' at *
 cases h with
 | nil size=>
   obtain rfl:k=0:=by omega
   have:ds'=[]:=List.eq_nil_of_length_eq_zero (by simpa using hlk)
   rw[this];exact .nil m
 | @mk size n b off cap ds us hl hu hn hc hb hcell hd=>
   have hzl:zs.length=n:=Nat.eq_of_mul_eq_mul_right hm0 (by omega)
   have hkl:(zs.take k).length=k:=by rw[List.length_take];omega
   rw[hkl] at hlk hat
   have hkm:=Nat.mul_le_mul_right m hk
   refine .mk (us:=us.take (k*m)) hlk (by rw[List.length_take,hlk];omega) (by omega) hc hb (fun j u hj=> ?_) (fun j d u e1 e2=> ?_)
   · rw[List.getElem?_take] at hj
     split at hj
     · exact hcell j u hj
     · cases hj
   · rw[List.getElem?_take] at e2
     split at e2
     · rename_i hjk
       rw[hat j hjk] at e1
       exact hd j d u e1 e2
     · cases e2
end
/-! ### Routes -/
structure Rou where
 st:Int
 fb:List Int
def othE (f:Fib) (node:Int):Int:=if node=f.a then f.b else if node=f.b then f.a else -1
def wlk (n:Net):List Int→Int→List Int→Option (List Int)
 | out,_,[]=>some out
 | out,t,i::is=>if inB i 0 ((n.fs.length:Int)-1) then(if othE (fbA n i.toNat) t<0∨othE (fbA n i.toNat) t∈out then none else wlk n (out++[othE (fbA n i.toNat) t]) (othE (fbA n i.toNat) t) is) else none
def rouN (n:Net) (r:Rou):Option (List Int):=if inB r.st 0 ((n.ns.length:Int)-1) && !r.fb.isEmpty then wlk n [r.st] r.st r.fb else none
def rouOk (n:Net) (r:Rou):Bool:=(rouN n r).isSome
theorem wlk_step {n:Net} {out:List Int} {t:Int} {xs:List Int} {k:Nat} (hk:k<xs.length):wlk n out t (xs.drop k)=(if inB (xs[k]?.getD 0) 0 ((n.fs.length:Int)-1) then(if othE (fbA n (xs[k]?.getD 0).toNat) t<0∨othE (fbA n (xs[k]?.getD 0).toNat) t∈out then none else wlk n (out++[othE (fbA n (xs[k]?.getD 0).toNat) t]) (othE (fbA n (xs[k]?.getD 0).toNat) t) (xs.drop (k+1))) else none):=by
 rw[List.drop_eq_getElem_cons hk,List.getElem?_eq_getElem hk]
 rfl
/-! ### Blocks -/
def blkOk (f c:Int):Bool:=decide (0≤f)&&(inB c 1 24&&decide (f≤24-c))
theorem blkOk_bd {f c:Int} (h:blkOk f c=true):0≤f∧1≤c∧f+c≤24:=by
 unfold blkOk at h
 simp only[Bool.and_eq_true,decide_eq_true_eq] at h
 have:=inB_true h.2.1
 omega
def mskN (f c:Nat):Nat:=(2 ^ c-1)*2 ^ f
def msk (f c:Int):Int:=(mskN f.toNat c.toNat:Int)
/-! ### Lights -/
structure Lgt where
 id:Int
 st:Int
 fb:List Int
 fi:Int
 ct:Int
def nilL:Lgt:=⟨0,0,[],0,0⟩
def lgtD (x:Lgt):List Dt:=[.leaf (.int .i64 x.id),.leaf (.int .i64 x.st),inD x.fb,.leaf (.int .i64 x.fi),.leaf (.int .i64 x.ct)]
def lgtOk (n:Net) (x:Lgt):Bool:=rouOk n ⟨x.st,x.fb⟩&&inB x.id 1 999&&blkOk x.fi x.ct
def meets (xs ys:List Int):Bool:=xs.any fun x=>ys.contains x
def hitB (x y:Lgt):Bool:=decide (x.fi<y.fi+y.ct∧y.fi<x.fi+x.ct)
def collB (x y:Lgt):Bool:=hitB x y&&meets x.fb y.fb
/-! ### Plans -/
structure Pln where
 n:Net
 ls:List Lgt
abbrev lgA (p:Pln) (i:Nat):Lgt:=p.ls[i]?.getD nilL
def ltOk (p:Pln) (i:Nat):Bool:=lgtOk p.n (lgA p i)&&(!(decide (0<i)&&decide ((lgA p i).id≤(lgA p (i-1)).id)) && !((p.ls.take i).any fun y=>collB y (lgA p i)))
def plnOk (p:Pln):Bool:=netOk p.n&&(decide (p.ls.length≤12)&&(List.range p.ls.length).all (ltOk p))
def PlnR (w:World) (v:Value) (p:Pln):Prop:=∃u1 u2 u3,v= .agg #[u1,u2,u3]∧Rdt w (flt 1 strE p.n.ns) u1∧Rdt w (flt 4 fibE p.n.fs) u2∧Rdt w (rws 5 lgtD p.ls) u3∧ ∀i:Nat,(nmA p.n i).size≤1048576
theorem PlnR.behind {w w':World} {v:Value} {p:Pln} (h:PlnR w v p) (hb:Below w.heap.size w w'):PlnR w' v p:=by
 obtain⟨u1,u2,u3,e,h1,h2,h3,h4⟩:=h;exact⟨u1,u2,u3,e,h1.behind hb,h2.behind hb,h3.behind hb,h4⟩
def grpTo (n:Net) (g:Int) (k:Nat):List Int:=((List.range k).filter fun i=>decide ((fbA n i).r=g)).map fun i:Nat=>(i:Int)
def grp (n:Net) (g:Int):List Int:=grpTo n g n.fs.length
def gA (n:Net):Nat→List (List Int)
 | 0=>[]
 | g+1=>if(grp n ((g+1:Nat):Int)).length=0 then gA n g else gA n g++[grp n ((g+1:Nat):Int)]
def gS (n:Net):Nat→List (List Int)
 | 0=>[]
 | k+1=>if(fbA n k).r=0 then gS n k++[[(k:Int)]] else gS n k
def grps (n:Net):List (List Int):=gA n 9++gS n n.fs.length
def grA (n:Net) (g:Int):List Int:=(grps n)[g.toNat]?.getD []
def fof (n:Net) (gs:List Int):List Int:=gs.flatMap (grA n)
def hitL (p:Pln) (gs:List Int) (x:Lgt):Bool:=meets x.fb (fof p.n gs)
def hitTo (p:Pln) (gs:List Int) (k:Nat):List Int:=((p.ls.take k).filter (hitL p gs)).map (·.id)
def hts (p:Pln) (gs:List Int):List Int:=hitTo p gs p.ls.length
/-! ### Bits -/
def nats (ms:List Nat):List Int:=ms.map fun k:Nat=>(k:Int)
theorem nats_len (ms:List Nat):(nats ms).length=ms.length:=by simp[nats]
theorem nats_at (ms:List Nat) (i:Nat):(nats ms)[i]?.getD 0=((ms[i]?.getD 0:Nat):Int):=by
 unfold nats
 rw[List.getElem?_map]
 cases ms[i]? <;> rfl
theorem or_lt {a b k:Nat} (ha:a<2 ^ k) (hb:b<2 ^ k):a ||| b<2 ^ k:=Nat.or_lt_two_pow ha hb
/-! ### Sets of numbers -/
theorem IsValidBlock_any (f c:Int) (w:World):
 Calls Tryz.prog 140 #[.agg #[.int .i64 f,.int .i64 c]] w fun e w'=>e= .returned (.bool (blkOk f c))∧Below w.heap.size w w':=by
 obtain⟨bx,bc,-,-⟩:=box_facts w #[.int .i64 f,.int .i64 c] 84
 have q0:=bc 0 _ rfl
 have q1:=bc 1 _ rfl
 have HBX:=Lib.hid bx
 have HV:=Lib.hid (show blkOk f c=(decide (0≤f)&&(inB c 1 24&&decide (f≤24-c))) from rfl)
 clear bc bx
 generalize blkOk f c=q at *
 cases h0:decide (0≤f)
 · rw[h0] at HV
   go_enter Tryz.func140,Tryz.ntmps140
   go_wp2
   go_ret
   exact⟨by rw[HV.out];rfl,HBX.out⟩
 rw[h0] at HV
 cases h1:inB c 1 24
 · rw[h1] at HV
   go_enter Tryz.func140,Tryz.ntmps140
   go_wp2_with (go_at_call 74;refine(within_any _ _ _ _).mono ?_;rintro e w' ⟨rfl,rfl⟩;rw[h1])
   go_ret
   exact⟨by rw[HV.out];rfl,HBX.out⟩
 rw[h1] at HV
 have hc:=inB_true h1
 obtain⟨d,hd⟩:∃d,24-c=d:=⟨_,rfl⟩
 rw[hd] at HV
 have f1:IntKind.i64.wrap (24-c)=d:=by rw[←hd];exact IntWalk.i64_in _ (by omega)
 have f2:wrap64 (24-c)=d:=by rw[←hd];exact IntWalk.wrap64_in _ (by omega)
 clear hd hc
 cases h2:decide (f≤d)
 all_goals
  rw[h2] at HV
  go_enter Tryz.func140,Tryz.ntmps140
  go_wp2_with (go_at_call 74;refine(within_any _ _ _ _).mono ?_;rintro e w' ⟨rfl,rfl⟩;rw[h1])
  go_ret
  exact⟨by rw[HV.out];rfl,HBX.out⟩
theorem mskN_bit (f c i:Nat):(mskN f c).testBit i=(decide (f≤i)&&decide (i<f+c)):=by
 unfold mskN
 rw[Nat.testBit_mul_two_pow,Nat.testBit_two_pow_sub_one]
 by_cases h:f≤i
 · simp only[h,decide_true,Bool.true_and]
   rw[decide_eq_decide];omega
 · simp[h]
theorem mskN_meet (f c g d:Nat) (hc:0<c) (hd:0<d):(mskN f c &&& mskN g d=0)↔ ¬(f<g+d∧g<f+c):=by
 constructor
 · intro h ⟨h1,h2⟩
   have:=congrArg (fun x=>x.testBit (max f g)) h
   simp only[Nat.testBit_and,mskN_bit,Nat.zero_testBit,Bool.and_eq_false_iff,decide_eq_false_iff_not] at this
   omega
 · intro h
   apply Nat.eq_of_testBit_eq
   intro i
   simp only[Nat.testBit_and,mskN_bit,Nat.zero_testBit,Bool.and_eq_false_iff,decide_eq_false_iff_not]
   omega
theorem mskN_lt (f c:Nat) (h:f+c≤24):mskN f c<16777216:=by
 unfold mskN
 have h1:2 ^ c*2 ^ f≤2 ^ 24:=by rw[←Nat.pow_add];exact Nat.pow_le_pow_right (by omega) (by omega)
 have h2:(2 ^ c-1)*2 ^ f+2 ^ f=2 ^ c*2 ^ f:=by
  have:0<2 ^ c:=Nat.two_pow_pos c
  rw[Nat.sub_mul,Nat.one_mul]
  exact Nat.sub_add_cancel (Nat.le_mul_of_pos_left _ this)
 have h3:0<2 ^ f:=Nat.two_pow_pos f
 omega
theorem msk_val {f c:Nat} (h:f+c≤24):wrap64 (wrap64 (wrap64 ((2:Int) ^ c)-1)*(2:Int) ^ f)=(mskN f c:Int):=by
 have hm:=mskN_lt f c h
 have hc:2 ^ c≤2 ^ 24:=Nat.pow_le_pow_right (by omega) (by omega)
 have hc0:0<2 ^ c:=Nat.two_pow_pos c
 have e1:(2:Int) ^ c=((2 ^ c:Nat):Int):=by simp
 have e2:(2:Int) ^ f=((2 ^ f:Nat):Int):=by simp
 rw[e1,e2]
 have w1:wrap64 ((2 ^ c:Nat):Int)=((2 ^ c:Nat):Int):=IntWalk.wrap64_in _ (by omega)
 have e3:(((2 ^ c:Nat):Int)-1)=((2 ^ c-1:Nat):Int):=by omega
 have w2:wrap64 ((2 ^ c-1:Nat):Int)=((2 ^ c-1:Nat):Int):=IntWalk.wrap64_in _ (by omega)
 rw[w1,e3,w2,←Int.natCast_mul]
 show wrap64 ((mskN f c:Nat):Int)=_
 exact IntWalk.wrap64_in _ (by omega)
theorem maskOf_any (f c:Nat) (w:World) (h:f+c≤24):
 Calls Tryz.prog 142 #[.agg #[.int .i64 f,.int .i64 c]] w fun e w'=>e= .returned (.int .i64 (mskN f c))∧Below w.heap.size w w':=by
 obtain⟨bx,bc,-,-⟩:=box_facts w #[.int .i64 f,.int .i64 c] 84
 have q0:=bc 0 _ rfl
 have q1:=bc 1 _ rfl
 have HBX:=Lib.hid bx
 have HVV:=Lib.hid (msk_val h)
 clear bc bx
 go_enter Tryz.func142,Tryz.ntmps142
 go_wp2
 go_quiet (fail)
 go_wp2
 go_ret
 exact⟨by rw[←HVV.out];rfl,⟨HBX.out.os,HBX.out.tape,HBX.out.output,HBX.out.size,HBX.out.block⟩⟩
theorem l8Bits_any (f c:Nat) (w:World) (h:f+c≤24):
 Calls Tryz.prog 132 #[.agg #[.int .i64 f,.int .i64 c]] w fun e w'=>e= .returned (.int .i64 (mskN f c))∧Below w.heap.size w w':=by
 obtain⟨bx,bc,-,-⟩:=box_facts w #[.int .i64 f,.int .i64 c] 84
 have q0:=bc 0 _ rfl
 have q1:=bc 1 _ rfl
 have HBX:=Lib.hid bx
 have HVV:=Lib.hid (msk_val h)
 clear bc bx
 go_enter Tryz.func132,Tryz.ntmps132
 go_wp2
 go_ret
 exact⟨by rw[←HVV.out];rfl,HBX.out⟩
theorem bits_and {a b:Nat} (ha:a<16777216) (hb:b<16777216):bits .and .i64 (a:Int) (b:Int)=((a &&& b:Nat):Int):=by
 have hab:a &&& b≤a:=Nat.and_le_left
 have e:(BitVec.ofInt 64 (a:Int) &&& BitVec.ofInt 64 (b:Int)).toNat=a &&& b:=by
  rw[BitVec.toNat_and,BitVec.ofInt_natCast,BitVec.ofInt_natCast,BitVec.toNat_ofNat,BitVec.toNat_ofNat,Nat.mod_eq_of_lt (by omega),Nat.mod_eq_of_lt (by omega)]
 unfold bits
 show IntKind.i64.wrap (((BitVec.ofInt 64 (a:Int) &&& BitVec.ofInt 64 (b:Int)).toNat:Nat):Int)=_
 rw[e,IntWalk.i64_in _ (by omega)]
theorem bits_meet {f c g d:Nat} (hc:0<c) (hd:0<d) (h1:f+c≤24) (h2:g+d≤24):(bits .and .i64 (mskN f c:Int) (mskN g d:Int) != 0)=decide ((f:Int)<g+d∧(g:Int)<f+c):=by
 rw[bits_and (mskN_lt f c h1) (mskN_lt g d h2),Bool.eq_iff_iff,bne_iff_ne,decide_eq_true_eq]
 have:=mskN_meet f c g d hc hd
 omega
theorem bits_or {a b:Nat} (ha:a<16777216) (hb:b<16777216):bits .or .i64 (a:Int) (b:Int)=((a ||| b:Nat):Int):=by
 have hab:a ||| b<2 ^ 24:=or_lt (by omega) (by omega)
 have e:(BitVec.ofInt 64 (a:Int) ||| BitVec.ofInt 64 (b:Int)).toNat=a ||| b:=by
  rw[BitVec.toNat_or,BitVec.ofInt_natCast,BitVec.ofInt_natCast,BitVec.toNat_ofNat,BitVec.toNat_ofNat,Nat.mod_eq_of_lt (by omega),Nat.mod_eq_of_lt (by omega)]
 unfold bits
 show IntKind.i64.wrap (((BitVec.ofInt 64 (a:Int) ||| BitVec.ofInt 64 (b:Int)).toNat:Nat):Int)=_
 rw[e,IntWalk.i64_in _ (by omega)]
theorem shl_one {k:Nat} (hk:k<24):wrap64 ((2:Int) ^ k)=((2 ^ k:Nat):Int):=by
 have:(2:Nat) ^ k<2 ^ 24:=Nat.pow_lt_pow_right (by omega) hk
 have e:(2:Int) ^ k=((2 ^ k:Nat):Int):=by simp
 rw[e]
 generalize (2:Nat) ^ k=P at *
 exact IntWalk.wrap64_in _ (by omega)
theorem bit_at {M:Nat} (k:Nat) (hM:M<16777216):bits .and .i64 ((M:Int)/(2:Int) ^ k) 1=if M.testBit k then 1 else 0:=by
 have e:(M:Int)/(2:Int) ^ k=((M/2 ^ k:Nat):Int):=by simp
 have hle:M/2 ^ k≤M:=Nat.div_le_self _ _
 rw[e,show(1:Int)=((1:Nat):Int) from rfl,bits_and (by omega) (by omega),Nat.and_one_is_mod,Nat.testBit_eq_decide_div_mod_eq]
 by_cases h:M/2 ^ k%2=1
 · rw[h];simp
 · have:M/2 ^ k%2=0:=by omega
   rw[this];simp
theorem bit_on {M k:Nat} (hM:M<16777216) (h:M.testBit k=true):bits .and .i64 ((M:Int)/(2:Int) ^ k) 1=1:=by rw[bit_at k hM,h];rfl
theorem bit_off {M k:Nat} (hM:M<16777216) (h:M.testBit k=false):bits .and .i64 ((M:Int)/(2:Int) ^ k) 1=0:=by rw[bit_at k hM,h];rfl
theorem pow_lt24 {k:Nat} (hk:k<24):2 ^ k<16777216:=Nat.lt_of_lt_of_le (Nat.pow_lt_pow_right (by omega) hk) (Nat.le_refl (2 ^ 24))
def cntB (x:Nat):Nat→Nat
 | 0=>0
 | k+1=>cntB x k+if x.testBit k then 1 else 0
theorem cntB_le (x:Nat):∀k,cntB x k≤k
 | 0=>Nat.le_refl _
 | k+1=>by have:=cntB_le x k;rw[cntB];split <;> omega
def popN (x:Nat):Nat:=cntB x 24
theorem popN_le (x:Nat):popN x≤24:=cntB_le x 24
theorem tb8 {a:Nat} (y:Nat) (ha:a<256) (j:Nat):(a+256*y).testBit j=if j<8 then a.testBit j else y.testBit (j-8):=by
 have:=Nat.testBit_two_pow_mul_add y (show a<2 ^ 8 from ha) j
 rw[←this,Nat.add_comm]
theorem and8 {a m:Nat} (y M:Nat) (ha:a<256) (hm:m<256):(a+256*y) &&& (m+256*M)=(a &&& m)+256*(y &&& M):=by
 apply Nat.eq_of_testBit_eq
 intro i
 rw[Nat.testBit_and,tb8 y ha,tb8 M hm,tb8 _ (show a &&& m<256 from Nat.and_lt_two_pow (n:=8) _ hm)]
 split <;> rw[Nat.testBit_and]
theorem cntB_split {a:Nat} (y:Nat) (ha:a<256):∀j,cntB (a+256*y) (8+j)=cntB a 8+cntB y j
 | 0=>by
   have h:=fun i (hi:i<8)=>(tb8 y ha i).trans (if_pos hi)
   simp only[cntB,Nat.add_zero,h 0 (by omega),h 1 (by omega),h 2 (by omega),h 3 (by omega),h 4 (by omega),h 5 (by omega),h 6 (by omega),h 7 (by omega)]
 | j+1=>by
   have h:=tb8 y ha (8+j)
   rw[if_neg (by omega),show 8+j-8=j by omega] at h
   show cntB (a+256*y) (8+j)+(if(a+256*y).testBit (8+j) then 1 else 0)=cntB a 8+(cntB y j+(if y.testBit j then 1 else 0))
   rw[cntB_split y ha j,h,Nat.add_assoc]
def q1 (a:Nat):Nat:=(a/2 &&& 85)+(a &&& 85)
def q2 (a:Nat):Nat:=(a/4 &&& 51)+(a &&& 51)
def q3 (a:Nat):Nat:=(a/16+a) &&& 15
theorem q_le:∀a:Fin 256,q1 a≤170∧q2 (q1 a)≤102∧q2 (q1 a)/16≤4∧q2 (q1 a)%16≤4∧q3 (q2 (q1 a))=cntB a 8:=by decide +kernel
theorem e1:∀a:Fin 256,∀e:Fin 2,(a.val/2+128*e.val) &&& 85=a.val/2 &&& 85:=by decide +kernel
theorem e2:∀a:Fin 256,∀e:Fin 4,(a.val/4+64*e.val) &&& 51=a.val/4 &&& 51:=by decide +kernel
theorem e3:∀a:Fin 256,∀e:Fin 8,a.val≤102→(a.val/16+16*e.val+a.val) &&& 15=(a.val/16+a.val) &&& 15:=by decide +kernel
abbrev by3 (a b c:Nat):Nat:=a+256*(b+256*c)
theorem and3 {a b c m:Nat} (M:Nat) (ha:a<256) (hb:b<256) (hc:c<256) (hm:m<256):by3 a b c &&& (m+256*(m+256*(m+256*M)))=by3 (a &&& m) (b &&& m) (c &&& m):=by
 have h:=and8 0 M hc hm
 rw[Nat.mul_zero,Nat.add_zero,Nat.zero_and,Nat.mul_zero,Nat.add_zero] at h
 unfold by3
 rw[and8 _ _ ha hm,and8 _ _ hb hm,h]
theorem st1 {a b c:Nat} (ha:a<256) (hb:b<256) (hc:c<256):(by3 a b c/2 &&& 6148914691236517205)+(by3 a b c &&& 6148914691236517205)=by3 (q1 a) (q1 b) (q1 c):=by
 have x1:=e1 ⟨a,ha⟩ ⟨b%2,by omega⟩
 have x2:=e1 ⟨b,hb⟩ ⟨c%2,by omega⟩
 simp only at x1 x2
 rw[show by3 a b c/2=by3 (a/2+128*(b%2)) (b/2+128*(c%2)) (c/2) by unfold by3;omega,
  show(6148914691236517205:Nat)=85+256*(85+256*(85+256*366503875925)) by omega]
 rw[and3 _ (by omega) (by omega) (by omega) (by omega),and3 _ ha hb hc (by omega),x1,x2]
 unfold by3 q1
 omega
theorem st2 {a b c:Nat} (ha:a≤170) (hb:b≤170) (hc:c≤170):(by3 a b c/4 &&& 3689348814741910323)+(by3 a b c &&& 3689348814741910323)=by3 (q2 a) (q2 b) (q2 c):=by
 have x1:=e2 ⟨a,by omega⟩ ⟨b%4,by omega⟩
 have x2:=e2 ⟨b,by omega⟩ ⟨c%4,by omega⟩
 simp only at x1 x2
 rw[show by3 a b c/4=by3 (a/4+64*(b%4)) (b/4+64*(c%4)) (c/4) by unfold by3;omega,
  show(3689348814741910323:Nat)=51+256*(51+256*(51+256*219902325555)) by omega]
 rw[and3 _ (by omega) (by omega) (by omega) (by omega),and3 _ (by omega) (by omega) (by omega) (by omega),x1,x2]
 unfold by3 q2
 omega
theorem st3 {a b c:Nat} (ha:a≤102∧a/16≤4∧a%16≤4) (hb:b≤102∧b/16≤4∧b%16≤4) (hc:c≤102∧c/16≤4∧c%16≤4):(by3 a b c/16+by3 a b c) &&& 1085102592571150095=by3 (q3 a) (q3 b) (q3 c):=by
 have x1:=e3 ⟨a,by omega⟩ ⟨b%16,by omega⟩ ha.1
 have x2:=e3 ⟨b,by omega⟩ ⟨c%16,by omega⟩ hb.1
 simp only at x1 x2
 rw[show by3 a b c/16+by3 a b c=by3 (a/16+16*(b%16)+a) (b/16+16*(c%16)+b) (c/16+c) by unfold by3;omega,
  show(1085102592571150095:Nat)=15+256*(15+256*(15+256*64677154575)) by omega]
 rw[and3 _ (by omega) (by omega) (by omega) (by omega),x1,x2]
 rfl
theorem st4 {a b c:Nat} (ha:a≤8) (hb:b≤8) (hc:c≤8) {y y1 y2 y3:Nat} (hy:y=by3 a b c) (h1:y1=y+y/256) (h2:y2=y1+y1/65536) (h3:y3=y2+y2/4294967296):y3%128=a+b+c:=by
 unfold by3 at hy
 have k1:y/256=b+256*c:=by omega
 have k2:y1/65536=c:=by omega
 have k3:y2/4294967296=0:=by omega
 omega
theorem st5 {y y1 y2 y3:Nat} (hy:y<1000000) (h1:y1=y+y/256) (h2:y2=y1+y1/65536) (h3:y3=y2+y2/4294967296):y1<16777216∧y2<16777216∧y3<16777216:=by omega
theorem swar {x:Nat} (hx:x<16777216):∃x1 x2 x3:Nat,(x/2 &&& 6148914691236517205)+(x &&& 6148914691236517205)=x1∧(x1/4 &&& 3689348814741910323)+(x1 &&& 3689348814741910323)=x2∧(x2/16+x2) &&& 1085102592571150095=x3∧x1<16777216∧x2<16777216∧x3<1000000∧ ∀y1 y2 y3,y1=x3+x3/256→y2=y1+y1/65536→y3=y2+y2/4294967296→y3%128=popN x:=by
 obtain⟨a,b,c,ha,hb,hc,rfl⟩:∃a b c,a<256∧b<256∧c<256∧x=by3 a b c:=⟨x%256,x/256%256,x/65536,by omega,by omega,by omega,by unfold by3;omega⟩
 obtain⟨a1,a2,a3,a4,a5⟩:=q_le ⟨a,ha⟩
 obtain⟨b1,b2,b3,b4,b5⟩:=q_le ⟨b,hb⟩
 obtain⟨c1,c2,c3,c4,c5⟩:=q_le ⟨c,hc⟩
 simp only at a1 a2 a3 a4 a5 b1 b2 b3 b4 b5 c1 c2 c3 c4 c5
 have ka:=cntB_le a 8
 have kb:=cntB_le b 8
 have kc:=cntB_le c 8
 refine⟨_,_,_,st1 ha hb hc,st2 a1 b1 c1,st3 ⟨a2,a3,a4⟩ ⟨b2,b3,b4⟩ ⟨c2,c3,c4⟩,by unfold by3;omega,by unfold by3;omega,by rw[a5,b5,c5];unfold by3;omega,?_⟩
 intro y1 y2 y3 k1 k2 k3
 rw[st4 (by rw[a5];exact ka) (by rw[b5];exact kb) (by rw[c5];exact kc) rfl k1 k2 k3,a5,b5,c5]
 unfold popN by3
 rw[show(24:Nat)=8+16 from rfl,cntB_split _ ha,show(16:Nat)=8+8 from rfl,cntB_split _ hb]
 omega
theorem bits_andU {a b:Nat} (ha:a<18446744073709551616) (hb:b<18446744073709551616):bits .and .u64 (a:Int) (b:Int)=((a &&& b:Nat):Int):=by
 have hab:a &&& b<2 ^ 64:=Nat.and_lt_two_pow (n:=64) _ hb
 have e:(BitVec.ofInt 64 (a:Int) &&& BitVec.ofInt 64 (b:Int)).toNat=a &&& b:=by
  rw[BitVec.toNat_and,BitVec.ofInt_natCast,BitVec.ofInt_natCast,BitVec.toNat_ofNat,BitVec.toNat_ofNat,Nat.mod_eq_of_lt (by omega),Nat.mod_eq_of_lt (by omega)]
 unfold bits
 show IntKind.u64.wrap (((BitVec.ofInt 64 (a:Int) &&& BitVec.ofInt 64 (b:Int)).toNat:Nat):Int)=_
 rw[e,IntWalk.u64_in _ (by omega)]
theorem bits_and7 {a:Nat} (ha:a<9223372036854775808):bits .and .i64 (a:Int) 127=((a%128:Nat):Int):=by
 have hab:a &&& 127=a%128:=Nat.and_two_pow_sub_one_eq_mod a 7
 have e:(BitVec.ofInt 64 (a:Int) &&& BitVec.ofInt 64 ((127:Nat):Int)).toNat=a &&& 127:=by
  rw[BitVec.toNat_and,BitVec.ofInt_natCast,BitVec.ofInt_natCast,BitVec.toNat_ofNat,BitVec.toNat_ofNat,Nat.mod_eq_of_lt (by omega),Nat.mod_eq_of_lt (by omega)]
 unfold bits
 show IntKind.i64.wrap (((BitVec.ofInt 64 (a:Int) &&& BitVec.ofInt 64 ((127:Nat):Int)).toNat:Nat):Int)=_
 rw[e,hab,IntWalk.i64_in _ (by omega)]
theorem u64n {a:Nat} (ha:a<18446744073709551616):IntKind.u64.wrap (a:Int)=(a:Int):=IntWalk.u64_in _ (by omega)
theorem i64n {a:Nat} (ha:a<16777216):IntKind.i64.wrap (a:Int)=(a:Int):=IntWalk.i64_in _ (by omega)
theorem w64n {a:Nat} (ha:a<16777216):wrap64 (a:Int)=(a:Int):=IntWalk.wrap64_in _ (by omega)
theorem u64s {x y d:Nat} (hy:y=x+x/d) (hl:y<16777216):IntKind.u64.wrap ((x:Int)+(x:Int)/(d:Int))=(y:Int):=by
 subst hy
 have:=u64n (a:=x+x/d) (by omega)
 rw[Int.natCast_add,Int.natCast_ediv] at this
 exact this
theorem ones64_any (x:Nat) (hx:x<16777216) (w:World):
 Calls Tryz.prog 176 #[.int .u64 (x:Int)] w fun e w'=>e= .returned (.int .i64 (popN x:Nat))∧w=w':=by
 obtain⟨x1,x2,x3,h1,h2,h3,l1,l2,l3,h4⟩:=swar hx
 generalize popN x=P at *
 have l0:x/2 &&& 6148914691236517205<16777216:=by omega
 have m1:x &&& 6148914691236517205<16777216:=by omega
 have l2':x1/4 &&& 3689348814741910323<16777216:=by omega
 have m2:x1 &&& 3689348814741910323<16777216:=by omega
 have a1:bits .and .u64 ((x:Int)/2) 6148914691236517205=((x/2 &&& 6148914691236517205:Nat):Int):=bits_andU (a:=x/2) (b:=6148914691236517205) (by omega) (by omega)
 have a2:bits .and .u64 (x:Int) 6148914691236517205=((x &&& 6148914691236517205:Nat):Int):=bits_andU (b:=6148914691236517205) (by omega) (by omega)
 have a3:IntKind.u64.wrap (((x/2 &&& 6148914691236517205:Nat):Int)+((x &&& 6148914691236517205:Nat):Int))=(x1:Int):=by rw[←Int.natCast_add,h1];exact u64n (by omega)
 have b1:bits .and .u64 ((x1:Int)/4) 3689348814741910323=((x1/4 &&& 3689348814741910323:Nat):Int):=bits_andU (a:=x1/4) (b:=3689348814741910323) (by omega) (by omega)
 have b2:bits .and .u64 (x1:Int) 3689348814741910323=((x1 &&& 3689348814741910323:Nat):Int):=bits_andU (b:=3689348814741910323) (by omega) (by omega)
 have b3:IntKind.u64.wrap (((x1/4 &&& 3689348814741910323:Nat):Int)+((x1 &&& 3689348814741910323:Nat):Int))=(x2:Int):=by rw[←Int.natCast_add,h2];exact u64n (by omega)
 obtain⟨x4,h5⟩:∃x4:Nat,x4=x2/16+x2:=⟨_,rfl⟩
 rw[←h5] at h3
 have c1:IntKind.u64.wrap ((x2:Int)/16+(x2:Int))=(x4:Int):=by rw[h5];exact u64n (a:=x2/16+x2) (by omega)
 have c2:bits .and .u64 (x4:Int) 1085102592571150095=(x3:Int):=by rw[←h3];exact bits_andU (b:=1085102592571150095) (by omega) (by omega)
 obtain⟨y1,hy1⟩:∃y1:Nat,y1=x3+x3/256:=⟨_,rfl⟩
 obtain⟨y2,hy2⟩:∃y2:Nat,y2=y1+y1/65536:=⟨_,rfl⟩
 obtain⟨y3,hy3⟩:∃y3:Nat,y3=y2+y2/4294967296:=⟨_,rfl⟩
 obtain⟨l4,l5,l6⟩:=st5 l3 hy1 hy2 hy3
 have h6:y3%128=P:=h4 y1 y2 y3 hy1 hy2 hy3
 clear h1 h2 h3 h4 h5 l0 m1 l2' m2 l1 l2 l3 hx
 have d1:IntKind.u64.wrap ((x3:Int)+(x3:Int)/256)=(y1:Int):=u64s hy1 l4
 have d2:IntKind.u64.wrap ((y1:Int)+(y1:Int)/65536)=(y2:Int):=u64s hy2 l5
 have d3:IntKind.u64.wrap ((y2:Int)+(y2:Int)/4294967296)=(y3:Int):=by simpa only[Int.cast_ofNat_Int] using u64s hy3 l6
 clear hy1 hy2 hy3 l4 l5
 have d4:=i64n l6
 have d5:=w64n l6
 have d6:bits .and .i64 (y3:Int) 127=((y3%128:Nat):Int):=bits_and7 (Nat.lt_of_lt_of_le l6 (by decide))
 rw[h6] at d6
 clear h6 l6
 go_enter Tryz.func176,Tryz.ntmps176
 go_wp2
 go_ret
 refine⟨?_,rfl⟩
 rfl
theorem ones_any (x:Nat) (hx:x<16777216) (w:World):
 Calls Tryz.prog 134 #[.int .u64 (x:Int)] w fun e w'=>e= .returned (.int .i64 (popN x:Nat))∧w=w':=by
 have HC:=Lib.hid (fun w=>ones64_any x hx w)
 go_enter Tryz.func134,Tryz.ntmps134
 go_wp2_with fail
 refine(HC.out _).mono ?_
 rintro e w' ⟨rfl,rfl⟩
 go_wp2
 go_ret
 exact⟨rfl,rfl⟩
theorem l8Count_any (x:Nat) (hx:x<16777216) (w:World):
 Calls Tryz.prog 83 #[.int .i64 (x:Int)] w fun e w'=>e= .returned (.int .i64 (popN x:Nat))∧w=w':=by
 have HX:=Lib.hid hx
 have HR:=Lib.hid (show popN x=cntB x 24 from rfl)
 generalize popN x=P at *
 go_enter Tryz.func83,Tryz.ntmps83
 go_wp2
 go_loop [3,4] (fun s3 s4=>∃k:Nat,k≤24∧s3= .int .i64 (cntB x k:Nat)∧s4= .int .i64 k) (fun _ s4=>24-(intOf s4).toNat)
 case atStart=>exact⟨0,by omega,rfl,rfl⟩
 case round=>
  obtain⟨k,hk,rfl,rfl⟩:=hrel
  by_cases hlt:k<24
  · have hltI:(k:Int)<24:=by omega
    have hb:=bit_at k HX.out
    have HE:=Lib.hid (show cntB x (k+1)=cntB x k+if x.testBit k then 1 else 0 from rfl)
    have hl:=cntB_le x k
    generalize cntB x k=c at *
    by_cases ht:x.testBit k=true
    · rw[if_pos ht] at hb HE
      have hw1:wrap64 ((c:Int)+1)=(c:Int)+1:=IntWalk.wrap64_in _ (by omega)
      clear ht
      go_wp2
      go_round
      · exact⟨k+1,by omega,by rw[HE.out];rfl,by go_num⟩
      · simp[intOf];omega
    · rw[if_neg ht] at hb HE
      have hw1:wrap64 ((c:Int)+0)=(c:Int):=IntWalk.wrap64_in _ (by omega)
      clear ht
      go_wp2
      go_round
      · exact⟨k+1,by omega,by rw[HE.out];rfl,by go_num⟩
      · simp[intOf];omega
  · obtain rfl:k=24:=by omega
    rw[←HR.out]
    go_wp2
    go_ret
    exact⟨rfl,rfl⟩
def bb:Value→Option Nat
 | .slice (some a) (_+1) _=>some a.block
 | _=>none
open Go.RowKit Go.Sort Go.Lib
def srt (xs:List Int):List Int:=xs.mergeSort fun x y=>decide (x≤y)
def cpt (xs:List Int):List Int:=Go.Lib.compact xs
def ust (xs:List Int):List Int:=cpt (srt xs)
theorem srt_len (xs:List Int):(srt xs).length=xs.length:=List.length_mergeSort _
theorem srt_mem {xs:List Int} {x:Int} :x∈srt xs↔x∈xs:=List.mem_mergeSort
theorem srt_sorted (xs:List Int):(srt xs).Pairwise (· ≤·):=by
 have:=List.pairwise_mergeSort (le:=fun x y:Int=>decide (x≤y)) (fun a b c h1 h2=>by simp at h1 h2 ⊢;omega) (fun a b=>by simp;omega) xs
 exact this.imp fun h=>by simpa using h
theorem cpt_len (xs:List Int):(cpt xs).length≤xs.length:=by
 unfold cpt compact compactUpTo
 rw[List.length_map]
 exact Nat.le_trans (List.length_filter_le _ _) (by simp)
theorem getI {xs:List Int} {j:Nat} (h:j<xs.length):(xs.toArray)[j]! = xs[j]:=by simp[h]
theorem cpt_asc {xs:List Int} (h:xs.Pairwise (· ≤·)):(cpt xs).Pairwise (· < ·):=by
 unfold cpt compact compactUpTo
 rw[List.pairwise_map]
 have hr:((List.range xs.length).filter (keeps xs.toArray)).Pairwise (· < ·):=List.Pairwise.filter _ List.pairwise_lt_range
 refine hr.imp_of_mem (R:=(· < ·)) fun {a b} ha hb hab=> ?_
 rw[List.mem_filter,List.mem_range] at ha hb
 rw[getI ha.1,getI hb.1]
 have hk:=hb.2
 unfold keeps at hk
 simp only[decide_eq_true_eq] at hk
 rcases hk with hk | hk
 · omega
 rw[getI hb.1,getI (show b-1<xs.length by omega)] at hk
 have hp:=List.pairwise_iff_getElem.1 h
 have h1:xs[a]≤xs[b-1]'(by omega):=by
  by_cases e:a=b-1
  · subst e;exact Int.le_refl _
  · exact hp a (b-1) ha.1 (by omega) (by omega)
 have h2:xs[b-1]'(by omega)≤xs[b]:=hp (b-1) b (by omega) hb.1 (by omega)
 omega
theorem cpt_mem {xs:List Int} {x:Int} :x∈cpt xs↔x∈xs:=by
 unfold cpt compact compactUpTo
 rw[List.mem_map]
 constructor
 · rintro⟨j,hj,rfl⟩
   rw[List.mem_filter,List.mem_range] at hj
   rw[getI hj.1]
   exact List.getElem_mem hj.1
 · intro h
   obtain⟨j,hj,rfl⟩:=List.mem_iff_getElem.1 h
   have:∀j,∀hj:j<xs.length,∃i,∃hi:i<xs.length,keeps xs.toArray i=true∧xs[i]=xs[j]:=by
    intro j
    induction j with
    | zero=>intro hj;exact⟨0,hj,by simp[keeps],rfl⟩
    | succ j ih=>
      intro hj
      by_cases e:xs[j+1]=xs[j]'(by omega)
      · obtain⟨i,hi,h1,h2⟩:=ih (by omega)
        exact⟨i,hi,h1,by rw[h2,e]⟩
      · refine⟨j+1,hj,?_,rfl⟩
        unfold keeps
        rw[getI hj,getI (show j+1-1<xs.length by omega)]
        simp only[decide_eq_true_eq]
        exact .inr (by simpa using e)
   obtain⟨i,hi,h1,h2⟩:=this j hj
   exact⟨i,List.mem_filter.2 ⟨List.mem_range.2 hi,h1⟩,by rw[getI hi,h2]⟩
theorem ust_asc (xs:List Int):(ust xs).Pairwise (· < ·):=cpt_asc (srt_sorted xs)
theorem ust_mem {xs:List Int} {x:Int} :x∈ust xs↔x∈xs:=by unfold ust;rw[cpt_mem,srt_mem]
theorem ust_len (xs:List Int):(ust xs).length≤xs.length:=by unfold ust;exact Nat.le_trans (cpt_len _) (by rw[srt_len];exact Nat.le_refl _)
theorem asc_ext:∀{xs ys:List Int},xs.Pairwise (· < ·)→ys.Pairwise (· < ·)→(∀x,x∈xs↔x∈ys)→xs=ys
 | [],[],_,_,_=>rfl
 | [],y::ys,_,_,h=>by have:=(h y).2 (by simp);cases this
 | x::xs,[],_,_,h=>by have:=(h x).1 (by simp);cases this
 | x::xs,y::ys,hx,hy,h=>by
   obtain⟨hx1,hx2⟩:=List.pairwise_cons.1 hx
   obtain⟨hy1,hy2⟩:=List.pairwise_cons.1 hy
   have e:x=y:=by
    have h1:=(h x).1 (by simp)
    have h2:=(h y).2 (by simp)
    rcases List.mem_cons.1 h1 with e | e
    · exact e
    · rcases List.mem_cons.1 h2 with e2 | e2
      · exact e2.symm
      · have:=hy1 x e;have:=hx1 y e2;omega
   subst e
   congr 1
   refine asc_ext hx2 hy2 fun z=> ?_
   constructor
   · intro hz
     have hlt:=hx1 z hz
     rcases List.mem_cons.1 ((h z).1 (List.mem_cons_of_mem _ hz)) with e | e
     · omega
     · exact e
   · intro hz
     have hlt:=hy1 z hz
     rcases List.mem_cons.1 ((h z).2 (List.mem_cons_of_mem _ hz)) with e | e
     · omega
     · exact e
theorem ust_of {xs ys:List Int} (h:ys.Pairwise (· < ·)) (hm:∀x,x∈ys↔x∈xs):ust xs=ys:=asc_ext (ust_asc xs) h fun x=>by rw[ust_mem,hm]
/-! ### The cells -/
theorem Own.holds {w:World} {base g off n cap:Nat} {xs:List Int} (h:Own w base (.slice (some ⟨g,off,none⟩) n cap) xs):Holds (Value.int .i64) w g off xs.toArray:=by
 rcases h with ⟨e,_⟩ | ⟨g',off',cap',cur,e,hb,⟨T,hg⟩,h1,h2,h3,h4⟩
 · cases e
 · simp only[Value.slice.injEq,Option.some.injEq,Addr.mk.injEq,and_true] at e
   obtain⟨⟨rfl,rfl⟩,rfl,rfl⟩:=e
   intro j hj
   have hj':j<xs.length:=by simpa using hj
   refine⟨?_,frozen_of_row _ _ _ _ _ hg⟩
   rw[cell_of_row _ _ _ _ _ _ hg,←Array.getElem?_toList]
   have e:((cur.toList.drop off).take xs.length)[j]?= (ints xs)[j]?:=by rw[h4]
   rw[List.getElem?_take,if_pos hj',List.getElem?_drop] at e
   rw[e]
   simp[hj']
theorem heap_putRow {w:World} {g off n:Nat} {os:Array Obj} {cur:Array Value} {e:TypeId} {fr:Nat × Nat} (d:Array Int) (hb:w.heap[g]?= some (.cells cur e fr)):
 (grow (putRow (Value.int .i64) (Sort.ahead w n) g off d) os).heap[g]?= some (.cells (putCells (Value.int .i64) off d cur) e fr):=by
 have hg:g<w.heap.size:=(Array.getElem?_eq_some_iff.1 hb).1
 rw[heap_grow_old _ _ (by simpa using hg)]
 simp[putRow,mapBlock,Sort.ahead,Array.getElem?_modify,hb,onCells]
theorem grownBy_putRow {w:World} {g off n:Nat} {os:Array Obj} (d:Array Int):w.grownBy (grow (putRow (Value.int .i64) (Sort.ahead w n) g off d) os) (some g):=by
 refine⟨rfl,rfl,rfl,by simp,fun k hk hne=> ?_⟩
 rw[heap_grow_old _ _ (by simpa using hk)]
 have:g≠k:=fun e=>hne (by rw[e])
 simp[putRow,mapBlock,Sort.ahead,Array.getElem?_modify,this]
theorem drop_putCells (cur:Array Value) (ts:List Int) (off m:Nat) (h:off+ts.length≤cur.size) (hm:m≤ts.length):((putCells (Value.int .i64) off ts.toArray cur).toList.drop off).take m=ints (ts.take m):=by
 apply List.ext_getElem?
 intro j
 by_cases hj:j<m
 · rw[List.getElem?_take_of_lt hj,List.getElem?_drop,Array.getElem?_toList]
   simp[putCells,hj,show off+j<cur.size by omega,show j<ts.length by omega]
 · rw[List.getElem?_take_eq_none (by omega),List.getElem?_eq_none (by simp;omega)]
theorem Own.putRow {w:World} {base g off n cap q m:Nat} {xs ts:List Int} {os:Array Obj} (h:Own w base (.slice (some ⟨g,off,none⟩) n cap) xs) (hl:ts.length=xs.length) (hm:m≤ts.length):
 Own (grow (Sort.putRow (Value.int .i64) (Sort.ahead w q) g off ts.toArray) os) base (.slice (some ⟨g,off,none⟩) m cap) (ts.take m):=by
 rcases h with ⟨e,_⟩ | ⟨g',off',cap',cur,e,hb,⟨T,hg⟩,h1,h2,h3,h4⟩
 · cases e
 · simp only[Value.slice.injEq,Option.some.injEq,Addr.mk.injEq,and_true] at e
   obtain⟨⟨rfl,rfl⟩,rfl,rfl⟩:=e
   have hml:(ts.take m).length=m:=by rw[List.length_take];omega
   refine .inr ⟨g,off,cap,_,by rw[hml],hb,⟨T,heap_putRow _ hg⟩,by rw[hml];omega,h2,by simp[putCells];omega,?_⟩
   rw[hml]
   exact drop_putCells cur ts off m (by omega) hm
def putI:List Int→Int→List Int
 | [],n=>[n]
 | x::xs,n=>if x<n then x::putI xs n else if x=n then x::xs else n::x::xs
theorem putI_mem:∀{xs:List Int} {n y:Int},y∈putI xs n↔y=n∨y∈xs
 | [],n,y=>by simp[putI]
 | x::xs,n,y=>by
   unfold putI
   split
   · rw[List.mem_cons,putI_mem,List.mem_cons]
     constructor
     · rintro(h | h | h) <;> simp[h]
     · rintro(h | h | h) <;> simp[h]
   · split
     · rename_i h;subst h;simp
     · simp
theorem putI_asc:∀{xs:List Int} {n:Int},xs.Pairwise (· < ·)→(putI xs n).Pairwise (· < ·)
 | [],n,_=>by simp[putI]
 | x::xs,n,h=>by
   obtain⟨h1,h2⟩:=List.pairwise_cons.1 h
   unfold putI
   split
   · rename_i hx
     refine List.pairwise_cons.2 ⟨fun y hy=> ?_,putI_asc h2⟩
     rcases putI_mem.1 hy with e | e
     · omega
     · exact h1 y e
   · split
     · exact h
     · rename_i hx hx2
       refine List.pairwise_cons.2 ⟨fun y hy=> ?_,h⟩
       rcases List.mem_cons.1 hy with e | e
       · omega
       · have:=h1 y e;omega
theorem putI_at:∀{xs:List Int} {n:Int} (k:Nat),k≤xs.length→(∀i,i<k→xs[i]?.getD 0<n)→(k<xs.length→n≤xs[k]?.getD 0)→putI xs n=if k<xs.length∧xs[k]?.getD 0=n then xs else xs.take k++n::xs.drop k
 | [],n,k,hk,_,_=>by
   have:k=0:=by simpa using hk
   subst this;simp[putI]
 | x::xs,n,0,_,_,h=>by
   have h0:=h (by simp)
   simp only[List.getElem?_cons_zero,Option.getD_some] at h0
   unfold putI
   rw[if_neg (by omega)]
   by_cases e:x=n
   · rw[if_pos e,if_pos ⟨by simp,by simpa using e⟩]
   · rw[if_neg e,if_neg (by simp;exact e)];simp
 | x::xs,n,k+1,hk,hl,h=>by
   have hx:x<n:=by have:=hl 0 (by omega);simpa using this
   unfold putI
   rw[if_pos hx,putI_at k (by simpa using hk) (fun i hi=>by have:=hl (i+1) (by omega);simpa using this) (fun hlt=>by have:=h (by simpa using hlt);simpa using this)]
   by_cases e:k<xs.length∧xs[k]?.getD 0=n
   · rw[if_pos e,if_pos ⟨by simpa using e.1,by simpa using e.2⟩]
   · rw[if_neg e,if_neg (fun h2=>e ⟨by simpa using h2.1,by simpa using h2.2⟩)];simp
theorem ust_put (r:List Int) (x:Int):ust (r++[x])=putI (ust r) x:=by
 refine ust_of (putI_asc (ust_asc r)) fun y=> ?_
 rw[putI_mem,ust_mem,List.mem_append]
 simp[or_comm]
end Go.Proofs.YtofcicomhnkocaaGreat
