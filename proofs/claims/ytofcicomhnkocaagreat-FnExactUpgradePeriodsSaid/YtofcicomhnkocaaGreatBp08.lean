/- Joined: XGrd XLenW XCmrW XVis XCom XUse XCol XLgo XFni XSusP. -/
import Derived.Test.YtofcicomhnkocaaGreatBp03
import Derived.Shelf.SlSortCmp.QuietGrown
import Derived.Test.YtofcicomhnkocaaGreatBp07
import Derived.BigQuiet
import Derived.Test.YtofcicomhnkocaaGreatBp02
import Derived.Test.YtofcicomhnkocaaGreatBp05
import Derived.Deep.RegionHeld3
import Derived.Deep.RegionLaw
import Derived.Deep.CutRange
import Derived.Test.YtofcicomhnkocaaGreatBp06
import Derived.Lib.QuietBelow
set_option linter.unusedVariables false
namespace Go.Proofs.YtofcicomhnkocaaGreat
set_option maxHeartbeats 6400000
open Go.RowKit Go.Sort
def Gr (w w':World):Prop:=∃(q:Nat) (os:Array Obj),w'=grow (w.drewN q) os
theorem Gr.refl (w:World):Gr w w:=⟨0,#[],by rw[grow_empty];rfl⟩
theorem Gr.trans {a b c:World} (h:Gr a b) (k:Gr b c):Gr a c:=by
 obtain⟨q,os,rfl⟩:=h
 obtain⟨q',os',rfl⟩:=k
 refine⟨q+q',os++os',?_⟩
 show grow (grow ((a.drewN q).drewN q') os) os'=_
 rw[grow_grow,World.drewN_drewN]
theorem Gr.drew {a b:World} (h:Gr a b):Gr a b.drew:=h.trans ⟨1,#[],by rw[grow_empty];rfl⟩
theorem Gr.alloc {a b:World} (h:Gr a b) (o:Obj):Gr a (b.alloc o):=h.trans ⟨0,#[o],by rw[alloc_eq_grow];rfl⟩
theorem Gr.below {a b:World} (h:Gr a b):Below a.heap.size a b:=by
 obtain⟨q,os,rfl⟩:=h
 refine⟨rfl,rfl,rfl,by simp[grow,World.drewN],fun k hk=> ?_⟩
 show((a.drewN q).heap++os)[k]?= _
 exact Array.getElem?_append_left hk
set_option maxRecDepth 100000
theorem lenR_app (n:Net) (xs ys:List Int):lenR n (xs++ys)=lenR n xs+lenR n ys:=by
 unfold lenR;rw[List.map_append,List.sum_append]
theorem lenR_take {n:Net} {fs:List Int} {k:Nat} (hk:k<fs.length):lenR n (fs.take (k+1))=lenR n (fs.take k)+(fbA n (fs[k]?.getD 0).toNat).l:=by
 rw[List.take_add_one,lenR_app,List.getElem?_eq_getElem hk]
 simp[lenR]
def LenOk (n:Net):Prop:=∀j:Nat,0≤(fbA n j).l∧(fbA n j).l≤100000
theorem lenR_bd {n:Net} (h:LenOk n):∀fs:List Int,0≤lenR n fs∧lenR n fs≤fs.length*100000
 | []=>by simp[lenR]
 | i::fs=>by
   have:=lenR_bd h fs
   have h1:=h i.toNat
   unfold lenR at this ⊢
   rw[List.map_cons,List.sum_cons,List.length_cons]
   push_cast
   omega
theorem lenR_bdt {n:Net} (h:LenOk n) {fs:List Int} (hl:fs.length≤1000) (k:Nat):0≤lenR n (fs.take k)∧lenR n (fs.take k)≤100000000:=by
 have:=lenR_bd h (fs.take k)
 rw[List.length_take] at this
 have h2:min k fs.length≤1000:=by omega
 omega
def InNet (n:Net) (fs:List Int):Prop:=∀k:Nat,k<fs.length→0≤fs[k]?.getD 0∧fs[k]?.getD 0<n.fs.length
theorem lengthOf_any (u1 u2 v:Value) (n:Net) (st:Int) (fs:List Int) (w:World) (h:Rdt w (flt 4 fibE n.fs) u2) (h1:∃a m c,u1= .slice a m c) (hr:Rd w v fs) (hl:fs.length≤1000) (hi:InNet n fs) (hb:LenOk n):
 Calls Tryz.prog 191 #[.agg #[u1,u2],.agg #[.int .i64 st,v]] w fun e w'=>e= .returned (.int .i64 (lenR n fs))∧Gr w w':=by
 obtain⟨a1,m1,c1,rfl⟩:=h1
 obtain⟨a2,m2,c2,rfl,HN2,hc2,hm2,ha2⟩:=flt_opn (m:=4) (enc:=fibE) (fun _=>rfl) (by omega) nilB h
 obtain⟨a3,c3,m3,HN3,rfl,hc3,hm3,ha3⟩:=hr.opn
 have HA2:=Lib.hid ha2
 have HA3:=Lib.hid ha3
 have HT:=Lib.hid (fun k (hk:k<fs.length)=>@lenR_take n fs k hk)
 have HB:=Lib.hid (fun k=>lenR_bdt hb hl k)
 have HL:=Lib.hid hb
 have HI:=Lib.hid (show∀k:Nat,k<m3→0≤fs[k]?.getD 0∧fs[k]?.getD 0<m2 from fun k hk=>by
  have:=hi k (by have:=HN3.out;omega)
  rwa [show n.fs.length=m2 from HN2.out] at this)
 have HR:=Lib.hid (show lenR n (fs.take m3)=lenR n fs by rw[List.take_of_length_le (Nat.le_of_eq HN3.out)])
 have h10:m3≤1000:=by have:=HN3.out;omega
 rw[HN3.out] at HT
 obtain⟨bx,bc,blt,-⟩:=box_facts w #[.slice a1 m1 c1,.slice a2 m2 c2] 35
 obtain⟨by',bd,bmt,-⟩:=box_facts (w.alloc (.cells #[.slice a1 m1 c1,.slice a2 m2 c2] 35)) #[.int .i64 st,.slice a3 m3 c3] 82
 have q1:=(by'.cell (p:=⟨w.heap.size,1,none⟩) blt).trans (bc 1 _ rfl)
 have q3:=bd 1 _ rfl
 have hs1:(w.alloc (.cells #[.slice a1 m1 c1,.slice a2 m2 c2] 35)).heap.size=w.heap.size+1:=by simp
 rw[hs1] at q3
 have HBX:=Lib.hid (bx.trans (by'.mono bx.size))
 have HG:=Lib.hid (((Gr.refl w).alloc (.cells #[.slice a1 m1 c1,.slice a2 m2 c2] 35)).alloc (.cells #[.int .i64 st,.slice a3 m3 c3] 82))
 clear bc bd bx by' hs1 ha2 ha3 h hr bmt blt hl hi hb
 go_enter Tryz.func191,Tryz.ntmps191
 go_wp2
 generalize (w.alloc (.cells #[.slice a1 m1 c1,.slice a2 m2 c2] 35)).alloc (.cells #[.int .i64 st,.slice a3 m3 c3] 82)=W at *
 go_loopw [5,7,11] (fun s5 _ i wr=>∃k:Nat,k≤m3∧i= .int .i64 k∧s5= .int .i64 (lenR n (fs.take k))∧wr=W) (fun _ _ i _=>m3-(intOf i).toNat)
 case atStart=>exact⟨0,Nat.zero_le _,rfl,rfl,rfl⟩
 case round=>
  obtain⟨k,hk,rfl,rfl,rfl⟩:=hrel
  by_cases hlt:k<m3
  · have hltI:(k:Int)<(m3:Int):=by omega
    obtain⟨b,off,rfl,hbs,hcs⟩:=HA3.out (by omega)
    have e0:=(HBX.out.cell (p:=⟨b,off+k,none⟩) hbs).trans (hcs k hlt)
    have hg:=HI.out k hlt
    have HTK:=Lib.hid (HT.out k hlt)
    have HBK:=HB.out k
    clear hcs
    generalize fs[k]?.getD 0=g at *
    obtain⟨gn,rfl⟩:∃gn:Nat,g=(gn:Int):=⟨g.toNat,by omega⟩
    have hgn:gn<m2:=by omega
    have hgnI:(gn:Int)<(m2:Int):=by omega
    obtain⟨b1,off1,rfl,hbs1,hcs1⟩:=HA2.out (by omega)
    have e1:=(HBX.out.cell (p:=⟨b1,off1+gn*4+2,none⟩) hbs1).trans (hcs1 gn hgn 2 _ rfl)
    have hlg:=HL.out gn
    rw[show((gn:Int)).toNat=gn from rfl] at HTK
    clear hcs1 hg
    unfold fbA at HTK hlg
    generalize (n.fs[gn]?.getD nilB).l=lg at *
    generalize lenR n (fs.take k)=s at *
    have hw:wrap64 (s+lg)=s+lg:=IntWalk.wrap64_in _ (by omega)
    go_wp2
    go_roundw
    case rel=>exact⟨k+1,hlt,by go_num,by rw[HTK.out],trivial⟩
    case measure=>simp[intOf];omega
  · obtain rfl:m3=k:=by omega
    go_wp2
    go_ret
    exact⟨by rw[←HR.out];rfl,HG.out⟩
theorem lexI_end1 {a b:List Int} {k:Nat} (h1:k<a.length) (h2:b.length≤k):lexI (a.drop k) (b.drop k)=1:=by
 rw[List.drop_eq_nil_of_le h2,List.drop_eq_getElem_cons h1];rfl
theorem lexI_end2 {a b:List Int} {k:Nat} (h1:a.length=k) (hb:k≤b.length):lexI (a.drop k) (b.drop k)=if a.length<b.length then -1 else 0:=by
 rw[List.drop_eq_nil_of_le (by omega)]
 by_cases h:a.length<b.length
 · rw[if_pos h,List.drop_eq_getElem_cons (by omega)];rfl
 · rw[if_neg h,List.drop_eq_nil_of_le (by omega)];rfl
theorem lexI_step {a b:List Int} {k:Nat} (h1:k<a.length) (h2:k<b.length):lexI (a.drop k) (b.drop k)=if cmpI (a[k]?.getD 0) (b[k]?.getD 0)=0 then lexI (a.drop (k+1)) (b.drop (k+1)) else cmpI (a[k]?.getD 0) (b[k]?.getD 0):=by
 rw[List.drop_eq_getElem_cons h1,List.drop_eq_getElem_cons h2,List.getElem?_eq_getElem h1,List.getElem?_eq_getElem h2,Option.getD_some,Option.getD_some,lexI]
 unfold cmpI
 split
 · rw[if_neg (by omega)]
 · split
   · rw[if_neg (by omega)]
   · rw[if_pos rfl]
theorem lexI_go {a b:List Int} {k:Nat} (h1:k<a.length) (h2:k<b.length) (e:cmpI (a[k]?.getD 0) (b[k]?.getD 0)=0):lexI (a.drop (k+1)) (b.drop (k+1))=lexI (a.drop k) (b.drop k):=by
 rw[lexI_step h1 h2,if_pos e]
theorem lexI_stop {a b:List Int} {k:Nat} (h1:k<a.length) (h2:k<b.length) (e:¬cmpI (a[k]?.getD 0) (b[k]?.getD 0)=0):lexI (a.drop k) (b.drop k)=cmpI (a[k]?.getD 0) (b[k]?.getD 0):=by
 rw[lexI_step h1 h2,if_neg e]
theorem slcCompare_any (va vb:Value) (xs ys:List Int) (w:World) (ha:Rd w va xs) (hb:Rd w vb ys):
 Calls Tryz.prog 251 #[va,vb] w fun e w'=>e= .returned (.int .i64 (lexI xs ys))∧w=w':=by
 obtain⟨a1,c1,n1,HN1,rfl,_,hn1,ha1⟩:=ha.opn
 obtain⟨a2,c2,n2,HN2,rfl,_,hn2,ha2⟩:=hb.opn
 have HA1:=Lib.hid ha1
 have HA2:=Lib.hid ha2
 have HE1:=Lib.hid (fun k (h1:k<n1) (h2:n2≤k)=>@lexI_end1 xs ys k (by have:=HN1.out;omega) (by have:=HN2.out;omega))
 have HE2:=Lib.hid (fun(h:n1≤n2)=>show lexI (xs.drop n1) (ys.drop n1)=if n1<n2 then -1 else 0 from by
  have h1:=HN1.out;have h2:=HN2.out
  rw[lexI_end2 h1 (by omega),h1,h2])
 have HGO:=Lib.hid (fun k (h1:k<n1) (h2:k<n2)=>@lexI_go xs ys k (by have:=HN1.out;omega) (by have:=HN2.out;omega))
 have HST:=Lib.hid (fun k (h1:k<n1) (h2:k<n2)=>@lexI_stop xs ys k (by have:=HN1.out;omega) (by have:=HN2.out;omega))
 have H0:=Lib.hid (show lexI (xs.drop 0) (ys.drop 0)=lexI xs ys by simp)
 clear ha hb ha1 ha2
 generalize lexI xs ys=R at *
 go_enter Tryz.func251,Tryz.ntmps251
 go_wp2
 go_loopw [5,6,7,8,11] (fun _ _ _ _ i wr=>∃k:Nat,k≤n1∧k≤n2∧i= .int .i64 k∧Hid (lexI (xs.drop k) (ys.drop k)=R)∧wr=w) (fun _ _ _ _ i _=>n1-(intOf i).toNat)
 case atStart=>exact⟨0,Nat.zero_le _,Nat.zero_le _,rfl,H0,rfl⟩
 case round=>
  obtain⟨k,hk,hk2,rfl,HK,rfl⟩:=hrel
  by_cases hlt:k<n1
  · have hltI:(k:Int)<(n1:Int):=by omega
    obtain⟨b,off,rfl,hbs,hcs⟩:=HA1.out (by omega)
    have e0:=hcs k hlt
    clear hcs
    by_cases h2:k<n2
    · have h2I:(k:Int)<(n2:Int):=by omega
      have h2d:decide ((k:Int)≥(n2:Int))=false:=decide_eq_false (by omega)
      obtain⟨b2,off2,rfl,hbs2,hcs2⟩:=HA2.out (by omega)
      have e1:=hcs2 k h2
      clear hcs2
      have HG:=Lib.hid (HGO.out k hlt h2)
      have HS:=Lib.hid (HST.out k hlt h2)
      generalize xs[k]?.getD 0=x at *
      generalize ys[k]?.getD 0=y at *
      have HC:=Lib.hid (compare_any x y)
      generalize cmpI x y=c at *
      by_cases hc:c=0
      · have HT:=Lib.hid ((HG.out hc).trans HK.out)
        subst hc
        go_wp2_with (go_at_call 174;refine(HC.out _).mono ?_;rintro e w' ⟨rfl,rfl⟩)
        go_roundw
        case rel=>exact⟨k+1,hlt,h2,by go_num,HT,trivial⟩
        case measure=>simp[intOf];omega
      · have HT:=Lib.hid ((HS.out hc).symm.trans HK.out)
        have hcb:(c != 0)=true:=by simpa using hc
        clear hc
        go_wp2_with (go_at_call 174;refine(HC.out _).mono ?_;rintro e w' ⟨rfl,rfl⟩)
        go_ret
        exact⟨by rw[←HT.out];rfl,rfl⟩
    · have h2d:decide ((k:Int)≥(n2:Int))=true:=decide_eq_true (by omega)
      have HT:=Lib.hid ((HE1.out k hlt (by omega)).symm.trans HK.out)
      go_wp2
      go_ret
      exact⟨by rw[←HT.out];rfl,rfl⟩
  · obtain rfl:n1=k:=by omega
    have HT:=Lib.hid ((HE2.out hk2).symm.trans HK.out)
    by_cases h3:n1<n2
    · have h3d:decide ((n1:Int)<(n2:Int))=true:=decide_eq_true (by omega)
      rw[if_pos h3] at HT
      go_wp2
      go_ret
      exact⟨by rw[←HT.out];rfl,rfl⟩
    · have h3d:decide ((n1:Int)<(n2:Int))=false:=decide_eq_false (by omega)
      rw[if_neg h3] at HT
      go_wp2
      go_ret
      exact⟨by rw[←HT.out];rfl,rfl⟩
theorem cmpR_or (n:Net) (a b:List Int) (st:Int):orI [cmpI (lenR n a) (lenR n b),cmpI a.length b.length,lexI a b,cmpI st st]=cmpR n a b:=by
 have key:∀x y:Int,cmpI x y=if x=y then 0 else sgnI (x-y):=fun x y=>by
  unfold cmpI sgnI
  by_cases h:x=y
  · rw[if_pos h,if_neg (by omega),if_neg (by omega)]
  · rw[if_neg h]
    by_cases h2:x<y
    · rw[if_pos h2,if_pos (by omega)]
    · rw[if_neg h2,if_pos (by omega),if_neg (by omega),if_pos (by omega)]
 have sg:∀x:Int,x≠0→sgnI x≠0:=fun x h=>by
  unfold sgnI
  split
  · omega
  · split <;> omega
 unfold cmpR
 rw[key (lenR n a),key a.length,key st,if_pos rfl]
 by_cases h1:lenR n a=lenR n b
 · rw[if_pos h1,if_pos h1,orI,if_pos rfl]
   by_cases h2:a.length=b.length
   · rw[if_pos (by omega:(a.length:Int)=b.length),if_pos h2,orI,if_pos rfl,orI]
     by_cases h3:lexI a b=0
     · rw[if_pos h3,h3];rfl
     · rw[if_neg h3]
   · rw[if_neg (by omega:¬(a.length:Int)=b.length),if_neg h2,orI,if_neg (sg _ (by omega))]
 · rw[if_neg h1,if_neg h1,orI,if_neg (sg _ (by omega))]
theorem box3_facts (w:World) (A B C:Obj):Below w.heap.size w (((w.alloc A).alloc B).alloc C)∧(((w.alloc A).alloc B).alloc C).heap[w.heap.size]?= some A∧(((w.alloc A).alloc B).alloc C).heap[w.heap.size+1]?= some B∧(((w.alloc A).alloc B).alloc C).heap[w.heap.size+1+1]?= some C∧(((w.alloc A).alloc B).alloc C).heap.size=w.heap.size+1+1+1:=by
 have s1:(w.alloc A).heap.size=w.heap.size+1:=by simp
 have s2:((w.alloc A).alloc B).heap.size=w.heap.size+1+1:=by simp
 have b1:=(Below.refl w.heap.size w).alloc (Nat.le_refl _) A
 have b2:=b1.alloc b1.size B
 have k0:=heap_alloc_new w A
 have k1:=heap_alloc_new (w.alloc A) B
 have k2:=heap_alloc_new ((w.alloc A).alloc B) C
 rw[s1] at k1
 rw[s2] at k2
 refine⟨b2.alloc b2.size C,?_,?_,k2,by simp⟩
 · rw[heap_alloc_old _ C (by rw[s2];omega),heap_alloc_old _ B (by rw[s1];omega)];exact k0
 · rw[heap_alloc_old _ C (by rw[s2];omega)];exact k1
theorem compareRoutes_any (u1 u2 va vb:Value) (n:Net) (st:Int) (xs ys:List Int) (w:World) (h:Rdt w (flt 4 fibE n.fs) u2) (h1:∃a m c,u1= .slice a m c) (ha:Rd w va xs) (hb:Rd w vb ys)
 (hlx:xs.length≤1000) (hly:ys.length≤1000) (hix:InNet n xs) (hiy:InNet n ys) (hL:LenOk n):
 Calls Tryz.prog 242 #[.agg #[u1,u2],.agg #[.int .i64 st,va],.agg #[.int .i64 st,vb]] w fun e w'=>e= .returned (.int .i64 (cmpR n xs ys))∧Gr w w':=by
 have HX:=Lib.hid (fun w' (hw:Below w.heap.size w w')=>lengthOf_any u1 u2 va n st xs w' (h.behind hw) h1 (ha.belowAll hw) hlx hix hL)
 have HY:=Lib.hid (fun w' (hw:Below w.heap.size w w')=>lengthOf_any u1 u2 vb n st ys w' (h.behind hw) h1 (hb.belowAll hw) hly hiy hL)
 have HC:=Lib.hid (fun w' (hw:Below w.heap.size w w')=>slcCompare_any va vb xs ys w' (ha.belowAll hw) (hb.belowAll hw))
 have HF:=Lib.hid (cmpR_or n xs ys st)
 obtain⟨a1,m1,c1,rfl⟩:=h1
 obtain⟨a2,m2,c2,rfl,-,-,-,-⟩:=flt_opn (m:=4) (enc:=fibE) (fun _=>rfl) (by omega) nilB h
 obtain⟨a3,c3,m3,HN3,rfl,-,hm3,-⟩:=ha.opn
 obtain⟨a4,c4,m4,HN4,rfl,-,hm4,-⟩:=hb.opn
 rw[show xs.length=m3 from HN3.out,show ys.length=m4 from HN4.out] at HF
 clear h ha hb hlx hly hix hiy hL
 generalize lenR n xs=lx at *
 generalize lenR n ys=ly at *
 generalize lexI xs ys=lc at *
 generalize cmpR n xs ys=R at *
 have HK1:=Lib.hid (fun w'=>compare_any lx ly w')
 have HK2:=Lib.hid (fun w'=>compare_any (m3:Int) (m4:Int) w')
 have HK3:=Lib.hid (fun w'=>compare_any st st w')
 generalize cmpI lx ly=k1 at *
 generalize cmpI (m3:Int) (m4:Int)=k2 at *
 generalize cmpI st st=k3 at *
 have HO:=Lib.hid (fun w'=>or_any _ [k1,k2,lc,k3] _ (rd_alloc w' 3 [k1,k2,lc,k3] (by unfold maxLen;simp)))
 rw[HF.out] at HO
 obtain⟨hBX,g0,g1,g2,hsz⟩:=box3_facts w (.cells #[.slice a1 m1 c1,.slice a2 m2 c2] 35) (.cells #[.int .i64 st,.slice a3 m3 c3] 82) (.cells #[.int .i64 st,.slice a4 m4 c4] 82)
 have HBX:=Lib.hid hBX
 have HG:=Lib.hid ((((Gr.refl w).alloc (.cells #[.slice a1 m1 c1,.slice a2 m2 c2] 35)).alloc (.cells #[.int .i64 st,.slice a3 m3 c3] 82)).alloc (.cells #[.int .i64 st,.slice a4 m4 c4] 82))
 have q0:=blkc g0 (j:=0) (show _=some (.slice a1 m1 c1) from rfl)
 have q1:=blkc g0 (j:=1) (show _=some (.slice a2 m2 c2) from rfl)
 have q2:=blkc g1 (j:=0) (show _=some (.int .i64 st) from rfl)
 have q3:=blkc g1 (j:=1) (show _=some (.slice a3 m3 c3) from rfl)
 have q4:=blkc g2 (j:=0) (show _=some (.int .i64 st) from rfl)
 have q5:=blkc g2 (j:=1) (show _=some (.slice a4 m4 c4) from rfl)
 clear g0 g1 g2 hBX
 go_enter Tryz.func242,Tryz.ntmps242
 go_wp2
 generalize ((w.alloc (.cells #[.slice a1 m1 c1,.slice a2 m2 c2] 35)).alloc (.cells #[.int .i64 st,.slice a3 m3 c3] 82)).alloc (.cells #[.int .i64 st,.slice a4 m4 c4] 82)=w2 at *
 have HS:=Lib.hid (fun(w':World) (hg:Gr w2 w')=>show Gr w2 w'∧w'.cell? ⟨w.heap.size,0,none⟩=some (.slice a1 m1 c1)∧w'.cell? ⟨w.heap.size,1,none⟩=some (.slice a2 m2 c2)∧w'.cell? ⟨w.heap.size+1,0,none⟩=some (.int .i64 st)∧w'.cell? ⟨w.heap.size+1,1,none⟩=some (.slice a3 m3 c3)∧w'.cell? ⟨w.heap.size+1+1,0,none⟩=some (.int .i64 st)∧w'.cell? ⟨w.heap.size+1+1,1,none⟩=some (.slice a4 m4 c4) from
  have hb:=hg.below;⟨hg,(hb.cell (show w.heap.size<_ by omega)).trans q0,(hb.cell (show w.heap.size<_ by omega)).trans q1,(hb.cell (show w.heap.size+1<_ by omega)).trans q2,(hb.cell (show w.heap.size+1<_ by omega)).trans q3,(hb.cell (show w.heap.size+1+1<_ by omega)).trans q4,(hb.cell (show w.heap.size+1+1<_ by omega)).trans q5⟩)
 have HBS:=Lib.hid (fun(wx w':World) (hb:Gr w2 wx) (hc:Gr wx w')=>show Gr w2 w' from hb.trans hc)
 have HBA:=Lib.hid (fun(wx:World) (hb:Gr w2 wx) (o:Obj)=>show Gr w2 (wx.alloc o) from hb.alloc o)
 have HXB:=Lib.hid (fun(w':World) (hb:Gr w2 w')=>HX.out w' (HBX.out.trans (hb.below.mono HBX.out.size)))
 have HYB:=Lib.hid (fun(w':World) (hb:Gr w2 w')=>HY.out w' (HBX.out.trans (hb.below.mono HBX.out.size)))
 have HCB:=Lib.hid (fun(w':World) (hb:Gr w2 w')=>HC.out w' (HBX.out.trans (hb.below.mono HBX.out.size)))
 have s0:Gr w2 w2.drew:=(Gr.refl w2).drew
 clear q0 q1 q2 q3 q4 q5 hsz
 go_region_held3 (fun w'=>Gr w2 w'∧w'.cell? ⟨w.heap.size,0,none⟩=some (.slice a1 m1 c1)∧w'.cell? ⟨w.heap.size,1,none⟩=some (.slice a2 m2 c2)∧w'.cell? ⟨w.heap.size+1,0,none⟩=some (.int .i64 st)∧w'.cell? ⟨w.heap.size+1,1,none⟩=some (.slice a3 m3 c3)∧w'.cell? ⟨w.heap.size+1+1,0,none⟩=some (.int .i64 st)∧w'.cell? ⟨w.heap.size+1+1,1,none⟩=some (.slice a4 m4 c4))
  (first | exact HS.out _ (by assumption) | exact HS.out _ (HBA.out _ (by assumption) _))
  (first
    | (go_at_call 191;first | ((with_reducible refine(HXB.out _ (And.left (by assumption))).mono ?_);rintro e w5 ⟨rfl,b5⟩;have s5:=HBS.out _ _ (And.left (by assumption)) b5;clear b5) | ((with_reducible refine(HYB.out _ (And.left (by assumption))).mono ?_);rintro e w6 ⟨rfl,b6⟩;have s6:=HBS.out _ _ (And.left (by assumption)) b6;clear b6))
    | (go_at_call 174;first | ((with_reducible refine(HK1.out _).mono ?_);rintro e w7 ⟨rfl,rfl⟩) | ((with_reducible refine(HK2.out _).mono ?_);rintro e w7 ⟨rfl,rfl⟩) | ((with_reducible refine(HK3.out _).mono ?_);rintro e w7 ⟨rfl,rfl⟩))
    | (go_at_call 251;refine(HCB.out _ (And.left (by assumption))).mono ?_;rintro e w8 ⟨rfl,rfl⟩)
    | (go_at_call 173;refine(HO.out _).mono ?_;rintro e w9 ⟨rfl,rfl⟩))
 all_goals
  go_wp2
  go_ret
  exact⟨rfl,HG.out.trans (HBA.out _ (by assumption) _)⟩
theorem sortRoutes_any (u1 u2 va vb:Value) (n:Net) (st:Int) (xs ys:List Int) (bn:Nat) (w:World) (hn0:w.cell? ⟨bn,0,none⟩=some u1) (hn1:w.cell? ⟨bn,1,none⟩=some u2) (h:Rdt w (flt 4 fibE n.fs) u2) (h1:∃a m c,u1= .slice a m c) (ha:Rd w va xs) (hb:Rd w vb ys)
 (hlx:xs.length≤1000) (hly:ys.length≤1000) (hix:InNet n xs) (hiy:InNet n ys) (hL:LenOk n):
 Calls Tryz.prog 241 #[.agg #[.int .i64 st,va],.agg #[.int .i64 st,vb],ptr bn] w fun e w'=>e= .returned (.int .i64 (cmpR n xs ys))∧Gr w w':=by
 have HC:=Lib.hid (fun w' (hw:Below w.heap.size w w')=>compareRoutes_any u1 u2 va vb n st xs ys w' (h.behind hw) h1 (ha.belowAll hw) (hb.belowAll hw) hlx hly hix hiy hL)
 obtain⟨a1,m1,c1,rfl⟩:=h1
 obtain⟨a2,m2,c2,rfl,-,-,-,-⟩:=flt_opn (m:=4) (enc:=fibE) (fun _=>rfl) (by omega) nilB h
 obtain⟨a3,c3,m3,-,rfl,-,hm3,-⟩:=ha.opn
 obtain⟨a4,c4,m4,-,rfl,-,hm4,-⟩:=hb.opn
 clear h ha hb hlx hly hix hiy hL
 generalize cmpR n xs ys=R at *
 have hG:=((Gr.refl w).alloc (.cells #[.int .i64 st,.slice a3 m3 c3] 82)).alloc (.cells #[.int .i64 st,.slice a4 m4 c4] 82)
 have k0:=heap_alloc_new w (.cells #[.int .i64 st,.slice a3 m3 c3] 82)
 have k0':=(heap_alloc_old _ (.cells #[.int .i64 st,.slice a4 m4 c4] 82) (Array.getElem?_eq_some_iff.1 k0).1).trans k0
 have k1:=heap_alloc_new (w.alloc (.cells #[.int .i64 st,.slice a3 m3 c3] 82)) (.cells #[.int .i64 st,.slice a4 m4 c4] 82)
 rw[show(w.alloc (.cells #[.int .i64 st,.slice a3 m3 c3] 82)).heap.size=w.heap.size+1 by simp] at k1
 have z0:=(hG.below.cell (World.block_lt_of_cell? _ _ hn0)).trans hn0
 have z1:=(hG.below.cell (World.block_lt_of_cell? _ _ hn1)).trans hn1
 have q2:=blkc k0' (j:=0) (show _=some (.int .i64 st) from rfl)
 have q3:=blkc k0' (j:=1) (show _=some (.slice a3 m3 c3) from rfl)
 have q4:=blkc k1 (j:=0) (show _=some (.int .i64 st) from rfl)
 have q5:=blkc k1 (j:=1) (show _=some (.slice a4 m4 c4) from rfl)
 have HG:=Lib.hid hG
 clear k0 k0' k1 hG hn0 hn1
 go_enter Tryz.func241,Tryz.ntmps241
 go_wp2_with fail
 refine(HC.out _ HG.out.below).mono ?_
 rintro e w' ⟨rfl,hw⟩
 have HW:=Lib.hid (HG.out.trans hw)
 clear hw
 go_wp2
 go_ret
 exact⟨rfl,HW.out⟩
theorem Tryz.infoI:(Tryz.prog.info? 3).map (fun i=>(i.zero,i.size,i.bytes))=some (some (.int .i64 0),1,8):=by kernel_rfl
def VisP (o:Option (List Int)) (w:World) (e:Ending) (w':World):Prop:=∃v,e= .returned (.tuple #[v,.bool o.isSome])∧(o.isSome=true→Own w' w.heap.size v (o.getD []))∧(∃a m c,v= .slice a m c)∧Below w.heap.size w w'
theorem VisP.no {o:Option (List Int)} {w w':World} {a:Option Addr} {m c:Nat} (h:o=none) (hb:Below w.heap.size w w'):VisP o w (.returned (.tuple #[.slice a m c,.bool false])) w':=by
 subst h
 exact⟨.slice a m c,rfl,(fun e=>(by cases e)),⟨_,_,_,rfl⟩,hb⟩
theorem VisP.yes {o:Option (List Int)} {w w':World} {a:Option Addr} {m c:Nat} {xs:List Int} (h:o=some xs) (ho:Own w' w.heap.size (.slice a m c) xs) (hb:Below w.heap.size w w'):VisP o w (.returned (.tuple #[.slice a m c,.bool true])) w':=by
 subst h
 exact⟨.slice a m c,rfl,fun _=>ho,⟨_,_,_,rfl⟩,hb⟩
theorem rouN_no1 {n:Net} {r:Rou} (h:inB r.st 0 ((n.ns.length:Int)-1)=false):rouN n r=none:=by unfold rouN;rw[h];rfl
theorem rouN_no2 {n:Net} {r:Rou} (h:r.fb.length=0):rouN n r=none:=by
 have:r.fb=[]:=List.eq_nil_of_length_eq_zero h
 unfold rouN;rw[this];simp
theorem rouN_go {n:Net} {r:Rou} (h:inB r.st 0 ((n.ns.length:Int)-1)=true) (h2:r.fb.length≠0):rouN n r=wlk n [r.st] r.st r.fb:=by
 have:r.fb.isEmpty=false:=by cases hh:r.fb <;> simp_all
 unfold rouN;rw[h,this];rfl
theorem own_one (w:World) (x:Int) (T:TypeId):Own (w.alloc (.cells #[.int .i64 x] T)) w.heap.size (.slice (some ⟨w.heap.size,0,none⟩) 1 1) [x]:=
 .inr ⟨w.heap.size,0,1,#[.int .i64 x],rfl,Nat.le_refl _,⟨T,heap_alloc_new w _⟩,by simp,by unfold maxLen;omega,by simp,by simp[ints]⟩
theorem visited_any (u1 u2 v3:Value) (n:Net) (r:Rou) (w:World) (h:NetR w (.agg #[u1,u2]) n) (hr:Rd w v3 r.fb) (hl:r.fb.length≤1100000):
 Calls Tryz.prog 139 #[.agg #[u1,u2],.agg #[.int .i64 r.st,v3]] w (VisP (rouN n r) w):=by
 obtain⟨x1,x2,e,r1,r2,hsm⟩:=h
 simp only[Value.agg.injEq,Array.mk.injEq,List.cons.injEq,and_true] at e
 obtain⟨rfl,rfl⟩:=e
 obtain⟨a1,m1,c1,rfl,HN1,hc1,hm1,-⟩:=flt_opn (m:=1) (enc:=strE) (fun _=>rfl) (by omega) nilS r1
 obtain⟨a2,m2,c2,rfl,HN2,hc2,hm2,ha2⟩:=flt_opn (m:=4) (enc:=fibE) (fun _=>rfl) (by omega) nilB r2
 obtain⟨a3,c3,m3,HN3,rfl,hc3,hm3,ha3⟩:=hr.opn
 have HO1:=Lib.hid (@rouN_no1 n r)
 have HO2:=Lib.hid (@rouN_no2 n r)
 have HO3:=Lib.hid (@rouN_go n r)
 rw[HN1.out] at HO1 HO3
 rw[HN3.out] at HO2 HO3
 have HX:=Lib.hid (fun w' a m c (hb:Below w.heap.size w w') (e:rouN n r=none)=>@VisP.no (rouN n r) w w' a m c e hb)
 have HY:=Lib.hid (fun w' a m c xs (hb:Below w.heap.size w w') (ho:Own w' w.heap.size (.slice a m c) xs) (e:rouN n r=some xs)=>@VisP.yes (rouN n r) w w' a m c xs e ho hb)
 have h10:m3≤1100000:=by have:=HN3.out;omega
 have HA2:=Lib.hid ha2
 have HA3:=Lib.hid ha3
 obtain⟨bx,bc,blt,-⟩:=box_facts w #[.slice a1 m1 c1,.slice a2 m2 c2] 35
 obtain⟨by',bd,bmt,-⟩:=box_facts (w.alloc (.cells #[.slice a1 m1 c1,.slice a2 m2 c2] 35)) #[.int .i64 r.st,.slice a3 m3 c3] 82
 have q0:=(by'.cell (p:=⟨w.heap.size,0,none⟩) blt).trans (bc 0 _ rfl)
 have q1:=(by'.cell (p:=⟨w.heap.size,1,none⟩) blt).trans (bc 1 _ rfl)
 have q2:=bd 0 _ rfl
 have q3:=bd 1 _ rfl
 have hs1:(w.alloc (.cells #[.slice a1 m1 c1,.slice a2 m2 c2] 35)).heap.size=w.heap.size+1:=by simp
 rw[hs1] at q2 q3 bmt
 have HBX:=Lib.hid (bx.trans (by'.mono bx.size))
 have blt2:=Nat.lt_of_lt_of_le blt by'.size
 clear bc bd bx by' hs1 ha2 ha3 r1 r2 blt hr
 go_enter Tryz.func139,Tryz.ntmps139
 cases hin:inB r.st 0 ((m1:Int)-1)
 · have HE:=Lib.hid (HO1.out hin)
   go_wp2_with (go_at_call 74;refine(within_any _ _ _ _).mono ?_;rintro e w' ⟨rfl,rfl⟩;rw[hin])
   go_ret2
   exact HX.out _ _ _ _ HBX.out HE.out
 by_cases h0:m3=0
 · have HE:=Lib.hid (HO2.out h0)
   have b1:((m3:Int)==0)=true:=by rw[beq_iff_eq];omega
   have b2:decide ((m3:Int)=0)=true:=decide_eq_true (by omega)
   clear h0
   go_wp2_with (go_at_call 74;refine(within_any _ _ _ _).mono ?_;rintro e w' ⟨rfl,rfl⟩;rw[hin])
   go_ret2
   exact HX.out _ _ _ _ HBX.out HE.out
 have HE:=Lib.hid (HO3.out hin h0)
 have b1:((m3:Int)==0)=false:=by rw[beq_eq_false_iff_ne];omega
 have b2:decide ((m3:Int)=0)=false:=decide_eq_false (by omega)
 clear h0
 go_wp2_with (go_at_call 74;refine(within_any _ _ _ _).mono ?_;rintro e w' ⟨rfl,rfl⟩;rw[hin])
 generalize (w.alloc (.cells #[.slice a1 m1 c1,.slice a2 m2 c2] 35)).alloc (.cells #[.int .i64 r.st,.slice a3 m3 c3] 82)=w2 at *
 have hx1:¬w.heap.size=w2.heap.size:=by omega
 have hx2:¬w.heap.size+1=w2.heap.size:=by omega
 have HO0:=Lib.hid (show Own (w2.drew.alloc (.cells #[.int .i64 r.st] 3)) w2.heap.size (.slice (some ⟨w2.heap.size,0,none⟩) 1 1) [r.st] from own_one w2.drew r.st 3)
 have HB0:=Lib.hid (((Below.refl w2.heap.size w2).drew).alloc (Nat.le_refl _) (.cells #[.int .i64 r.st] 3))
 go_cut [6,7] from 24 to 28 (fun s6 s7 wx=>s6= .slice (some ⟨w2.heap.size,0,none⟩) 1 1∧s7= .int .i64 r.st∧Hid (wx=w2.drew.alloc (.cells #[.int .i64 r.st] 3)))
 case first=>
  go_region_law (fail)
  all_goals
   go_wp2
   go_meet
   exact⟨rfl,rfl,rfl⟩
 case rest=>
 obtain⟨rfl,rfl,hw⟩:=hcut
 have hw:=hw.out
 subst hw
 generalize w2.drew.alloc (.cells #[.int .i64 r.st] 3)=w3 at *
 have g3:=(HB0.out.cell bmt).trans q3
 clear hx1 hx2 b1 b2 hin
 go_wp2
 clear g3
 go_loopw [6,7,9,32] (fun s6 s7 _ i wr=>∃(k:Nat) (out:List Int) (t:Int),k≤m3∧i= .int .i64 k∧s7= .int .i64 t∧Hid (Own wr w2.heap.size s6 out)∧Hid (out.length=k+1)∧Hid (wlk n [r.st] r.st r.fb=wlk n out t (r.fb.drop k))∧Hid (Below w2.heap.size w2 wr)) (fun _ _ _ i _=>m3-(intOf i).toNat)
 case atStart=>exact⟨0,[r.st],r.st,Nat.zero_le _,rfl,rfl,HO0.out,rfl,rfl,HB0.out⟩
 case round=>
  obtain⟨k,out,t,hk,rfl,rfl,HOW,HLN,HW,HB⟩:=hrel
  obtain⟨aR,cR,nR,HNR,rfl,hcR,hnR,-⟩:=HOW.out.rd.opn
  by_cases hlt:k<m3
  · have hltI:(k:Int)<(m3:Int):=by omega
    have HST:=Lib.hid (wlk_step (n:=n) (out:=out) (t:=t) (xs:=r.fb) (k:=k) (by rw[HN3.out];exact hlt))
    rw[HN2.out] at HST
    obtain⟨b,off,rfl,hbs,hcs⟩:=HA3.out (by omega)
    have p1:=(HB.out.cell (p:=⟨w.heap.size,1,none⟩) blt2).trans q1
    have c0:=(HB.out.cell (p:=⟨b,off+k,none⟩) (Nat.lt_of_lt_of_le hbs HBX.out.size)).trans ((HBX.out.cell (p:=⟨b,off+k,none⟩) hbs).trans (hcs k hlt))
    clear hcs
    generalize r.fb[k]?.getD 0=x at *
    cases hix:inB x 0 ((m2:Int)-1)
    · rw[hix] at HST
      have HF:=Lib.hid (HE.out.trans (HW.out.trans HST.out))
      go_wp2_with (go_at_call 74;refine(within_any _ _ _ _).mono ?_;rintro e w' ⟨rfl,rfl⟩;rw[hix])
      go_ret2
      exact HX.out _ _ _ _ (HBX.out.trans (HB.out.mono HBX.out.size)) HF.out
    rw[hix] at HST
    obtain⟨hx0,hx9⟩:=inB_true hix
    obtain⟨j,rfl⟩:∃j:Nat,x=(j:Int):=⟨x.toNat,by omega⟩
    have hj:j<m2:=by omega
    have hjI:(j:Int)<(m2:Int):=by omega
    obtain⟨b',off',rfl,hbs',hcs'⟩:=HA2.out (by omega)
    have hcw:=fun(r:Nat) (u:Value) (hu:(fibE (n.fs[j]?.getD nilB))[r]?= some u)=>(HB.out.cell (p:=⟨b',off'+j*4+r,none⟩) (Nat.lt_of_lt_of_le hbs' HBX.out.size)).trans ((HBX.out.cell hbs').trans (hcs' j hj r u hu))
    have d0:=hcw 0 _ rfl
    have d1:=hcw 1 _ rfl
    have d2:=hcw 2 _ rfl
    have d3:=hcw 3 _ rfl
    simp only[Nat.add_zero] at d0
    have HOE:=Lib.hid (fun w=>otherEnd_any (n.fs[j]?.getD nilB) t w)
    have HST2:=Lib.hid (show wlk n out t (r.fb.drop k)=(if othE (n.fs[j]?.getD nilB) t<0∨othE (n.fs[j]?.getD nilB) t∈out then none else wlk n (out++[othE (n.fs[j]?.getD nilB) t]) (othE (n.fs[j]?.getD nilB) t) (r.fb.drop (k+1))) from HST.out)
    unfold fibV at HOE
    clear hcw hcs' HST hx0 hx9
    generalize n.fs[j]?.getD nilB=f at *
    generalize othE f t=o at *
    go_wp2_with (go_at_call 74;refine(within_any _ _ _ _).mono ?_;rintro e w' ⟨rfl,rfl⟩;rw[hix])
    refine(HOE.out _).mono ?_
    rintro e w4 ⟨rfl,b4⟩
    have HB4:=Lib.hid (HB.out.trans (b4.mono HB.out.size))
    have HOW4:=Lib.hid (HOW.out.belowAll b4)
    have HC4:=Lib.hid (containsI_any _ out o w4 HOW4.out.rd)
    clear b4 p1 c0 d0 d1 d2 d3 HOE hix
    by_cases ho:o<0
    · have HF:=Lib.hid (HE.out.trans (HW.out.trans (HST2.out.trans (if_pos (.inl ho)))))
      have hd:decide (o<0)=true:=decide_eq_true ho
      clear ho
      go_wp2
      go_ret2
      exact HX.out _ _ _ _ (HBX.out.trans (HB4.out.mono HBX.out.size)) HF.out
    have hd:decide (o<0)=false:=decide_eq_false ho
    cases hcn:out.contains o
    case true=>
     have HF:=Lib.hid (HE.out.trans (HW.out.trans (HST2.out.trans (if_pos (.inr (List.contains_iff_mem.1 hcn))))))
     rw[hcn] at HC4
     clear ho
     go_wp2_with (go_at_call 65;refine(HC4.out).mono ?_;rintro e w' ⟨rfl,rfl⟩)
     go_ret2
     exact HX.out _ _ _ _ (HBX.out.trans (HB4.out.mono HBX.out.size)) HF.out
    have HF:=Lib.hid (HW.out.trans (HST2.out.trans (if_neg (fun h=>h.elim ho (fun h=>by rw[List.contains_iff_mem.2 h] at hcn;cases hcn)))))
    rw[hcn] at HC4
    clear ho hcn
    have HLO:=Lib.hid (show out.length≤4000000 by have:=HLN.out;omega)
    go_wp2_with (first
     | (go_at_call 65;refine(HC4.out).mono ?_;rintro e w' ⟨rfl,rfl⟩)
     | (at_builtin;go_loud (refine wpList_pushI rfl (.tmp 57) (.tmp 59) 58 rfl Tryz.underlying58 Tryz.infoI w2.heap.size (.slice aR nR cR) out rfl HOW4.out rfl HLO.out HB4.out.size ?_);intro v5 w5 o5 g5 l5;have HO5:=Lib.hid o5;have HB5:=Lib.hid (HB4.out.grown g5 HB4.out.size (fun q hq=>(HOW4.out.lt q hq).1));clear o5 g5 l5))
    go_roundw
    case rel=>exact⟨k+1,out++[o],o,hlt,by go_num,rfl,HO5.out,by show(out++[o]).length=k+1+1;rw[List.length_append,HLN.out];rfl,HF.out,HB5.out⟩
    case measure=>simp[intOf];omega
  · obtain rfl:m3=k:=by omega
    have HF:=Lib.hid (show rouN n r=some out by rw[HE.out,HW.out,List.drop_of_length_le (Nat.le_of_eq HN3.out)];rfl)
    go_wp2
    go_ret2
    exact HY.out _ _ _ _ _ (HBX.out.trans (HB.out.mono HBX.out.size)) (HOW.out.mono HBX.out.size) HF.out
def cmn (xs ys:List Int):List Int:=xs.filter fun x=>ys.contains x
theorem cmn_yes {xs ys:List Int} {k:Nat} (hk:k<xs.length) (h:ys.contains (xs[k]?.getD 0)=true):cmn (xs.take (k+1)) ys=cmn (xs.take k) ys++[xs[k]?.getD 0]:=by
 rw[List.getElem?_eq_getElem hk] at h ⊢
 unfold cmn
 rw[List.take_add_one,List.filter_append,List.getElem?_eq_getElem hk]
 simpa using h
theorem cmn_no {xs ys:List Int} {k:Nat} (hk:k<xs.length) (h:ys.contains (xs[k]?.getD 0)=false):cmn (xs.take (k+1)) ys=cmn (xs.take k) ys:=by
 rw[List.getElem?_eq_getElem hk] at h
 unfold cmn
 rw[List.take_add_one,List.filter_append,List.getElem?_eq_getElem hk]
 simpa using h
theorem cmn_len (xs ys:List Int):(cmn xs ys).length≤xs.length:=List.length_filter_le _ _
theorem own_none (w:World) (T:TypeId):Own (w.alloc (.cells #[] T)) w.heap.size (.slice (some ⟨w.heap.size,0,none⟩) 0 0) []:=
 .inr ⟨w.heap.size,0,0,#[],rfl,Nat.le_refl _,⟨T,heap_alloc_new w _⟩,by simp,by unfold maxLen;omega,by simp,by simp[ints]⟩
theorem common_any (va vb:Value) (xs ys:List Int) (w:World) (ha:Rd w va xs) (hb:Rd w vb ys) (hl:xs.length≤1100000):
 Calls Tryz.prog 143 #[va,vb] w fun e w'=>∃v',e= .returned v'∧Own w' w.heap.size v' (ust (cmn xs ys))∧Below w.heap.size w w':=by
 obtain⟨a,ca,n,HN,rfl,_,hn,hca⟩:=ha.opn
 have HC:=Lib.hid (fun x w' (hw:Below w.heap.size w w')=>containsI_any vb ys x w' (hb.belowAll hw))
 obtain⟨b,cb,m,-,rfl,-,-,-⟩:=hb.opn
 have HA:=Lib.hid hca
 have HY:=Lib.hid (fun k h1 h2=>@cmn_yes xs ys k h1 h2)
 have HZ:=Lib.hid (fun k h1 h2=>@cmn_no xs ys k h1 h2)
 have HL:=Lib.hid (fun k=>Nat.le_trans (cmn_len (xs.take k) ys) (List.length_take_le k xs))
 have HT:=Lib.hid (show xs.take n=xs from List.take_of_length_le (Nat.le_of_eq HN.out))
 have h10:n≤1100000:=by have:=HN.out;omega
 have HO0:=Lib.hid (own_none w 3)
 have HB0:=Lib.hid ((Below.refl w.heap.size w).alloc (Nat.le_refl _) (.cells #[] 3))
 have hN:=HN.out
 rw[hN] at HY HZ
 clear hca ha hb hN
 go_enter Tryz.func143,Tryz.ntmps143
 go_wp2
 go_loopw [5,7,11] (fun s5 _ i wr=>∃k:Nat,k≤n∧i= .int .i64 k∧Hid (Own wr w.heap.size s5 (cmn (xs.take k) ys))∧Hid (Below w.heap.size w wr)) (fun _ _ i _=>n-(intOf i).toNat)
 case atStart=>exact⟨0,Nat.zero_le _,rfl,HO0.out,HB0.out⟩
 case round=>
  obtain⟨k,hk,rfl,HO,HB⟩:=hrel
  obtain⟨aR,cR,nR,HNR,rfl,hcR,hnR,-⟩:=HO.out.rd.opn
  by_cases hlt:k<n
  · have hltI:(k:Int)<(n:Int):=by omega
    obtain⟨b',off,rfl,hbs,hcs⟩:=HA.out (by omega)
    have c0:=(HB.out.cell (p:=⟨b',off+k,none⟩) hbs).trans (hcs k hlt)
    have HY1:=Lib.hid (HY.out k hlt)
    have HZ1:=Lib.hid (HZ.out k hlt)
    have HLO:=Lib.hid (show(cmn (xs.take k) ys).length≤4000000 by have:=HL.out k;omega)
    have HC1:=Lib.hid (HC.out (xs[k]?.getD 0) wr HB.out)
    clear hcs
    generalize xs[k]?.getD 0=x at *
    generalize cmn (xs.take k) ys=out at *
    cases hcn:ys.contains x
    · have HE:=Lib.hid (HZ1.out hcn)
      rw[hcn] at HC1
      clear hcn
      go_wp2_with (go_at_call 65;refine(HC1.out).mono ?_;rintro e w' ⟨rfl,rfl⟩)
      go_roundw
      case rel=>exact⟨k+1,hlt,by go_num,by rw[HE.out];exact HO.out,HB.out⟩
      case measure=>simp[intOf];omega
    · have HE:=Lib.hid (HY1.out hcn)
      rw[hcn] at HC1
      clear hcn
      go_wp2_with (first
       | (go_at_call 65;refine(HC1.out).mono ?_;rintro e w' ⟨rfl,rfl⟩)
       | (at_builtin;go_loud (refine wpList_pushI rfl (.tmp 18) (.tmp 20) 58 rfl Tryz.underlying58 Tryz.infoI w.heap.size (.slice aR nR cR) out rfl HO.out rfl HLO.out HB.out.size ?_);intro v5 w5 o5 g5 l5;have HO5:=Lib.hid o5;have HB5:=Lib.hid (HB.out.grown g5 HB.out.size (fun q hq=>(HO.out.lt q hq).1));clear o5 g5 l5))
      go_roundw
      case rel=>exact⟨k+1,hlt,by go_num,by rw[HE.out];exact HO5.out,HB5.out⟩
      case measure=>simp[intOf];omega
  · obtain rfl:n=k:=by omega
    have HLO:=Lib.hid (show(cmn (xs.take n) ys).length≤4000000 by have:=HL.out n;omega)
    rw[HT.out] at HO HLO
    go_wp2_with fail
    refine(sortI_own _ (cmn xs ys) w.heap.size _ HO.out (Nat.le_trans HLO.out (by decide))).mono ?_
    rintro e w2 ⟨rfl,o2,g2⟩
    have HB2:=Lib.hid (HB.out.grown g2 HB.out.size (fun q hq=>(HO.out.lt q hq).1))
    have HO2:=Lib.hid o2
    have HLS:=Lib.hid (show(srt (cmn xs ys)).length≤1099511627776 by rw[srt_len];exact Nat.le_trans HLO.out (by decide))
    clear o2 g2
    go_wp2_with fail
    refine(compactI_own _ (srt (cmn xs ys)) w.heap.size w2 HO2.out HLS.out).mono ?_
    rintro e w3 ⟨v3,rfl,-,o3,g3⟩
    have HB3:=Lib.hid (HB2.out.grown g3 HB2.out.size (fun q hq=>(HO2.out.lt q hq).1))
    have HO3:=Lib.hid o3
    obtain⟨a3,c3,n3,-,rfl,-⟩:=o3.rd.opn
    clear o3 g3
    go_wp2
    go_ret
    exact⟨_,rfl,HO3.out,HB3.out⟩
theorem meets_cmn (xs ys:List Int):meets xs ys=decide (0<(ust (cmn xs ys)).length):=by
 rw[Bool.eq_iff_iff,decide_eq_true_eq]
 unfold meets
 rw[List.any_eq_true]
 constructor
 · rintro⟨x,hx,hy⟩
   have:x∈ust (cmn xs ys):=ust_mem.2 (List.mem_filter.2 ⟨hx,hy⟩)
   exact List.length_pos_of_mem this
 · intro h
   obtain⟨x,hx⟩:=List.exists_mem_of_length_pos h
   have:=List.mem_filter.1 (ust_mem.1 hx)
   exact⟨x,this.1,this.2⟩
theorem collide_any (v1 v2:Value) (x y:Lgt) (w:World) (h1:Rd w v1 x.fb) (h2:Rd w v2 y.fb) (hb1:blkOk x.fi x.ct=true) (hb2:blkOk y.fi y.ct=true) (hl:x.fb.length≤1100000):
 Calls Tryz.prog 94 #[.agg #[.int .i64 x.id,.int .i64 x.st,v1,.int .i64 x.fi,.int .i64 x.ct],.agg #[.int .i64 y.id,.int .i64 y.st,v2,.int .i64 y.fi,.int .i64 y.ct]] w fun e w'=>e= .returned (.bool (collB x y))∧Below w.heap.size w w':=by
 have HC:=Lib.hid (fun w' (hb:Below w.heap.size w w')=>common_any v1 v2 x.fb y.fb w' (h1.belowAll hb) (h2.belowAll hb) hl)
 have HM:=Lib.hid (meets_cmn x.fb y.fb)
 have hd1:=blkOk_bd hb1
 have hd2:=blkOk_bd hb2
 obtain⟨a1,c1,m1,-,rfl,-,-,-⟩:=h1.opn
 obtain⟨a2,c2,m2,-,rfl,-,-,-⟩:=h2.opn
 have HF:=Lib.hid (show collB x y=(decide (x.fi<y.fi+y.ct∧y.fi<x.fi+x.ct)&&meets x.fb y.fb) from rfl)
 obtain⟨bx,bc,blt,-⟩:=box_facts w #[.int .i64 x.id,.int .i64 x.st,.slice a1 m1 c1,.int .i64 x.fi,.int .i64 x.ct] 86
 obtain⟨by',bd,bmt,-⟩:=box_facts (w.alloc (.cells #[.int .i64 x.id,.int .i64 x.st,.slice a1 m1 c1,.int .i64 x.fi,.int .i64 x.ct] 86)) #[.int .i64 y.id,.int .i64 y.st,.slice a2 m2 c2,.int .i64 y.fi,.int .i64 y.ct] 86
 have q2:=(by'.cell (p:=⟨w.heap.size,2,none⟩) blt).trans (bc 2 _ rfl)
 have q3:=(by'.cell (p:=⟨w.heap.size,3,none⟩) blt).trans (bc 3 _ rfl)
 have q4:=(by'.cell (p:=⟨w.heap.size,4,none⟩) blt).trans (bc 4 _ rfl)
 have l2:=bd 2 _ rfl
 have l3:=bd 3 _ rfl
 have l4:=bd 4 _ rfl
 have hs1:(w.alloc (.cells #[.int .i64 x.id,.int .i64 x.st,.slice a1 m1 c1,.int .i64 x.fi,.int .i64 x.ct] 86)).heap.size=w.heap.size+1:=by simp
 rw[hs1] at l2 l3 l4 bmt
 have blt2:=Nat.lt_of_lt_of_le blt by'.size
 have HBX:=Lib.hid (bx.trans (by'.mono bx.size))
 clear bc bd bx by' hs1 blt h1 h2 hb1 hb2
 generalize collB x y=q at *
 generalize meets x.fb y.fb=mt at *
 generalize cmn x.fb y.fb=cm at *
 generalize x.fi=xf at *
 generalize y.fi=yf at *
 generalize x.ct=xc at *
 generalize y.ct=yc at *
 obtain⟨f,rfl⟩:∃f:Nat,xf=(f:Int):=⟨xf.toNat,by omega⟩
 obtain⟨g,rfl⟩:∃f:Nat,yf=(f:Int):=⟨yf.toNat,by omega⟩
 obtain⟨c,rfl⟩:∃f:Nat,xc=(f:Int):=⟨xc.toNat,by omega⟩
 obtain⟨d,rfl⟩:∃f:Nat,yc=(f:Int):=⟨yc.toNat,by omega⟩
 have HX:=Lib.hid (fun w=>maskOf_any f c w (by omega))
 have HY:=Lib.hid (fun w=>maskOf_any g d w (by omega))
 have hbm:=bits_meet (f:=f) (c:=c) (g:=g) (d:=d) (by omega) (by omega) (by omega) (by omega)
 clear hd1 hd2
 generalize mskN f c=s1 at *
 generalize mskN g d=s2 at *
 go_enter Tryz.func94,Tryz.ntmps94
 go_wp2
 generalize (w.alloc (.cells #[.int .i64 x.id,.int .i64 x.st,.slice a1 m1 c1,.int .i64 f,.int .i64 c] 86)).alloc (.cells #[.int .i64 y.id,.int .i64 y.st,.slice a2 m2 c2,.int .i64 g,.int .i64 d] 86)=w2 at *
 cases hd:decide ((f:Int)<g+d∧(g:Int)<f+c)
 · rw[hd] at hbm HF
   clear hd
   have j2:=rg q2
   have j3:=rg q3
   have j4:=rg q4
   have k2:=rg l2
   have k3:=rg l3
   have k4:=rg l4
   refine wp_region_quiet_below (by kernel_rfl) (by kernel_rfl) ?_
   repeat (go_big_quiet_step (first | (go_at_call 142;first | (with_reducible exact Calls.regrown_of (HX.out _)) | (with_reducible exact Calls.regrown_of (HY.out _)))))
   refine wpQuiet_nil ?_
   rintro _ ⟨⟨dq,osq⟩,rfl⟩
   go_wp2
   go_ret
   exact⟨by rw[HF.out];rfl,HBX.out.trans ((below_regrown _ dq osq).mono HBX.out.size)⟩
 rw[hd] at hbm HF
 clear hd
 have HS:=Lib.hid (fun(w':World) (hb:Below w2.heap.size w2 w')=>show Below w2.heap.size w2 w'∧w'.cell? ⟨w.heap.size,2,none⟩=some (.slice a1 m1 c1)∧w'.cell? ⟨w.heap.size,3,none⟩=some (.int .i64 f)∧w'.cell? ⟨w.heap.size,4,none⟩=some (.int .i64 c)∧w'.cell? ⟨w.heap.size+1,2,none⟩=some (.slice a2 m2 c2)∧w'.cell? ⟨w.heap.size+1,3,none⟩=some (.int .i64 g)∧w'.cell? ⟨w.heap.size+1,4,none⟩=some (.int .i64 d) from
  ⟨hb,(hb.cell blt2).trans q2,(hb.cell blt2).trans q3,(hb.cell blt2).trans q4,(hb.cell bmt).trans l2,(hb.cell bmt).trans l3,(hb.cell bmt).trans l4⟩)
 have HBS:=Lib.hid (fun(wx w':World) (hb:Below w2.heap.size w2 wx) (hc:Below wx.heap.size wx w')=>show Below w2.heap.size w2 w' from hb.trans (hc.mono hb.size))
 have HCB:=Lib.hid (fun(w':World) (hb:Below w2.heap.size w2 w')=>HC.out w' (HBX.out.trans (hb.mono HBX.out.size)))
 have s0:Below w2.heap.size w2 w2.drew:=(Below.refl w2.heap.size w2).drew
 clear q2 q3 q4 l2 l3 l4
 go_region_held3 (fun w'=>Below w2.heap.size w2 w'∧w'.cell? ⟨w.heap.size,2,none⟩=some (.slice a1 m1 c1)∧w'.cell? ⟨w.heap.size,3,none⟩=some (.int .i64 f)∧w'.cell? ⟨w.heap.size,4,none⟩=some (.int .i64 c)∧w'.cell? ⟨w.heap.size+1,2,none⟩=some (.slice a2 m2 c2)∧w'.cell? ⟨w.heap.size+1,3,none⟩=some (.int .i64 g)∧w'.cell? ⟨w.heap.size+1,4,none⟩=some (.int .i64 d))
  (first | exact HS.out _ (by assumption))
  (first
    | (go_at_call 142;first | ((with_reducible refine(HX.out _).mono ?_);rintro e w5 ⟨rfl,b5⟩;have s5:=HBS.out _ _ (And.left (by assumption)) b5;clear b5) | ((with_reducible refine(HY.out _).mono ?_);rintro e w6 ⟨rfl,b6⟩;have s6:=HBS.out _ _ (And.left (by assumption)) b6;clear b6))
    | (go_at_call 143;go_loud (refine(HCB.out _ (And.left (by assumption))).mono ?_;rintro e w7 ⟨v7,rfl,o7,b7⟩;obtain⟨a7,c7,n7,HN7,rfl,-,hn7,-⟩:=o7.rd.opn;have s7:=HBS.out _ _ (And.left (by assumption)) b7;clear b7 o7)))
 all_goals
  go_wp2
  go_ret
  exact⟨by rw[HF.out,HM.out,HN7.out];rfl,HBX.out.trans (s7.mono HBX.out.size)⟩
theorem lgt_leaf {w:World} {x:Value} {u:Value} (h:Rdt w (.leaf x) u):u=x:=by cases h;rfl
theorem lgt_opn {w:World} {v:Value} {zs:List Lgt} (h:Rdt w (rws 5 lgtD zs) v):∃a n cap,v= .slice a n cap∧Hid (zs.length=n)∧n≤cap∧n≤9223372036854775807∧
 (0<n→ ∃b off,a=some ⟨b,off,none⟩∧b<w.heap.size∧ ∀i,i<n→ ∃u,w.cell? ⟨b,off+i*5,none⟩=some (.int .i64 (zs[i]?.getD nilL).id)∧w.cell? ⟨b,off+i*5+1,none⟩=some (.int .i64 (zs[i]?.getD nilL).st)∧
   w.cell? ⟨b,off+i*5+2,none⟩=some u∧w.cell? ⟨b,off+i*5+3,none⟩=some (.int .i64 (zs[i]?.getD nilL).fi)∧w.cell? ⟨b,off+i*5+4,none⟩=some (.int .i64 (zs[i]?.getD nilL).ct)∧Rd w u (zs[i]?.getD nilL).fb):=by
 obtain⟨a,n,cap,e,HN,h1,h2,h3⟩:=rws_opn (m:=5) (en:=lgtD) (fun _=>rfl) (by omega) nilL h
 refine⟨a,n,cap,e,HN,h1,h2,fun h0=> ?_⟩
 obtain⟨b,off,ea,hb,hc⟩:=h3 h0
 refine⟨b,off,ea,hb,fun i hi=> ?_⟩
 obtain⟨u0,k0,d0⟩:=hc i hi 0 _ rfl
 obtain⟨u1,k1,d1⟩:=hc i hi 1 _ rfl
 obtain⟨u2,k2,d2⟩:=hc i hi 2 _ rfl
 obtain⟨u3,k3,d3⟩:=hc i hi 3 _ rfl
 obtain⟨u4,k4,d4⟩:=hc i hi 4 _ rfl
 rw[lgt_leaf d0] at k0
 rw[lgt_leaf d1] at k1
 rw[lgt_leaf d3] at k3
 rw[lgt_leaf d4] at k4
 exact⟨u2,k0,k1,k2,k3,k4,Rdt.toRd d2⟩
theorem indexFuncLgt_any (v:Value) (zs:List Lgt) (F:FuncId) (b0:Nat) (p:Lgt→Bool) (w:World) (h:Rdt w (rws 5 lgtD zs) v) (hF:IsFn F)
 (hp:∀(i:Nat) (w':World),i<zs.length→Below w.heap.size w w'→ ∀z u,z=zs[i]?.getD nilL→Rd w' u z.fb→Calls Tryz.prog F #[.agg #[.int .i64 z.id,.int .i64 z.st,u,.int .i64 z.fi,.int .i64 z.ct],ptr b0] w' fun e w2=>e= .returned (.bool (p z))∧Below w'.heap.size w' w2):
 Calls Tryz.prog 141 #[v,.func (.func F) #[] #[ptr b0]] w fun e w'=>e= .returned (.int .i64 (idxG zs p))∧Below w.heap.size w w':=by
 obtain⟨a,n,cap,rfl,HN,_,hla,ha⟩:=lgt_opn h
 rw[HN.out] at hp
 have HP:=Lib.hid hp
 have HA:=Lib.hid ha
 clear hp ha h
 have hF:=show∀(args:Array Value) (w:World),(callFunc F args).run Tryz.prog w= .ok (.enter F args) w from hF
 have HI:=Lib.hid (fun k hk h e=>idxG_some (zs:=zs) (p:=p) (nil:=nilL) (k:=k) hk h e)
 have HO:=Lib.hid (idxG_none (zs:=zs) (p:=p))
 have HM:=Lib.hid (fun k hk h e=>anyG_more (zs:=zs) (p:=p) (nil:=nilL) (k:=k) hk h e)
 generalize idxG zs p=r at *
 go_enter Tryz.func141,Tryz.ntmps141
 go_wp2
 go_loopw [5,8] (fun _ i wr=>∃k:Nat,k≤n∧i= .int .i64 k∧Hid ((zs.take k).any p=false)∧Hid (Below w.heap.size w wr)) (fun _ i _=>n-(intOf i).toNat)
 case atStart=>exact⟨0,by omega,rfl,by simp[Hid],Below.refl _ _⟩
 case round=>
  obtain⟨k,hk,rfl,HT,HB⟩:=hrel
  by_cases hlt:k<n
  · have hltI:(k:Int)<(n:Int):=by omega
    have hkx:k<zs.length:=by rw[HN.out];exact hlt
    obtain⟨b,off,rfl,hbs,hcs⟩:=HA.out (by omega)
    obtain⟨u,e0,e1,e2,e3,e4,hru⟩:=hcs k hlt
    have hw0:=(HB.out.cell (p:=⟨b,off+k*5,none⟩) hbs).trans e0
    have hw1:=(HB.out.cell (p:=⟨b,off+k*5+1,none⟩) hbs).trans e1
    have hw2:=(HB.out.cell (p:=⟨b,off+k*5+2,none⟩) hbs).trans e2
    have hw3:=(HB.out.cell (p:=⟨b,off+k*5+3,none⟩) hbs).trans e3
    have hw4:=(HB.out.cell (p:=⟨b,off+k*5+4,none⟩) hbs).trans e4
    have HSL:=hru.opn
    have HPK:=Lib.hid (HP.out k wr hlt HB.out _ u rfl (hru.belowAll HB.out))
    have HIK:=Lib.hid (HI.out k hkx HT.out)
    have HMK:=Lib.hid (HM.out k hkx HT.out)
    obtain⟨au,cu,nu,-,rfl,-,-,-⟩:=HSL
    clear hcs hkx e0 e1 e2 e3 e4 hru
    generalize zs[k]?.getD nilL=z at *
    generalize p z=pz at *
    have hz:=HB.out.size
    cases pz
    · have HE:=Lib.hid (HMK.out rfl)
      go_wp2_with fail
      refine HPK.out.mono ?_
      rintro e w2 ⟨rfl,b2⟩
      have HB2:=Lib.hid (HB.out.trans (b2.mono hz))
      clear b2
      go_wp2
      go_roundw
      case rel=>exact⟨k+1,by omega,by go_num,HE.out,HB2.out⟩
      case measure=>simp[intOf];omega
    · have HE:=Lib.hid (HIK.out rfl)
      go_wp2_with fail
      refine HPK.out.mono ?_
      rintro e w2 ⟨rfl,b2⟩
      have HB2:=Lib.hid (HB.out.trans (b2.mono hz))
      clear b2
      go_wp2
      go_ret
      exact⟨by rw[HE.out];rfl,HB2.out⟩
  · obtain rfl:n=k:=by omega
    have hall:=HT.out
    rw[←HN.out,List.take_length] at hall
    have HE:=Lib.hid (HO.out hall)
    clear hall
    go_wp2
    go_ret
    exact⟨by rw[HE.out];rfl,HB.out⟩
theorem containsFuncLgt_any (v:Value) (zs:List Lgt) (F:FuncId) (b0:Nat) (p:Lgt→Bool) (w:World) (h:Rdt w (rws 5 lgtD zs) v) (hF:IsFn F)
 (hp:∀(i:Nat) (w':World),i<zs.length→Below w.heap.size w w'→ ∀z u,z=zs[i]?.getD nilL→Rd w' u z.fb→Calls Tryz.prog F #[.agg #[.int .i64 z.id,.int .i64 z.st,u,.int .i64 z.fi,.int .i64 z.ct],ptr b0] w' fun e w2=>e= .returned (.bool (p z))∧Below w'.heap.size w' w2):
 Calls Tryz.prog 92 #[v,.func (.func F) #[] #[ptr b0]] w fun e w'=>e= .returned (.bool (zs.any p))∧Below w.heap.size w w':=by
 have HI:=Lib.hid (indexFuncLgt_any v zs F b0 p w h hF hp)
 have HG:=Lib.hid (idxG_geq zs p)
 generalize idxG zs p=r at *
 generalize zs.any p=s at *
 obtain⟨a,n,cap,rfl,-⟩:=lgt_opn h
 clear h hp hF
 go_enter Tryz.func92,Tryz.ntmps92
 go_wp2_with fail
 refine HI.out.mono ?_
 rintro e w2 ⟨rfl,b2⟩
 have HB:=Lib.hid b2
 clear b2
 go_wp2
 go_ret
 exact⟨by rw[←HG.out];rfl,HB.out⟩
theorem indexFuncI_any (v:Value) (zs:List Int) (F:FuncId) (b0:Nat) (p:Int→Bool) (w:World) (h:Rd w v zs) (hF:IsFn F)
 (hp:∀(i:Nat) (w':World),i<zs.length→Below w.heap.size w w'→ ∀z,z=zs[i]?.getD 0→Calls Tryz.prog F #[.int .i64 z,ptr b0] w' fun e w2=>e= .returned (.bool (p z))∧Below w'.heap.size w' w2):
 Calls Tryz.prog 249 #[v,.func (.func F) #[] #[ptr b0]] w fun e w'=>e= .returned (.int .i64 (idxG zs p))∧Below w.heap.size w w':=by
 obtain⟨a,cap,n,HN,rfl,_,hla,ha⟩:=h.opn
 rw[HN.out] at hp
 have HP:=Lib.hid hp
 have HA:=Lib.hid ha
 clear hp ha h
 have hF:=show∀(args:Array Value) (w:World),(callFunc F args).run Tryz.prog w= .ok (.enter F args) w from hF
 have HI:=Lib.hid (fun k hk h e=>idxG_some (zs:=zs) (p:=p) (nil:=0) (k:=k) hk h e)
 have HO:=Lib.hid (idxG_none (zs:=zs) (p:=p))
 have HM:=Lib.hid (fun k hk h e=>anyG_more (zs:=zs) (p:=p) (nil:=0) (k:=k) hk h e)
 generalize idxG zs p=r at *
 go_enter Tryz.func249,Tryz.ntmps249
 go_wp2
 go_loopw [5,8] (fun _ i wr=>∃k:Nat,k≤n∧i= .int .i64 k∧Hid ((zs.take k).any p=false)∧Hid (Below w.heap.size w wr)) (fun _ i _=>n-(intOf i).toNat)
 case atStart=>exact⟨0,by omega,rfl,by simp[Hid],Below.refl _ _⟩
 case round=>
  obtain⟨k,hk,rfl,HT,HB⟩:=hrel
  by_cases hlt:k<n
  · have hltI:(k:Int)<(n:Int):=by omega
    have hkx:k<zs.length:=by rw[HN.out];exact hlt
    obtain⟨b,off,rfl,hbs,hcs⟩:=HA.out (by omega)
    have hw0:=(HB.out.cell (p:=⟨b,off+k,none⟩) hbs).trans (hcs k hlt)
    have HPK:=Lib.hid (HP.out k wr hlt HB.out _ rfl)
    have HIK:=Lib.hid (HI.out k hkx HT.out)
    have HMK:=Lib.hid (HM.out k hkx HT.out)
    clear hcs hkx
    generalize zs[k]?.getD 0=z at *
    generalize p z=pz at *
    have hz:=HB.out.size
    cases pz
    · have HE:=Lib.hid (HMK.out rfl)
      go_wp2_with fail
      refine HPK.out.mono ?_
      rintro e w2 ⟨rfl,b2⟩
      have HB2:=Lib.hid (HB.out.trans (b2.mono hz))
      clear b2
      go_wp2
      go_roundw
      case rel=>exact⟨k+1,by omega,by go_num,HE.out,HB2.out⟩
      case measure=>simp[intOf];omega
    · have HE:=Lib.hid (HIK.out rfl)
      go_wp2_with fail
      refine HPK.out.mono ?_
      rintro e w2 ⟨rfl,b2⟩
      have HB2:=Lib.hid (HB.out.trans (b2.mono hz))
      clear b2
      go_wp2
      go_ret
      exact⟨by rw[HE.out];rfl,HB2.out⟩
  · obtain rfl:n=k:=by omega
    have hall:=HT.out
    rw[←HN.out,List.take_length] at hall
    have HE:=Lib.hid (HO.out hall)
    clear hall
    go_wp2
    go_ret
    exact⟨by rw[HE.out];rfl,HB.out⟩
theorem containsFuncI_any (v:Value) (zs:List Int) (F:FuncId) (b0:Nat) (p:Int→Bool) (w:World) (h:Rd w v zs) (hF:IsFn F)
 (hp:∀(i:Nat) (w':World),i<zs.length→Below w.heap.size w w'→ ∀z,z=zs[i]?.getD 0→Calls Tryz.prog F #[.int .i64 z,ptr b0] w' fun e w2=>e= .returned (.bool (p z))∧Below w'.heap.size w' w2):
 Calls Tryz.prog 236 #[v,.func (.func F) #[] #[ptr b0]] w fun e w'=>e= .returned (.bool (zs.any p))∧Below w.heap.size w w':=by
 have HI:=Lib.hid (indexFuncI_any v zs F b0 p w h hF hp)
 have HG:=Lib.hid (idxG_geq zs p)
 generalize idxG zs p=r at *
 generalize zs.any p=s at *
 obtain⟨a,cap,n,-,rfl,-⟩:=h.opn
 clear h hp hF
 go_enter Tryz.func236,Tryz.ntmps236
 go_wp2_with fail
 refine HI.out.mono ?_
 rintro e w2 ⟨rfl,b2⟩
 have HB:=Lib.hid b2
 clear b2
 go_wp2
 go_ret
 exact⟨by rw[←HG.out];rfl,HB.out⟩
/-! ### The index of the light with a number -/
def lix (p:Pln) (id:Int):Int:=idxG p.ls (fun x=>x.id==id)
theorem lightAt1_any (z:Lgt) (u:Value) (id:Int) (b0:Nat) (w:World) (hu:Rd w u z.fb) (h0:w.cell? ⟨b0,0,none⟩=some (.int .i64 id)):
 Calls Tryz.prog 154 #[.agg #[.int .i64 z.id,.int .i64 z.st,u,.int .i64 z.fi,.int .i64 z.ct],ptr b0] w fun e w'=>e= .returned (.bool (z.id==id))∧Below w.heap.size w w':=by
 obtain⟨a1,c1,n1,-,rfl,-⟩:=hu.opn
 obtain⟨bx,bc,blt,-⟩:=box_facts w #[.int .i64 z.id,.int .i64 z.st,.slice a1 n1 c1,.int .i64 z.fi,.int .i64 z.ct] 86
 have q0:=bc 0 _ rfl
 have d0:=(bx.cell (p:=⟨b0,0,none⟩) (World.block_lt_of_cell? _ _ h0)).trans h0
 have HBX:=Lib.hid bx
 have HV:=Lib.hid (rfl:(z.id==id)=(z.id==id))
 clear bx bc h0 hu
 go_enter Tryz.func154,Tryz.ntmps154
 go_wp2
 go_ret
 exact⟨rfl,HBX.out⟩
/-! ### Bits that are not in another mask -/
/-! ### The index of a light -/
theorem lix_some {p:Pln} {x:Int} (h:0≤lix p x):∃k:Nat,k<p.ls.length∧lix p x=(k:Int)∧(lgA p k).id=x:=by
 unfold lix idxG at *
 cases e:p.ls.findIdx? (fun y=>y.id==x) with
 | none=>rw[e] at h;exact absurd h (by decide)
 | some k=>
   rw[List.findIdx?_eq_some_iff_getElem] at e
   obtain⟨hk,e1,-⟩:=e
   exact⟨k,hk,rfl,by unfold lgA;rw[List.getElem?_eq_getElem hk];simpa using e1⟩
theorem lix_bd (p:Pln) (x:Int): -1≤lix p x∧lix p x<p.ls.length:=by
 rcases Int.lt_or_le (lix p x) 0 with h | h
 · unfold lix idxG at *
   cases e:p.ls.findIdx? (fun y=>y.id==x) with
   | none=>simp;omega
   | some k=>rw[e] at h;exact absurd h (by simp)
 · obtain⟨k,hk,e,-⟩:=lix_some h
   omega
/-! ### Sets of lights that are down -/
/-! ### What groups hit, as a set -/
/-! ### Suspects and explanations -/
end Go.Proofs.YtofcicomhnkocaaGreat
