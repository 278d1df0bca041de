import Derived.Test.YtofcicomhnkocaaGreatBx03
set_option linter.unusedVariables false
namespace Go.Proofs.YtofcicomhnkocaaGreat
set_option maxHeartbeats 6400000
open Go.RowKit Go.Sort
set_option maxRecDepth 100000
theorem indexFuncI_any (v:Value) (zs:List Int) (F:FuncId) (b0:Nat) (p:Int→Bool) (w:World) (h:Rd w v zs) (hF:IsFn F)
 (hp:∀(i:Nat) (w':World),i<zs.length→Below w.heap.size w w'→ ∀z,z=zs[i]?.getD 0→Calls Tryz.prog F #[.int .i64 z,ptr b0] w' fun e w2=>e= .returned (.bool (p z))∧Below w'.heap.size w' w2):
 Calls Tryz.prog 249 #[v,.func (.func F) #[] #[ptr b0]] w fun e w'=>e= .returned (.int .i64 (idxG zs p))∧Below w.heap.size w w':=by
 obtain⟨a,cap,n,HN,rfl,_,hla,ha⟩:=h.opn
 rw[HN.out] at hp
 have HP:=ξh hp
 have HA:=ξh ha
 clear hp ha h
 have hF:=show∀(args:Array Value) (w:World),(callFunc F args).run Tryz.prog w= .ok (.enter F args) w from hF
 have HI:=ξh (fun k hk h e=>ξbe (zs:=zs) (p:=p) (nil:=0) (k:=k) hk h e)
 have HO:=ξh (ξaU (zs:=zs) (p:=p))
 have HM:=ξh (fun k hk h e=>ξaT (zs:=zs) (p:=p) (nil:=0) (k:=k) hk h e)
 generalize idxG zs p=r at *
 go_enter Tryz.func249,Tryz.ntmps249
 go_wp2
 go_loopw [5,8] (fun _ i wr=>∃k:Nat,k≤n∧i= .int .i64 k∧Hid ((zs.take k).any p=false)∧Hid (Below w.heap.size w wr)) (fun _ i _=>n-(intOf i).toNat)
 case atStart=>exact⟨0,by omega,rfl,by simp[Hid],ξb _ _⟩
 case round=>
  obtain⟨k,hk,rfl,HT,HB⟩:=hrel
  by_cases hlt:k<n
  · have hltI:(k:Int)<(n:Int):=by omega
    have hkx:k<zs.length:=by rw[HN.out];exact hlt
    obtain⟨b,off,rfl,hbs,hcs⟩:=HA.out (by omega)
    have hw0:=(HB.cell (p:=⟨b,off+k,none⟩) hbs).trans (hcs k hlt)
    have HPK:=ξh (HP.out k wr hlt HB.out _ rfl)
    have HIK:=ξh (HI.out k hkx HT.out)
    have HMK:=ξh (HM.out k hkx HT.out)
    clear hcs hkx
    generalize zs[k]?.getD 0=z at *
    generalize p z=pz at *
    have hz:=HB.size
    cases pz
    · have HE:=ξh (HMK.out rfl)
      go_wp2_with fail
      refine HPK.mono ?_
      rintro e w2 ⟨rfl,b2⟩
      have HB2:=ξh (HB.trans (b2.mono hz))
      clear b2
      go_wp2
      go_roundw
      case rel=>exact⟨k+1,by omega,by go_num,HE.out,HB2.out⟩
      case measure=>simp[intOf];omega
    · have HE:=ξh (HIK.out rfl)
      go_wp2_with fail
      refine HPK.mono ?_
      rintro e w2 ⟨rfl,b2⟩
      have HB2:=ξh (HB.trans (b2.mono hz))
      clear b2
      go_wp2
      go_ret
      exact⟨by rw[HE.out];rfl,HB2.out⟩
  · obtain rfl:n=k:=by omega
    have hall:=HT.out
    rw[←HN.out,List.take_length] at hall
    have HE:=ξh (HO.out hall)
    clear hall
    go_wp2
    go_ret
    exact⟨by rw[HE.out];rfl,HB.out⟩
theorem ξcn (v:Value) (zs:List Int) (F:FuncId) (b0:Nat) (p:Int→Bool) (w:World) (h:Rd w v zs) (hF:IsFn F)
 (hp:∀(i:Nat) (w':World),i<zs.length→Below w.heap.size w w'→ ∀z,z=zs[i]?.getD 0→Calls Tryz.prog F #[.int .i64 z,ptr b0] w' fun e w2=>e= .returned (.bool (p z))∧Below w'.heap.size w' w2):
 Calls Tryz.prog 236 #[v,.func (.func F) #[] #[ptr b0]] w fun e w'=>e= .returned (.bool (zs.any p))∧Below w.heap.size w w':=by
 have HI:=ξh (indexFuncI_any v zs F b0 p w h hF hp)
 have HG:=ξh (idxG_geq zs p)
 generalize idxG zs p=r at *
 generalize zs.any p=s at *
 obtain⟨a,cap,n,-,rfl,-⟩:=h.opn
 clear h hp hF
 go_enter Tryz.func236,Tryz.ntmps236
 go_wp2_with fail
 refine HI.mono ?_
 rintro e w2 ⟨rfl,b2⟩
 have HB:=ξh b2
 clear b2
 go_wp2
 go_ret
 exact⟨by rw[←HG.out];rfl,HB.out⟩
/-! ### The index of the light with a number -/
def lix (p:Pln) (id:Int):Int:=idxG p.ls (fun x=>x.id==id)
theorem lightAt1_any (z:Lgt) (u:Value) (id:Int) (b0:Nat) (w:World) (hu:Rd w u z.fb) (h0:w.cell? ⟨b0,0,none⟩=some (.int .i64 id)):
 Calls Tryz.prog 154 #[.agg #[.int .i64 z.id,.int .i64 z.st,u,.int .i64 z.fi,.int .i64 z.ct],ptr b0] w fun e w'=>e= .returned (.bool (z.id==id))∧Below w.heap.size w w':=by
 obtain⟨a1,c1,n1,-,rfl,-⟩:=hu.opn
 obtain⟨bx,bc,blt,-⟩:=ξD w #[.int .i64 z.id,.int .i64 z.st,.slice a1 n1 c1,.int .i64 z.fi,.int .i64 z.ct] 86
 have q0:=bc 0 _ rfl
 have d0:=(bx.cell (p:=⟨b0,0,none⟩) (ξd _ _ h0)).trans h0
 have HBX:=ξh bx
 have HV:=ξh (rfl:(z.id==id)=(z.id==id))
 clear bx bc h0 hu
 go_enter Tryz.func154,Tryz.ntmps154
 go_wp2
 go_ret
 exact⟨rfl,HBX.out⟩
theorem ξF {w:World} {u1 u2:Value} {n:Net} (h:NetR w (.agg #[u1,u2]) n):(∃a m c,u1= .slice a m c)∧ ∃a m c,u2= .slice a m c:=by
 obtain⟨x1,x2,e,r1,r2,_⟩:=h
 simp only[Value.agg.injEq,Array.mk.injEq,List.cons.injEq,and_true] at e
 obtain⟨rfl,rfl⟩:=e
 exact⟨Rdt.slice' r1,Rdt.slice' r2⟩
theorem l9Find_any (v:Value) (p:Pln) (id:Int) (w:World) (h:PlnR w v p):
 Calls Tryz.prog 103 #[v,.int .i64 id] w fun e w'=>e= .returned (.int .i64 (lix p id))∧Below w.heap.size w w':=by
 obtain⟨u1,u2,u3,rfl,r1,r2,r3,hsm⟩:=h
 have hnet:NetR w (.agg #[u1,u2]) p.n:=⟨u1,u2,rfl,r1,r2,hsm⟩
 obtain⟨⟨a1,m1,c1,rfl⟩,a2,m2,c2,rfl⟩:=ξF hnet
 obtain⟨a3,m3,c3,rfl,HN3,hc3,hm3,ha3⟩:=ξa1 r3
 have HA:=ξh ha3
 have HI:=ξh (fun k hk h e=>ξbe (zs:=p.ls) (p:=fun x=>x.id==id) (nil:=nilL) (k:=k) hk h e)
 have HO:=ξh (ξaU (zs:=p.ls) (p:=fun x=>x.id==id))
 have HM:=ξh (fun k hk h e=>ξaT (zs:=p.ls) (p:=fun x=>x.id==id) (nil:=nilL) (k:=k) hk h e)
 rw[HN3.out] at HI HM
 have HTK:=ξh (show p.ls.take m3=p.ls from List.take_of_length_le (Nat.le_of_eq HN3.out))
 unfold lix
 generalize idxG p.ls (fun x=>x.id==id)=r at *
 obtain⟨bx,bc,blt,-⟩:=ξD w #[.slice a1 m1 c1,.slice a2 m2 c2,.slice a3 m3 c3] 75
 have q2:=bc 2 _ rfl
 have HBX:=ξh bx
 clear bx bc ha3 r1 r2 r3 hsm hnet
 go_enter Tryz.func103,Tryz.ntmps103
 go_wp2_with fail
 generalize w.alloc (.cells #[.slice a1 m1 c1,.slice a2 m2 c2,.slice a3 m3 c3] 75)=w1 at *
 go_loopw [5] (fun i wr=>∃k:Nat,k≤m3∧i= .int .i64 k∧Hid ((p.ls.take k).any (fun x=>x.id==id)=false)∧Hid (Below w1.heap.size w1 wr)) (fun i _=>m3-(intOf i).toNat)
 case atStart=>exact⟨0,ξu _,rfl,by simp[Hid],ξb _ _⟩
 case round=>
  obtain⟨k,hk,rfl,HT,HB⟩:=hrel
  have t2:=(HB.cell (p:=⟨w.heap.size,2,none⟩) blt).trans q2
  by_cases hlt:k<m3
  · have hltI:(k:Int)<(m3:Int):=by omega
    obtain⟨b,off,rfl,hbs,hcs⟩:=HA.out (by omega)
    obtain⟨u,x0,-⟩:=hcs k hlt
    have y0:=((HBX.trans (HB.mono HBX.size)).cell (p:=⟨b,off+k*5,none⟩) hbs).trans x0
    have HIK:=ξh (HI.out k hlt HT.out)
    have HMK:=ξh (HM.out k hlt HT.out)
    clear hcs x0
    generalize p.ls[k]?.getD nilL=x at *
    by_cases he:x.id=id
    · have heb:(x.id==id)=true:=by simpa using he
      have HE:=ξh (HIK.out heb)
      clear he
      go_wp2
      go_ret
      exact⟨by rw[HE.out];rfl,HBX.trans (HB.mono HBX.size)⟩
    · have heb:(x.id==id)=false:=by simpa using he
      have HE:=ξh (HMK.out heb)
      clear he
      go_wp2
      go_roundw
      case rel=>exact⟨k+1,hlt,by go_num,HE.out,HB.out⟩
      case measure=>simp[intOf];omega
  · obtain rfl:m3=k:=by omega
    have hh:=HT.out
    rw[HTK.out] at hh
    have HE:=ξh (HO.out hh)
    clear hh
    go_wp2
    go_ret
    exact⟨by rw[HE.out];rfl,HBX.trans (HB.mono HBX.size)⟩
open Go.RowKit Go.Sort Go.Lib
theorem sortI_own (v:Value) (xs:List Int) (base:Nat) (w:World) (h:Own w base v xs) (hl:xs.length≤1099511627776):
 Calls Tryz.prog 117 #[v] w fun e w'=>e= .returned (.tuple #[])∧Own w' base v (srt xs)∧w.grownBy w' v.ownBlock:=by
 have h0:=h
 rcases h with ⟨rfl,rfl⟩ | ⟨g,off,cap,cur,rfl,hb,⟨T,hg⟩,h1,h2,h3,h4⟩
 · refine(Tryz.slices_Sort_int_none none 0 w).mono ?_
   rintro e w' ⟨rfl,rfl⟩
   exact⟨rfl,.inl ⟨rfl,by unfold srt;simp⟩,⟨rfl,rfl,rfl,ξr _,fun _ _ _=>rfl⟩⟩
 · refine(Tryz.slices_Sort_int g off cap xs w h0.holds (ξa hg).1 (by omega)).mono ?_
   rintro e w' ⟨rfl,n,os,rfl⟩
   have:=h0.putRow (q:=n) (os:=os) (ts:=srt xs) (m:=xs.length) (srt_len xs) (by rw[srt_len];exact ξr _)
   rw[List.take_of_length_le (by rw[srt_len];exact ξr _)] at this
   exact⟨rfl,this,ξbV _⟩
/-! ### Bits that are not in another mask -/
/-! ### The index of a light -/
theorem lix_some {p:Pln} {x:Int} (h:0≤lix p x):∃k:Nat,k<p.ls.length∧lix p x=(k:Int)∧(lgA p k).id=x:=by
 unfold lix idxG at *
 cases e:p.ls.findIdx? (fun y=>y.id==x) with
 | none=>rw[e] at h;exact absurd h (by decide)
 | some k=>
   rw[List.findIdx?_eq_some_iff_getElem] at e
   obtain⟨hk,e1,-⟩:=e
   exact⟨k,hk,rfl,by unfold lgA;rw[ξg hk];simpa using e1⟩
theorem lix_bd (p:Pln) (x:Int): -1≤lix p x∧lix p x<p.ls.length:=by
 rcases Int.lt_or_le (lix p x) 0 with h | h
 · unfold lix idxG at *
   cases e:p.ls.findIdx? (fun y=>y.id==x) with
   | none=>simp;omega
   | some k=>rw[e] at h;exact absurd h (by simp)
 · obtain⟨k,hk,e,-⟩:=lix_some h
   omega
/-! ### Sets of lights that are down -/
/-! ### What groups hit, as a set -/
/-! ### Suspects and explanations -/
theorem lightAt_any (v:Value) (p:Pln) (id:Int) (w:World) (h:PlnR w v p):
 Calls Tryz.prog 112 #[v,.int .i64 id] w fun e w'=>e= .returned (.int .i64 (lix p id))∧Below w.heap.size w w':=by
 obtain⟨u1,u2,u3,rfl,r1,r2,r3,hsm⟩:=h
 have hnet:NetR w (.agg #[u1,u2]) p.n:=⟨u1,u2,rfl,r1,r2,hsm⟩
 obtain⟨⟨a1,m1,c1,rfl⟩,a2,m2,c2,rfl⟩:=ξF hnet
 have HR3:=ξh r3
 obtain⟨a3,m3,c3,rfl,-,-,-,-⟩:=ξa1 r3
 obtain⟨bx,bc,blt,-⟩:=ξD w #[.slice a1 m1 c1,.slice a2 m2 c2,.slice a3 m3 c3] 75
 have q2:=bc 2 _ rfl
 have hs1:(w.alloc (.cells #[.slice a1 m1 c1,.slice a2 m2 c2,.slice a3 m3 c3] 75)).heap.size=w.heap.size+1:=by simp
 obtain⟨by1,bd,bl2,-⟩:=ξD (w.alloc (.cells #[.slice a1 m1 c1,.slice a2 m2 c2,.slice a3 m3 c3] 75)) #[.int .i64 id] 3
 have d0:=bd 0 _ rfl
 have e2:=(by1.cell (p:=⟨w.heap.size,2,none⟩) blt).trans q2
 rw[hs1] at d0 bl2
 have HB0:=ξh (bx.trans (by1.mono bx.size))
 have HFN:=ξh (show IsFn 154 from isFn_of rfl rfl rfl)
 have HL1:=ξh (fun z u w' hu h0=>lightAt1_any z u id (w.heap.size+1) w' hu h0)
 have HIX:=ξh (fun(w2:World) (hb:Below w.heap.size w w2) hp=>ξbz (.slice a3 m3 c3) p.ls 154 (w.heap.size+1) (fun x=>x.id==id) w2 (HR3.behind hb) HFN.out hp)
 unfold lix
 generalize idxG p.ls (fun x=>x.id==id)=R at *
 clear bx bc by1 bd r1 r2 r3 hsm hnet hs1 q2 HR3
 go_enter Tryz.func112,Tryz.ntmps112
 go_wp2_with fail
 generalize (w.alloc (.cells #[.slice a1 m1 c1,.slice a2 m2 c2,.slice a3 m3 c3] 75)).alloc (.cells #[.int .i64 id] 3)=w2 at *
 refine(HIX.out w2 HB0.out (fun i w' hi hb z u hz hu=>HL1.out z u w' hu ((hb.cell bl2).trans d0))).mono ?_
 rintro e w3 ⟨rfl,b3⟩
 have HB3:=ξh (HB0.trans (b3.mono HB0.size))
 clear b3
 go_wp2
 go_ret
 exact⟨rfl,HB3.out⟩
def Gr (w w':World):Prop:=∃(q:Nat) (os:Array Obj),w'=grow (w.drewN q) os
theorem Gr.refl (w:World):Gr w w:=⟨0,#[],by rw[grow_empty];rfl⟩
theorem Gr.trans {a b c:World} (h:Gr a b) (k:Gr b c):Gr a c:=by
 obtain⟨q,os,rfl⟩:=h
 obtain⟨q',os',rfl⟩:=k
 refine⟨q+q',os++os',?_⟩
 show grow (grow ((a.drewN q).drewN q') os) os'=_
 rw[grow_grow,World.drewN_drewN]
theorem Gr.drew {a b:World} (h:Gr a b):Gr a b.drew:=h.trans ⟨1,#[],by rw[grow_empty];rfl⟩
theorem Gr.alloc {a b:World} (h:Gr a b) (o:Obj):Gr a (b.alloc o):=h.trans ⟨0,#[o],by rw[alloc_eq_grow];rfl⟩
theorem Gr.below {a b:World} (h:Gr a b):Below a.heap.size a b:=by
 obtain⟨q,os,rfl⟩:=h
 refine⟨rfl,rfl,rfl,by simp[grow,World.drewN],fun k hk=> ?_⟩
 show((a.drewN q).heap++os)[k]?= _
 exact Array.getElem?_append_left hk
theorem lenR_app (n:Net) (xs ys:List Int):lenR n (xs++ys)=lenR n xs+lenR n ys:=by
 unfold lenR;rw[List.map_append,List.sum_append]
theorem lenR_take {n:Net} {fs:List Int} {k:Nat} (hk:k<fs.length):lenR n (fs.take (k+1))=lenR n (fs.take k)+(fbA n (fs[k]?.getD 0).toNat).l:=by
 rw[List.take_add_one,lenR_app,ξg hk]
 simp[lenR]
def LenOk (n:Net):Prop:=∀j:Nat,0≤(fbA n j).l∧(fbA n j).l≤100000
theorem lenR_bd {n:Net} (h:LenOk n):∀fs:List Int,0≤lenR n fs∧lenR n fs≤fs.length*100000
 | []=>by simp[lenR]
 | i::fs=>by
   have:=lenR_bd h fs
   have h1:=h i.toNat
   unfold lenR at this ⊢
   rw[List.map_cons,List.sum_cons,List.length_cons]
   push_cast
   omega
theorem lenR_bdt {n:Net} (h:LenOk n) {fs:List Int} (hl:fs.length≤1000) (k:Nat):0≤lenR n (fs.take k)∧lenR n (fs.take k)≤100000000:=by
 have:=lenR_bd h (fs.take k)
 rw[List.length_take] at this
 have h2:min k fs.length≤1000:=by omega
 omega
def ξa7 (n:Net) (fs:List Int):Prop:=∀k:Nat,k<fs.length→0≤fs[k]?.getD 0∧fs[k]?.getD 0<n.fs.length
theorem ξbA (u1 u2 v:Value) (n:Net) (st:Int) (fs:List Int) (w:World) (h:Rdt w (flt 4 fibE n.fs) u2) (h1:∃a m c,u1= .slice a m c) (hr:Rd w v fs) (hl:fs.length≤1000) (hi:ξa7 n fs) (hb:LenOk n):
 Calls Tryz.prog 191 #[.agg #[u1,u2],.agg #[.int .i64 st,v]] w fun e w'=>e= .returned (.int .i64 (lenR n fs))∧Gr w w':=by
 obtain⟨a1,m1,c1,rfl⟩:=h1
 obtain⟨a2,m2,c2,rfl,HN2,hc2,hm2,ha2⟩:=ξC (m:=4) (enc:=fibE) (fun _=>rfl) (by omega) nilB h
 obtain⟨a3,c3,m3,HN3,rfl,hc3,hm3,ha3⟩:=hr.opn
 have HA2:=ξh ha2
 have HA3:=ξh ha3
 have HT:=ξh (fun k (hk:k<fs.length)=>@lenR_take n fs k hk)
 have HB:=ξh (fun k=>lenR_bdt hb hl k)
 have HL:=ξh hb
 have HI:=ξh (show∀k:Nat,k<m3→0≤fs[k]?.getD 0∧fs[k]?.getD 0<m2 from fun k hk=>by
  have:=hi k (by have:=HN3.out;omega)
  rwa [show n.fs.length=m2 from HN2.out] at this)
 have HR:=ξh (show lenR n (fs.take m3)=lenR n fs by rw[List.take_of_length_le (Nat.le_of_eq HN3.out)])
 have h10:m3≤1000:=by have:=HN3.out;omega
 rw[HN3.out] at HT
 obtain⟨bx,bc,blt,-⟩:=ξD w #[.slice a1 m1 c1,.slice a2 m2 c2] 35
 obtain⟨by',bd,bmt,-⟩:=ξD (w.alloc (.cells #[.slice a1 m1 c1,.slice a2 m2 c2] 35)) #[.int .i64 st,.slice a3 m3 c3] 82
 have q1:=(by'.cell (p:=⟨w.heap.size,1,none⟩) blt).trans (bc 1 _ rfl)
 have q3:=bd 1 _ rfl
 have hs1:(w.alloc (.cells #[.slice a1 m1 c1,.slice a2 m2 c2] 35)).heap.size=w.heap.size+1:=by simp
 rw[hs1] at q3
 have HBX:=ξh (bx.trans (by'.mono bx.size))
 have HG:=ξh (((Gr.refl w).alloc (.cells #[.slice a1 m1 c1,.slice a2 m2 c2] 35)).alloc (.cells #[.int .i64 st,.slice a3 m3 c3] 82))
 clear bc bd bx by' hs1 ha2 ha3 h hr bmt blt hl hi hb
 go_enter Tryz.func191,Tryz.ntmps191
 go_wp2
 generalize (w.alloc (.cells #[.slice a1 m1 c1,.slice a2 m2 c2] 35)).alloc (.cells #[.int .i64 st,.slice a3 m3 c3] 82)=W at *
 go_loopw [5,7,11] (fun s5 _ i wr=>∃k:Nat,k≤m3∧i= .int .i64 k∧s5= .int .i64 (lenR n (fs.take k))∧wr=W) (fun _ _ i _=>m3-(intOf i).toNat)
 case atStart=>exact⟨0,ξu _,rfl,rfl,rfl⟩
 case round=>
  obtain⟨k,hk,rfl,rfl,rfl⟩:=hrel
  by_cases hlt:k<m3
  · have hltI:(k:Int)<(m3:Int):=by omega
    obtain⟨b,off,rfl,hbs,hcs⟩:=HA3.out (by omega)
    have e0:=(HBX.cell (p:=⟨b,off+k,none⟩) hbs).trans (hcs k hlt)
    have hg:=HI.out k hlt
    have HTK:=ξh (HT.out k hlt)
    have HBK:=HB.out k
    clear hcs
    generalize fs[k]?.getD 0=g at *
    obtain⟨gn,rfl⟩:∃gn:Nat,g=(gn:Int):=⟨g.toNat,by omega⟩
    have hgn:gn<m2:=by omega
    have hgnI:(gn:Int)<(m2:Int):=by omega
    obtain⟨b1,off1,rfl,hbs1,hcs1⟩:=HA2.out (by omega)
    have e1:=(HBX.cell (p:=⟨b1,off1+gn*4+2,none⟩) hbs1).trans (hcs1 gn hgn 2 _ rfl)
    have hlg:=HL.out gn
    rw[show((gn:Int)).toNat=gn from rfl] at HTK
    clear hcs1 hg
    unfold fbA at HTK hlg
    generalize (n.fs[gn]?.getD nilB).l=lg at *
    generalize lenR n (fs.take k)=s at *
    have hw:wrap64 (s+lg)=s+lg:=ξw _ (by omega)
    go_wp2
    go_roundw
    case rel=>exact⟨k+1,hlt,by go_num,by rw[HTK.out],trivial⟩
    case measure=>simp[intOf];omega
  · obtain rfl:m3=k:=by omega
    go_wp2
    go_ret
    exact⟨by rw[←HR.out];rfl,HG.out⟩
theorem lexI_end1 {a b:List Int} {k:Nat} (h1:k<a.length) (h2:b.length≤k):lexI (a.drop k) (b.drop k)=1:=by
 rw[List.drop_eq_nil_of_le h2,List.drop_eq_getElem_cons h1];rfl
theorem lexI_end2 {a b:List Int} {k:Nat} (h1:a.length=k) (hb:k≤b.length):lexI (a.drop k) (b.drop k)=if a.length<b.length then -1 else 0:=by
 rw[List.drop_eq_nil_of_le (by omega)]
 by_cases h:a.length<b.length
 · rw[if_pos h,List.drop_eq_getElem_cons (by omega)];rfl
 · rw[if_neg h,List.drop_eq_nil_of_le (by omega)];rfl
theorem lexI_step {a b:List Int} {k:Nat} (h1:k<a.length) (h2:k<b.length):lexI (a.drop k) (b.drop k)=if cmpI (a[k]?.getD 0) (b[k]?.getD 0)=0 then lexI (a.drop (k+1)) (b.drop (k+1)) else cmpI (a[k]?.getD 0) (b[k]?.getD 0):=by
 rw[List.drop_eq_getElem_cons h1,List.drop_eq_getElem_cons h2,ξg h1,ξg h2,Option.getD_some,Option.getD_some,lexI]
 unfold cmpI
 split
 · rw[if_neg (by omega)]
 · split
   · rw[if_neg (by omega)]
   · rw[if_pos rfl]
theorem lexI_go {a b:List Int} {k:Nat} (h1:k<a.length) (h2:k<b.length) (e:cmpI (a[k]?.getD 0) (b[k]?.getD 0)=0):lexI (a.drop (k+1)) (b.drop (k+1))=lexI (a.drop k) (b.drop k):=by
 rw[lexI_step h1 h2,if_pos e]
theorem lexI_stop {a b:List Int} {k:Nat} (h1:k<a.length) (h2:k<b.length) (e:¬cmpI (a[k]?.getD 0) (b[k]?.getD 0)=0):lexI (a.drop k) (b.drop k)=cmpI (a[k]?.getD 0) (b[k]?.getD 0):=by
 rw[lexI_step h1 h2,if_neg e]
theorem slcCompare_any (va vb:Value) (xs ys:List Int) (w:World) (ha:Rd w va xs) (hb:Rd w vb ys):
 Calls Tryz.prog 251 #[va,vb] w fun e w'=>e= .returned (.int .i64 (lexI xs ys))∧w=w':=by
 obtain⟨a1,c1,n1,HN1,rfl,_,hn1,ha1⟩:=ha.opn
 obtain⟨a2,c2,n2,HN2,rfl,_,hn2,ha2⟩:=hb.opn
 have HA1:=ξh ha1
 have HA2:=ξh ha2
 have HE1:=ξh (fun k (h1:k<n1) (h2:n2≤k)=>@lexI_end1 xs ys k (by have:=HN1.out;omega) (by have:=HN2.out;omega))
 have HE2:=ξh (fun(h:n1≤n2)=>show lexI (xs.drop n1) (ys.drop n1)=if n1<n2 then -1 else 0 from by
  have h1:=HN1.out;have h2:=HN2.out
  rw[lexI_end2 h1 (by omega),h1,h2])
 have HGO:=ξh (fun k (h1:k<n1) (h2:k<n2)=>@lexI_go xs ys k (by have:=HN1.out;omega) (by have:=HN2.out;omega))
 have HST:=ξh (fun k (h1:k<n1) (h2:k<n2)=>@lexI_stop xs ys k (by have:=HN1.out;omega) (by have:=HN2.out;omega))
 have H0:=ξh (show lexI (xs.drop 0) (ys.drop 0)=lexI xs ys by simp)
 clear ha hb ha1 ha2
 generalize lexI xs ys=R at *
 go_enter Tryz.func251,Tryz.ntmps251
 go_wp2
 go_loopw [5,6,7,8,11] (fun _ _ _ _ i wr=>∃k:Nat,k≤n1∧k≤n2∧i= .int .i64 k∧Hid (lexI (xs.drop k) (ys.drop k)=R)∧wr=w) (fun _ _ _ _ i _=>n1-(intOf i).toNat)
 case atStart=>exact⟨0,ξu _,ξu _,rfl,H0,rfl⟩
 case round=>
  obtain⟨k,hk,hk2,rfl,HK,rfl⟩:=hrel
  by_cases hlt:k<n1
  · have hltI:(k:Int)<(n1:Int):=by omega
    obtain⟨b,off,rfl,hbs,hcs⟩:=HA1.out (by omega)
    have e0:=hcs k hlt
    clear hcs
    by_cases h2:k<n2
    · have h2I:(k:Int)<(n2:Int):=by omega
      have h2d:decide ((k:Int)≥(n2:Int))=false:=ξf (by omega)
      obtain⟨b2,off2,rfl,hbs2,hcs2⟩:=HA2.out (by omega)
      have e1:=hcs2 k h2
      clear hcs2
      have HG:=ξh (HGO.out k hlt h2)
      have HS:=ξh (HST.out k hlt h2)
      generalize xs[k]?.getD 0=x at *
      generalize ys[k]?.getD 0=y at *
      have HC:=ξh (ξak x y)
      generalize cmpI x y=c at *
      by_cases hc:c=0
      · have HT:=ξh ((HG.out hc).trans HK.out)
        subst hc
        go_wp2_with (go_at_call 174;refine(HC.out _).mono ?_;rintro e w' ⟨rfl,rfl⟩)
        go_roundw
        case rel=>exact⟨k+1,hlt,h2,by go_num,HT,trivial⟩
        case measure=>simp[intOf];omega
      · have HT:=ξh ((HS.out hc).symm.trans HK.out)
        have hcb:(c != 0)=true:=by simpa using hc
        clear hc
        go_wp2_with (go_at_call 174;refine(HC.out _).mono ?_;rintro e w' ⟨rfl,rfl⟩)
        go_ret
        exact⟨by rw[←HT.out];rfl,rfl⟩
    · have h2d:decide ((k:Int)≥(n2:Int))=true:=ξt (by omega)
      have HT:=ξh ((HE1.out k hlt (by omega)).symm.trans HK.out)
      go_wp2
      go_ret
      exact⟨by rw[←HT.out];rfl,rfl⟩
  · obtain rfl:n1=k:=by omega
    have HT:=ξh ((HE2.out hk2).symm.trans HK.out)
    by_cases h3:n1<n2
    · have h3d:decide ((n1:Int)<(n2:Int))=true:=ξt (by omega)
      rw[if_pos h3] at HT
      go_wp2
      go_ret
      exact⟨by rw[←HT.out];rfl,rfl⟩
    · have h3d:decide ((n1:Int)<(n2:Int))=false:=ξf (by omega)
      rw[if_neg h3] at HT
      go_wp2
      go_ret
      exact⟨by rw[←HT.out];rfl,rfl⟩
theorem cmpR_or (n:Net) (a b:List Int) (st:Int):orI [cmpI (lenR n a) (lenR n b),cmpI a.length b.length,lexI a b,cmpI st st]=cmpR n a b:=by
 have key:∀x y:Int,cmpI x y=if x=y then 0 else sgnI (x-y):=fun x y=>by
  unfold cmpI sgnI
  by_cases h:x=y
  · rw[if_pos h,if_neg (by omega),if_neg (by omega)]
  · rw[if_neg h]
    by_cases h2:x<y
    · rw[if_pos h2,if_pos (by omega)]
    · rw[if_neg h2,if_pos (by omega),if_neg (by omega),if_pos (by omega)]
 have sg:∀x:Int,x≠0→sgnI x≠0:=fun x h=>by
  unfold sgnI
  split
  · omega
  · split <;> omega
 unfold cmpR
 rw[key (lenR n a),key a.length,key st,if_pos rfl]
 by_cases h1:lenR n a=lenR n b
 · rw[if_pos h1,if_pos h1,orI,if_pos rfl]
   by_cases h2:a.length=b.length
   · rw[if_pos (by omega:(a.length:Int)=b.length),if_pos h2,orI,if_pos rfl,orI]
     by_cases h3:lexI a b=0
     · rw[if_pos h3,h3];rfl
     · rw[if_neg h3]
   · rw[if_neg (by omega:¬(a.length:Int)=b.length),if_neg h2,orI,if_neg (sg _ (by omega))]
 · rw[if_neg h1,if_neg h1,orI,if_neg (sg _ (by omega))]
theorem ξal (w:World) (A B C:Obj):Below w.heap.size w (((w.alloc A).alloc B).alloc C)∧(((w.alloc A).alloc B).alloc C).heap[w.heap.size]?= some A∧(((w.alloc A).alloc B).alloc C).heap[w.heap.size+1]?= some B∧(((w.alloc A).alloc B).alloc C).heap[w.heap.size+1+1]?= some C∧(((w.alloc A).alloc B).alloc C).heap.size=w.heap.size+1+1+1:=by
 have s1:(w.alloc A).heap.size=w.heap.size+1:=by simp
 have s2:((w.alloc A).alloc B).heap.size=w.heap.size+1+1:=by simp
 have b1:=(ξb w.heap.size w).alloc (ξr _) A
 have b2:=b1.alloc b1.size B
 have k0:=ξn w A
 have k1:=ξn (w.alloc A) B
 have k2:=ξn ((w.alloc A).alloc B) C
 rw[s1] at k1
 rw[s2] at k2
 refine⟨b2.alloc b2.size C,?_,?_,k2,by simp⟩
 · rw[heap_alloc_old _ C (by rw[s2];omega),heap_alloc_old _ B (by rw[s1];omega)];exact k0
 · rw[heap_alloc_old _ C (by rw[s2];omega)];exact k1
theorem ξco (u1 u2 va vb:Value) (n:Net) (st:Int) (xs ys:List Int) (w:World) (h:Rdt w (flt 4 fibE n.fs) u2) (h1:∃a m c,u1= .slice a m c) (ha:Rd w va xs) (hb:Rd w vb ys)
 (hlx:xs.length≤1000) (hly:ys.length≤1000) (hix:ξa7 n xs) (hiy:ξa7 n ys) (hL:LenOk n):
 Calls Tryz.prog 242 #[.agg #[u1,u2],.agg #[.int .i64 st,va],.agg #[.int .i64 st,vb]] w fun e w'=>e= .returned (.int .i64 (cmpR n xs ys))∧Gr w w':=by
 have HX:=ξh (fun w' (hw:Below w.heap.size w w')=>ξbA u1 u2 va n st xs w' (h.behind hw) h1 (ha.belowAll hw) hlx hix hL)
 have HY:=ξh (fun w' (hw:Below w.heap.size w w')=>ξbA u1 u2 vb n st ys w' (h.behind hw) h1 (hb.belowAll hw) hly hiy hL)
 have HC:=ξh (fun w' (hw:Below w.heap.size w w')=>slcCompare_any va vb xs ys w' (ha.belowAll hw) (hb.belowAll hw))
 have HF:=ξh (cmpR_or n xs ys st)
 obtain⟨a1,m1,c1,rfl⟩:=h1
 obtain⟨a2,m2,c2,rfl,-,-,-,-⟩:=ξC (m:=4) (enc:=fibE) (fun _=>rfl) (by omega) nilB h
 obtain⟨a3,c3,m3,HN3,rfl,-,hm3,-⟩:=ha.opn
 obtain⟨a4,c4,m4,HN4,rfl,-,hm4,-⟩:=hb.opn
 rw[show xs.length=m3 from HN3.out,show ys.length=m4 from HN4.out] at HF
 clear h ha hb hlx hly hix hiy hL
 generalize lenR n xs=lx at *
 generalize lenR n ys=ly at *
 generalize lexI xs ys=lc at *
 generalize cmpR n xs ys=R at *
 have HK1:=ξh (fun w'=>ξak lx ly w')
 have HK2:=ξh (fun w'=>ξak (m3:Int) (m4:Int) w')
 have HK3:=ξh (fun w'=>ξak st st w')
 generalize cmpI lx ly=k1 at *
 generalize cmpI (m3:Int) (m4:Int)=k2 at *
 generalize cmpI st st=k3 at *
 have HO:=ξh (fun w'=>or_any _ [k1,k2,lc,k3] _ (rd_alloc w' 3 [k1,k2,lc,k3] (by unfold maxLen;simp)))
 rw[HF.out] at HO
 obtain⟨hBX,g0,g1,g2,hsz⟩:=ξal w (.cells #[.slice a1 m1 c1,.slice a2 m2 c2] 35) (.cells #[.int .i64 st,.slice a3 m3 c3] 82) (.cells #[.int .i64 st,.slice a4 m4 c4] 82)
 have HBX:=ξh hBX
 have HG:=ξh ((((Gr.refl w).alloc (.cells #[.slice a1 m1 c1,.slice a2 m2 c2] 35)).alloc (.cells #[.int .i64 st,.slice a3 m3 c3] 82)).alloc (.cells #[.int .i64 st,.slice a4 m4 c4] 82))
 have q0:=blkc g0 (j:=0) (show _=some (.slice a1 m1 c1) from rfl)
 have q1:=blkc g0 (j:=1) (show _=some (.slice a2 m2 c2) from rfl)
 have q2:=blkc g1 (j:=0) (show _=some (.int .i64 st) from rfl)
 have q3:=blkc g1 (j:=1) (show _=some (.slice a3 m3 c3) from rfl)
 have q4:=blkc g2 (j:=0) (show _=some (.int .i64 st) from rfl)
 have q5:=blkc g2 (j:=1) (show _=some (.slice a4 m4 c4) from rfl)
 clear g0 g1 g2 hBX
 go_enter Tryz.func242,Tryz.ntmps242
 go_wp2
 generalize ((w.alloc (.cells #[.slice a1 m1 c1,.slice a2 m2 c2] 35)).alloc (.cells #[.int .i64 st,.slice a3 m3 c3] 82)).alloc (.cells #[.int .i64 st,.slice a4 m4 c4] 82)=w2 at *
 have HS:=ξh (fun(w':World) (hg:Gr w2 w')=>show Gr w2 w'∧w'.cell? ⟨w.heap.size,0,none⟩=some (.slice a1 m1 c1)∧w'.cell? ⟨w.heap.size,1,none⟩=some (.slice a2 m2 c2)∧w'.cell? ⟨w.heap.size+1,0,none⟩=some (.int .i64 st)∧w'.cell? ⟨w.heap.size+1,1,none⟩=some (.slice a3 m3 c3)∧w'.cell? ⟨w.heap.size+1+1,0,none⟩=some (.int .i64 st)∧w'.cell? ⟨w.heap.size+1+1,1,none⟩=some (.slice a4 m4 c4) from
  have hb:=hg.below;⟨hg,(hb.cell (show w.heap.size<_ by omega)).trans q0,(hb.cell (show w.heap.size<_ by omega)).trans q1,(hb.cell (show w.heap.size+1<_ by omega)).trans q2,(hb.cell (show w.heap.size+1<_ by omega)).trans q3,(hb.cell (show w.heap.size+1+1<_ by omega)).trans q4,(hb.cell (show w.heap.size+1+1<_ by omega)).trans q5⟩)
 have HBS:=ξh (fun(wx w':World) (hb:Gr w2 wx) (hc:Gr wx w')=>show Gr w2 w' from hb.trans hc)
 have HBA:=ξh (fun(wx:World) (hb:Gr w2 wx) (o:Obj)=>show Gr w2 (wx.alloc o) from hb.alloc o)
 have HXB:=ξh (fun(w':World) (hb:Gr w2 w')=>HX.out w' (HBX.trans (hb.below.mono HBX.size)))
 have HYB:=ξh (fun(w':World) (hb:Gr w2 w')=>HY.out w' (HBX.trans (hb.below.mono HBX.size)))
 have HCB:=ξh (fun(w':World) (hb:Gr w2 w')=>HC.out w' (HBX.trans (hb.below.mono HBX.size)))
 have s0:Gr w2 w2.drew:=(Gr.refl w2).drew
 clear q0 q1 q2 q3 q4 q5 hsz
 go_region_held3 (fun w'=>Gr w2 w'∧w'.cell? ⟨w.heap.size,0,none⟩=some (.slice a1 m1 c1)∧w'.cell? ⟨w.heap.size,1,none⟩=some (.slice a2 m2 c2)∧w'.cell? ⟨w.heap.size+1,0,none⟩=some (.int .i64 st)∧w'.cell? ⟨w.heap.size+1,1,none⟩=some (.slice a3 m3 c3)∧w'.cell? ⟨w.heap.size+1+1,0,none⟩=some (.int .i64 st)∧w'.cell? ⟨w.heap.size+1+1,1,none⟩=some (.slice a4 m4 c4))
  (first | exact HS.out _ (by assumption) | exact HS.out _ (HBA.out _ (by assumption) _))
  (first
    | (go_at_call 191;first | ((with_reducible refine(HXB.out _ (And.left (by assumption))).mono ?_);rintro e w5 ⟨rfl,b5⟩;have s5:=HBS.out _ _ (And.left (by assumption)) b5;clear b5) | ((with_reducible refine(HYB.out _ (And.left (by assumption))).mono ?_);rintro e w6 ⟨rfl,b6⟩;have s6:=HBS.out _ _ (And.left (by assumption)) b6;clear b6))
    | (go_at_call 174;first | ((with_reducible refine(HK1.out _).mono ?_);rintro e w7 ⟨rfl,rfl⟩) | ((with_reducible refine(HK2.out _).mono ?_);rintro e w7 ⟨rfl,rfl⟩) | ((with_reducible refine(HK3.out _).mono ?_);rintro e w7 ⟨rfl,rfl⟩))
    | (go_at_call 251;refine(HCB.out _ (And.left (by assumption))).mono ?_;rintro e w8 ⟨rfl,rfl⟩)
    | (go_at_call 173;refine(HO.out _).mono ?_;rintro e w9 ⟨rfl,rfl⟩))
 all_goals
  go_wp2
  go_ret
  exact⟨rfl,HG.trans (HBA.out _ (by assumption) _)⟩
theorem sortRoutes_any (u1 u2 va vb:Value) (n:Net) (st:Int) (xs ys:List Int) (bn:Nat) (w:World) (hn0:w.cell? ⟨bn,0,none⟩=some u1) (hn1:w.cell? ⟨bn,1,none⟩=some u2) (h:Rdt w (flt 4 fibE n.fs) u2) (h1:∃a m c,u1= .slice a m c) (ha:Rd w va xs) (hb:Rd w vb ys)
 (hlx:xs.length≤1000) (hly:ys.length≤1000) (hix:ξa7 n xs) (hiy:ξa7 n ys) (hL:LenOk n):
 Calls Tryz.prog 241 #[.agg #[.int .i64 st,va],.agg #[.int .i64 st,vb],ptr bn] w fun e w'=>e= .returned (.int .i64 (cmpR n xs ys))∧Gr w w':=by
 have HC:=ξh (fun w' (hw:Below w.heap.size w w')=>ξco u1 u2 va vb n st xs ys w' (h.behind hw) h1 (ha.belowAll hw) (hb.belowAll hw) hlx hly hix hiy hL)
 obtain⟨a1,m1,c1,rfl⟩:=h1
 obtain⟨a2,m2,c2,rfl,-,-,-,-⟩:=ξC (m:=4) (enc:=fibE) (fun _=>rfl) (by omega) nilB h
 obtain⟨a3,c3,m3,-,rfl,-,hm3,-⟩:=ha.opn
 obtain⟨a4,c4,m4,-,rfl,-,hm4,-⟩:=hb.opn
 clear h ha hb hlx hly hix hiy hL
 generalize cmpR n xs ys=R at *
 have hG:=((Gr.refl w).alloc (.cells #[.int .i64 st,.slice a3 m3 c3] 82)).alloc (.cells #[.int .i64 st,.slice a4 m4 c4] 82)
 have k0:=ξn w (.cells #[.int .i64 st,.slice a3 m3 c3] 82)
 have k0':=(heap_alloc_old _ (.cells #[.int .i64 st,.slice a4 m4 c4] 82) (ξa k0).1).trans k0
 have k1:=ξn (w.alloc (.cells #[.int .i64 st,.slice a3 m3 c3] 82)) (.cells #[.int .i64 st,.slice a4 m4 c4] 82)
 rw[show(w.alloc (.cells #[.int .i64 st,.slice a3 m3 c3] 82)).heap.size=w.heap.size+1 by simp] at k1
 have z0:=(hG.below.cell (ξd _ _ hn0)).trans hn0
 have z1:=(hG.below.cell (ξd _ _ hn1)).trans hn1
 have q2:=blkc k0' (j:=0) (show _=some (.int .i64 st) from rfl)
 have q3:=blkc k0' (j:=1) (show _=some (.slice a3 m3 c3) from rfl)
 have q4:=blkc k1 (j:=0) (show _=some (.int .i64 st) from rfl)
 have q5:=blkc k1 (j:=1) (show _=some (.slice a4 m4 c4) from rfl)
 have HG:=ξh hG
 clear k0 k0' k1 hG hn0 hn1
 go_enter Tryz.func241,Tryz.ntmps241
 go_wp2_with fail
 refine(HC.out _ HG.below).mono ?_
 rintro e w' ⟨rfl,hw⟩
 have HW:=ξh (HG.trans hw)
 clear hw
 go_wp2
 go_ret
 exact⟨rfl,HW.out⟩
open Go.RowKit
abbrev mk (l:List UInt8):ByteArray:=⟨l.toArray⟩
def putI:List Int→Int→List Int
 | [],n=>[n]
 | x::xs,n=>if x<n then x::putI xs n else if x=n then x::xs else n::x::xs
theorem putI_mem:∀{xs:List Int} {n y:Int},y∈putI xs n↔y=n∨y∈xs
 | [],n,y=>by simp[putI]
 | x::xs,n,y=>by
   unfold putI
   split
   · rw[List.mem_cons,putI_mem,List.mem_cons]
     constructor
     · rintro(h | h | h) <;> simp[h]
     · rintro(h | h | h) <;> simp[h]
   · split
     · rename_i h;subst h;simp
     · simp
theorem putI_asc:∀{xs:List Int} {n:Int},xs.Pairwise (· < ·)→(putI xs n).Pairwise (· < ·)
 | [],n,_=>by simp[putI]
 | x::xs,n,h=>by
   obtain⟨h1,h2⟩:=List.pairwise_cons.1 h
   unfold putI
   split
   · rename_i hx
     refine List.pairwise_cons.2 ⟨fun y hy=> ?_,putI_asc h2⟩
     rcases putI_mem.1 hy with e | e
     · omega
     · exact h1 y e
   · split
     · exact h
     · rename_i hx hx2
       refine List.pairwise_cons.2 ⟨fun y hy=> ?_,h⟩
       rcases List.mem_cons.1 hy with e | e
       · omega
       · have:=h1 y e;omega
theorem putI_at:∀{xs:List Int} {n:Int} (k:Nat),k≤xs.length→(∀i,i<k→xs[i]?.getD 0<n)→(k<xs.length→n≤xs[k]?.getD 0)→putI xs n=if k<xs.length∧xs[k]?.getD 0=n then xs else xs.take k++n::xs.drop k
 | [],n,k,hk,_,_=>by
   have:k=0:=by simpa using hk
   subst this;simp[putI]
 | x::xs,n,0,_,_,h=>by
   have h0:=h (by simp)
   simp only[List.getElem?_cons_zero,Option.getD_some] at h0
   unfold putI
   rw[if_neg (by omega)]
   by_cases e:x=n
   · rw[if_pos e,if_pos ⟨by simp,by simpa using e⟩]
   · rw[if_neg e,if_neg (by simp;exact e)];simp
 | x::xs,n,k+1,hk,hl,h=>by
   have hx:x<n:=by have:=hl 0 (by omega);simpa using this
   unfold putI
   rw[if_pos hx,putI_at k (by simpa using hk) (fun i hi=>by have:=hl (i+1) (by omega);simpa using this) (fun hlt=>by have:=h (by simpa using hlt);simpa using this)]
   by_cases e:k<xs.length∧xs[k]?.getD 0=n
   · rw[if_pos e,if_pos ⟨by simpa using e.1,by simpa using e.2⟩]
   · rw[if_neg e,if_neg (fun h2=>e ⟨by simpa using h2.1,by simpa using h2.2⟩)];simp
theorem ust_put (r:List Int) (x:Int):ust (r++[x])=putI (ust r) x:=by
 refine ust_of (putI_asc (ust_asc r)) fun y=> ?_
 rw[putI_mem,ξb3,List.mem_append]
 simp[or_comm]
/-! ### A list's law as one step of a drawn region -/
theorem upon_mono {P:Program} {o:Oper} {a:Act} {K K':Act→World→Prop} {Q Q':Exit→Act→World→Prop} (hK:∀a w,K a w→K' a w) (hQ:∀e a w,e≠ .normal→Q e a w→Q' e a w) {r} (h:o.upon P a K Q r):o.upon P a K' Q' r:=by
 unfold Oper.upon at h ⊢
 split at h
 all_goals first
  | exact hK _ _ h
  | exact hQ _ _ _ (by simp) h
  | exact h
  | (refine Calls.mono h ?_
     rintro e w' hh
     cases e
     · exact hK _ _ hh
     · exact hQ _ _ _ (by simp) hh
     · obtain⟨a2,w2,q⟩:=hh;exact⟨a2,w2,hQ _ _ _ (by simp) q⟩)
  | (refine Rows.mono h ?_
     intro v w' hh
     exact hK _ _ hh)
theorem step_of_list {P:Program} {ops:Array Oper} {o:Oper} {a:Act} {w:World} {K:Act→World→Prop} {Q:Exit→Act→World→Prop} {E:Prop} (hg:o.guard=none)
 (h:wpList P ops (fun e a' w'=>e= .normal∧K a' w') [o] a w):if Region.wanted o (yielded ops a.tmps)=true then Oper.wp P o a w K Q else E:=by
 have hw:Region.wanted o (yielded ops a.tmps)=true:=by simp[Region.wanted,hg]
 rw[if_pos hw]
 unfold wpList at h
 rw[if_pos hw] at h
 rcases h with h | ⟨-,a2,w2,h,-⟩
 · unfold Oper.wp at h ⊢
   refine upon_mono (fun a w hh=> ?_) (fun e a w hne hh=> ?_) h
   · unfold wpList at hh;exact hh.2
   · exact absurd hh.1 hne
 · cases h
/-! ### Rows made sets, one after the other -/
end Go.Proofs.YtofcicomhnkocaaGreat
