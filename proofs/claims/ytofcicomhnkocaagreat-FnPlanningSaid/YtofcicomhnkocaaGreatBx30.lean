/- Draws of formats. -/
import Derived.Test.YtofcicomhnkocaaGreatBx29
set_option linter.unusedVariables false
namespace Go.Proofs.YtofcicomhnkocaaGreat
set_option maxHeartbeats 12800000
open Go.RowKit Go.Sort
set_option maxRecDepth 100000
theorem Tryz.infoFmtD:(Tryz.prog.info? 101).map (fun i=>(i.zero,i.size,i.bytes))=some (some (.agg #[.int .i64 0,.int .i64 0]),2,16):=by kernel_rfl
def FmB (w:World) (base g off n cap:Nat):Prop:=base≤g∧n≤cap∧cap≤maxLen∧ ∃cs,w.heap[g]?= some (.cells cs 101 (0,0))∧off+cap*2≤cs.size∧ ∀j,j<n*2→ ∃x:Int,cs[off+j]?= some (.int .i64 x)
section
variable {w w' w1 : World} {base b' B K K' g off n cap : Nat} {c : Value}
theorem FmB.kept (h:FmB w base g off n cap) (hk:w'.heap[g]?= w.heap[g]?):FmB w' base g off n cap:=by
 obtain⟨h1,h2,h3,cs,h4,h5⟩:=h
 exact⟨h1,h2,h3,cs,by rw[hk];exact h4,h5⟩
theorem FmB.lt (h:FmB w base g off n cap):g<w.heap.size:=by
 obtain⟨-,-,-,cs,h4,-⟩:=h
 exact(ξa h4).1
theorem FmB.below (h:FmB w base g off n cap) (hb:Below w.heap.size w w'):FmB w' base g off n cap:=h.kept (hb.block _ h.lt)
theorem FmB.cs (h:FmB w base g off n cap) (hB:B<base) (hc:CS w B c K w'):FmB w' base g off n cap:=h.kept (hc.2.2.block _ h.lt fun e=>by have:=h.1;have:=ξo e;omega)
theorem FmB.mono (h:FmB w base g off n cap) (hb:b'≤base):FmB w b' g off n cap:=⟨ξs hb h.1,h.2⟩
theorem FmB.cut (h:FmB w base g off n cap) (k:Nat) (hk:k≤n):FmB w base g off k cap:=by
 obtain⟨h1,h2,h3,cs,h4,h5,h6⟩:=h
 exact⟨h1,by omega,h3,cs,h4,h5,fun j hj=>h6 j (by omega)⟩
theorem FmB.cut1 (h:FmB w base g off n cap) (hn:1≤n):FmB w base g (off+2) (n-1) (cap-1):=by
 obtain⟨h1,h2,h3,cs,h4,h5,h6⟩:=h
 refine⟨h1,by omega,by omega,cs,h4,by omega,fun j hj=> ?_⟩
 obtain⟨x,hx⟩:=h6 (j+2) (by omega)
 exact⟨x,by rw[show off+2+j=off+(j+2) by omega];exact hx⟩
theorem FmB.at (h:FmB w base g off n cap) {i:Nat} (hi:i<n):∃x y:Int,w.cell? ⟨g,off+i*2,none⟩=some (.int .i64 x)∧w.cell? ⟨g,off+i*2+1,none⟩=some (.int .i64 y)∧w.frozen? ⟨g,off+i*2,none⟩=false∧w.frozen? ⟨g,off+i*2+1,none⟩=false:=by
 obtain⟨h1,h2,h3,cs,h4,h5,h6⟩:=h
 obtain⟨x,hx⟩:=h6 (i*2) (by omega)
 obtain⟨y,hy⟩:=h6 (i*2+1) (by omega)
 exact⟨x,y,blkc h4 hx,blkc h4 hy,ξz _ _ _ _ _ h4,ξz _ _ _ _ _ h4⟩
theorem FmB.set (h:FmB w base g off n cap) (j:Nat) (x:Int):FmB (w.setCell ⟨g,j,none⟩ (.int .i64 x)) base g off n cap:=by
 obtain⟨h1,h2,h3,cs,h4,h5,h6⟩:=h
 refine⟨h1,h2,h3,cs.setIfInBounds j (.int .i64 x),ξe w g j cs _ _ h4,by simpa using h5,fun k hk=> ?_⟩
 obtain⟨y,hy⟩:=h6 k hk
 by_cases e:j=off+k
 · subst e
   exact⟨x,by rw[Array.getElem?_setIfInBounds_self_of_lt (ξa hy).1]⟩
 · exact⟨y,by rw[Array.getElem?_setIfInBounds_ne e];exact hy⟩
theorem FmB.spare (h:FmB w base g off n cap) (hr:n+1≤cap):∀j,j<2→(w.cell? ⟨g,off+n*2+j,none⟩).isSome=true∧w.frozen? ⟨g,off+n*2+j,none⟩=false:=fun j hj=>by
 obtain⟨h1,h2,h3,cs,h4,h5,h6⟩:=h
 refine⟨?_,ξz _ _ _ _ _ h4⟩
 rw[cell_of_row _ _ _ _ _ _ h4,Array.getElem?_eq_getElem (by omega)];rfl
theorem FmB.push (h:FmB w base g off n cap) (hr:n+1≤cap) (x y:Int):FmB (w.setCells g (off+n*2) [.int .i64 x,.int .i64 y]) base g off (n+1) cap:=by
 obtain⟨h1,h2,h3,cs,h4,h5,h6⟩:=h
 refine⟨h1,hr,h3,_,blk_put _ _ h4,by rw[putA_size];exact h5,fun j hj=> ?_⟩
 simp only[putA]
 by_cases e1:j=n*2+1
 · subst e1
   exact⟨y,by rw[show off+n*2+1=off+(n*2+1) by omega,Array.getElem?_setIfInBounds_self_of_lt (by simp;omega)]⟩
 · rw[Array.getElem?_setIfInBounds_ne (by omega)]
   by_cases e2:j=n*2
   · subst e2
     exact⟨x,by rw[Array.getElem?_setIfInBounds_self_of_lt (by omega)]⟩
   · rw[Array.getElem?_setIfInBounds_ne (by omega)]
     exact h6 j (by omega)
theorem FmB.olds (h:FmB w base g off n cap):∃olds:List Value,olds.length=n*2∧(∀j u,olds[j]?= some u→w.cell? ⟨g,off+j,none⟩=some u)∧ ∀j,j<n*2→ ∃x:Int,olds[j]?= some (.int .i64 x):=by
 obtain⟨h1,h2,h3,cs,h4,h5,h6⟩:=h
 have hl:(cs.toList.drop off).length=cs.size-off:=by simp
 refine⟨(cs.toList.drop off).take (n*2),by rw[List.length_take,hl];omega,fun j u hj=> ?_,fun j hj=> ?_⟩
 · have hjl:j<n*2:=by
    have:=(ξl hj).1
    rw[List.length_take] at this;omega
   rw[List.getElem?_take_of_lt hjl,List.getElem?_drop,Array.getElem?_toList] at hj
   exact blkc h4 hj
 · obtain⟨x,hx⟩:=h6 j hj
   exact⟨x,by rw[List.getElem?_take_of_lt hj,List.getElem?_drop,Array.getElem?_toList];exact hx⟩
theorem FmB.grew {v':Value} {olds:List Value} {x y:Int} (hb:base≤w.heap.size) (hl:olds.length=n*2) (ho:∀j,j<n*2→ ∃x:Int,olds[j]?= some (.int .i64 x)) (h:w'.ownsRow w.heap.size 101 2 v' (n+1) (olds++[.int .i64 x,.int .i64 y])):
 ∃g cap,v'= .slice (some ⟨g,0,none⟩) (n+1) cap∧FmB w' base g 0 (n+1) cap:=by
 obtain⟨h1,h2 | ⟨g,cap,cur,rfl,k1,k2,k3,k4,k5,k6⟩⟩:=h
 · exact absurd h2.2 (by omega)
 · refine⟨g,cap,rfl,ξs hb k1,k3,k4,cur,k2,by omega,fun j hj=> ?_⟩
   have e:cur[0+j]?= (olds++[Value.int .i64 x,.int .i64 y])[j]?:=by
    rw[←k6,List.getElem?_take_of_lt hj,Array.getElem?_toList,Nat.zero_add]
   rw[e]
   by_cases hjn:j<n*2
   · rw[List.getElem?_append_left (by omega)];exact ho j hjn
   · rw[List.getElem?_append_right (by omega)]
     have:j-olds.length=0∨j-olds.length=1:=by omega
     rcases this with e | e <;> rw[e]
     · exact⟨x,rfl⟩
     · exact⟨y,rfl⟩
theorem fm2_len (zs:List Fmt):(zs.flatMap fmE).length=zs.length*2:=by
 induction zs with
 | nil=>rfl
 | cons z zs ih=>rw[List.flatMap_cons,ξk,ih,List.length_cons,Nat.add_mul];simp[fmE];omega
theorem fm2_at (zs:List Fmt) (i r:Nat) (hr:r<2):(zs.flatMap fmE)[i*2+r]?= (zs[i]?).bind fun z=>(fmE z)[r]?:=by
 induction zs generalizing i with
 | nil=>simp
 | cons z zs ih=>
   have hl:(fmE z).length=2:=rfl
   rw[List.flatMap_cons]
   rcases i with _ | i
   · rw[Nat.zero_mul,Nat.zero_add,List.getElem?_append_left (by omega)];simp
   · rw[List.getElem?_append_right (by omega),hl,show(i+1)*2+r-2=i*2+r by omega,ih i];simp
theorem FmB.rd (h:FmB w base g off n cap):∃zs:List Fmt,zs.length=n∧Rdt w (flt 2 fmE zs) (.slice (some ⟨g,off,none⟩) n cap):=by
 have hlt:=h.lt
 have hx:∀i,∃z:Fmt,i<n→w.cell? ⟨g,off+i*2,none⟩=some (.int .i64 z.c)∧w.cell? ⟨g,off+i*2+1,none⟩=some (.int .i64 z.r):=fun i=>by
  by_cases hi:i<n
  · obtain⟨x,y,h1,h2,-⟩:=h.at hi
    exact⟨⟨x,y⟩,fun _=>⟨h1,h2⟩⟩
  · exact⟨⟨0,0⟩,fun e=>absurd e hi⟩
 obtain⟨f,hf⟩:∃f:Nat→Fmt,∀i,i<n→w.cell? ⟨g,off+i*2,none⟩=some (.int .i64 (f i).c)∧w.cell? ⟨g,off+i*2+1,none⟩=some (.int .i64 (f i).r):=⟨fun i=>Classical.choose (hx i),fun i=>Classical.choose_spec (hx i)⟩
 obtain⟨h1,h2,h3,-⟩:=h
 have hm:∀z:Fmt,(fmE z).length=2:=fun _=>rfl
 have hzl:((List.range n).map f).length=n:=by simp
 refine⟨(List.range n).map f,hzl,?_⟩
 refine .mk (us:=((List.range n).map f).flatMap fmE) (by rw[ξab hm,hzl]) (by rw[ξab hm,fm2_len]) h2 h3 hlt (fun j u hj=> ?_) (fun j d u e1 e2=> ?_)
 · have hj2:j<n*2:=by
    have:=(ξl hj).1
    rw[fm2_len,hzl] at this;exact this
   obtain⟨i,r,hr,hi,rfl⟩:∃i r,r<2∧i<n∧j=i*2+r:=⟨j/2,j%2,by omega,by omega,by omega⟩
   rw[fm2_at _ i r hr,List.getElem?_map,List.getElem?_range hi] at hj
   have he:(fmE (f i))[r]?= some u:=hj
   have:r=0∨r=1:=by omega
   rcases this with rfl | rfl
   · have:u= .int .i64 (f i).c:=by simpa[fmE] using he.symm
     rw[this];exact(hf i hi).1
   · have:u= .int .i64 (f i).r:=by simpa[fmE] using he.symm
     rw[this,←Nat.add_assoc];exact(hf i hi).2
 · unfold fltC at e1
   rw[←List.map_flatMap,List.getElem?_map,e2] at e1
   simp at e1
   subst e1
   exact .leaf _
end
def FmP (w:World) (B:Nat) (c:Value) (K:Nat) (e:Ending) (w':World):Prop:=∃g off n cap,e= .returned (.slice (some ⟨g,off,none⟩) n cap)∧n≤8∧FmB w' w.heap.size g off n cap∧CS w B c (K+100) w'
def lenF:Value→Nat
 | .slice _ n _=>n
 | _=>0
theorem lit8_rng:∀j,j<4*2→ ∃x:Int,(#[.int .i64 3000,.int .i64 10,.int .i64 1200,.int .i64 20,.int .i64 600,.int .i64 40,.int .i64 250,.int .i64 80]:Array Value)[0+j]?= some (.int .i64 x)
 | 0,_=>⟨_,rfl⟩
 | 1,_=>⟨_,rfl⟩
 | 2,_=>⟨_,rfl⟩
 | 3,_=>⟨_,rfl⟩
 | 4,_=>⟨_,rfl⟩
 | 5,_=>⟨_,rfl⟩
 | 6,_=>⟨_,rfl⟩
 | 7,_=>⟨_,rfl⟩
 | j+8,h=>by omega
theorem ξcy (B:Nat) (c:Value) (K:Nat) (w:World) (h:Cs w B c K) (hk:K≤2000000000000000):
 Calls Tryz.prog 137 #[ptr B] w (FmP w B c K):=by
 have hBw:=h.lt.1
 obtain⟨i0,hi0,hz0,hz1,hz2⟩:=info_parts Tryz.infoFmtD
 obtain⟨NP,hNP⟩:∃NP,NP=FmP w B c K:=⟨_,rfl⟩
 rw[←hNP]
 have F1:=ξh (show FmB (w.alloc (.cells #[.int .i64 3000,.int .i64 10,.int .i64 1200,.int .i64 20,.int .i64 600,.int .i64 40,.int .i64 250,.int .i64 80] 101)) w.heap.size w.heap.size 0 4 4 from⟨ξr _,ξr _,by unfold maxLen;omega,_,ξn _ _,by simp,lit8_rng⟩)
 have C1:=ξh (h.here.alloc (.cells #[.int .i64 3000,.int .i64 10,.int .i64 1200,.int .i64 20,.int .i64 600,.int .i64 40,.int .i64 250,.int .i64 80] 101))
 clear h
 go_enter Tryz.func137,Tryz.ntmps137
 go_upto_region 2 with fail
 generalize w.alloc (.cells #[.int .i64 3000,.int .i64 10,.int .i64 1200,.int .i64 20,.int .i64 600,.int .i64 40,.int .i64 250,.int .i64 80] 101)=w1 at *
 go_wp2_with fail
 refine(ξX B c _ 4 _ C1.st (by omega) (by omega) (by omega)).mono ?_
 rintro e w2 ⟨xp,xp0,xp1,rfl,hc2,-⟩
 have C2:=ξh (C1.call hc2)
 obtain⟨p,rfl⟩:=Int.eq_ofNat_of_zero_le xp0
 have F2:=ξh ((F1.cs hBw hc2).cut (1+p) (by omega))
 have hw1:IntKind.i64.wrap (1+(p:Int))=((1+p:Nat):Int):=by rw[ξi _ (by omega)];omega
 have i1:(0:Int)≤((1+p:Nat):Int):=by omega
 have i2:((1+p:Nat):Int)≤4:=by omega
 obtain⟨g,hg⟩:∃g,g=w.heap.size:=⟨_,rfl⟩
 have F0:=ξh (show w.heap.size≤g by rw[hg];exact ξr _)
 have F2:=ξh (show FmB w2 w.heap.size g 0 (1+p) 4 by rw[hg];exact F2.out)
 rw[←hg]
 clear hg C1 F1 hc2 xp0
 go_wp2_with fail
 refine(oneC B c _ 3 _ C2.st (by omega) (by omega) (by omega)).mono ?_
 rintro e w3 ⟨b,rfl,hc3,-⟩
 have C3:=ξh (C2.call hc3)
 have F3:=ξh (F2.cs hBw hc3)
 have hp3:p≤3:=by omega
 clear C2 F2 hc3 xp1 hw1 i1 i2
 obtain⟨n0,hn0⟩:∃n0,n0=1+p:=⟨_,rfl⟩
 rw[←hn0] at F3 ⊢
 have hn1:1≤n0:=by omega
 have hn4:n0≤4:=by omega
 clear hn0 hp3
 by_cases hcut:b=true∧1<n0
 case' pos=>
  obtain⟨rfl,hlt⟩:=hcut
  have hltI:(1:Int)<(n0:Int):=by omega
  have hle1:(1:Int)≤(n0:Int):=by omega
  have HN4:=ξh (show 1≤n0-1∧n0-1≤4 by omega)
  have F3:=ξh (F3.cut1 (by omega))
  have hsub:((n0:Int)-1).toNat=n0-1:=by omega
  go_upto_region 5 with fail
  obtain⟨n,hn⟩:∃n,n=n0-1:=⟨_,rfl⟩
  rw[←hn] at HN4 F3 ⊢
  clear hn hltI hle1 hsub hlt hn1 hn4
  obtain⟨sv,hsv⟩:∃sv,sv=Value.slice (some ⟨g,2,none⟩) n 3:=⟨_,rfl⟩
  rw[←hsv]
  obtain⟨off,cap,rfl,F3⟩:∃off cap,sv= .slice (some ⟨g,off,none⟩) n cap∧Hid (FmB w3 w.heap.size g off n cap):=⟨2,3,hsv,F3⟩
  clear hsv
 case' neg=>
  have HN4:=ξh (show 1≤n0∧n0≤4 by omega)
  cases b
  case' true=>
   have hnI:¬(1:Int)<(n0:Int):=by simp at hcut;omega
   have hnN:¬1<n0:=by omega
   have hnd:decide ((1:Int)<(n0:Int))=false:=ξf hnI
  all_goals
   clear hcut
   go_upto_region 5 with fail
   try clear hnI hnN hnd
   obtain⟨n,hn⟩:∃n,n=n0:=⟨_,rfl⟩
   rw[←hn] at HN4 F3 ⊢
   clear hn hn1 hn4
   obtain⟨sv,hsv⟩:∃sv,sv=Value.slice (some ⟨g,0,none⟩) n 4:=⟨_,rfl⟩
   rw[←hsv]
   obtain⟨off,cap,rfl,F3⟩:∃off cap,sv= .slice (some ⟨g,off,none⟩) n cap∧Hid (FmB w3 w.heap.size g off n cap):=⟨0,4,hsv,F3⟩
   clear hsv
 all_goals
  have hn4:n≤4:=HN4.2
  have hn1:1≤n:=HN4.1
  go_wp2_with fail
  refine(ξX B c _ (n:Int) _ C3.st (by omega) (by omega) (by omega)).mono ?_
  rintro e w5 ⟨xi,xi0,xi1,rfl,hc5,-⟩
  have C5:=ξh (C3.call hc5)
  have F5:=ξh (F3.cs hBw hc5)
  obtain⟨i,rfl⟩:=Int.eq_ofNat_of_zero_le xi0
  have hi:i<n:=by omega
  have hiI:(i:Int)<(n:Int):=by omega
  obtain⟨x,y,c0,c1,-,-⟩:=F5.at hi
  clear C3 F3 hc5 xi0 xi1
  go_upto_region 7 with fail
  have C6:=ξh (C5.alloc (.cells #[.int .i64 x,.int .i64 y] 101))
  have F6:=ξh (F5.below ((ξb _ _).alloc (ξr _) (.cells #[.int .i64 x,.int .i64 y] 101)))
  have X6:=ξh (ξn w5 (.cells #[.int .i64 x,.int .i64 y] 101))
  have hs5:=C5.size
  obtain⟨bx,hbx⟩:∃bx,bx=w5.heap.size:=⟨_,rfl⟩
  have hgx:g<bx:=by rw[hbx];exact F5.lt
  have hbw:w.heap.size≤bx:=by rw[hbx];exact hs5
  rw[←hbx] at X6 ⊢
  generalize w5.alloc (.cells #[.int .i64 x,.int .i64 y] 101)=w6 at *
  clear hbx c0 c1 C5 F5 hs5
  go_wp2_with fail
  refine(ξX B c _ 24 _ C6.st (by omega) (by omega) (by omega)).mono ?_
  rintro e w7 ⟨k,k0,k1,rfl,hc7,-⟩
  have C7:=ξh (C6.call hc7)
  have F7:=ξh (F6.cs hBw hc7)
  have X7:=ξh (C6.blk2 hc7 hbw X6.out)
  clear C6 F6 X6 hc7
  by_cases e0:k=0
  · subst e0
    have CA:=ξh (C7.alloc (.cells #[.int .i64 0,.int .i64 20000,.int .i64 20001,.int .i64 250] 3))
    have FA:=ξh (F7.below ((ξb _ _).alloc (ξr _) (.cells #[.int .i64 0,.int .i64 20000,.int .i64 20001,.int .i64 250] 3)))
    have XA:=ξh (ξA X7.out ((ξb _ _).alloc (ξr _) (.cells #[.int .i64 0,.int .i64 20000,.int .i64 20001,.int .i64 250] 3)))
    have HR:=ξh (ξar (n:=4) (lo:=0) (hi:=20001) (ξn w7 (.cells #[.int .i64 0,.int .i64 20000,.int .i64 20001,.int .i64 250] 3)) (by
     intro j hj
     rcases j with _ | _ | _ | _ | j
     · exact⟨0,by omega,by omega,rfl⟩
     · exact⟨20000,by omega,by omega,rfl⟩
     · exact⟨20001,by omega,by omega,rfl⟩
     · exact⟨250,by omega,by omega,rfl⟩
     · omega))
    have hl7:=C7.st.lt.1
    go_wp2_with fail
    refine(ξaw B c _ w7.heap.size 4 4 0 20001 _ CA.st (by omega) (by omega) (by omega) (by omega) HR.out).mono ?_
    rintro e wB ⟨z,z0,z1,rfl,hcB,-⟩
    have CB:=ξh (CA.call hcB)
    have FB:=ξh (FA.cs hBw hcB)
    have XB:=ξh (CA.blk2 hcB hbw XA.out)
    clear CA FA XA HR hcB C7 F7 X7
    have q0:=blkc XB.out (j:=0) (u:= .int .i64 x) rfl
    have q1:=blkc XB.out (j:=1) (u:= .int .i64 y) rfl
    have fz0:wB.frozen? ⟨bx,0,none⟩=false:=ξz _ _ _ _ _ XB.out
    obtain⟨xo,yo,c0,c1,g0,g1⟩:=FB.at hi
    have hne:g≠bx:=by omega
    go_upto_region 20 with fail
    have XC:=ξh (ξe wB bx 0 _ _ (.int .i64 z) XB.out)
    have FC:=ξh (FB.kept (w':=wB.setCell ⟨bx,0,none⟩ (.int .i64 z)) (ξm wB ⟨bx,0,none⟩ g _ hne))
    have CC:=ξh (CB.set (b:=bx) (j:=0) hbw (.int .i64 z))
    generalize wB.setCell ⟨bx,0,none⟩ (.int .i64 z)=wC at *
    clear q0 q1 fz0 c0 c1 g0 g1 XB FB CB
    have q0:=blkc XC.out (j:=0) (u:= .int .i64 z) rfl
    have q1:=blkc XC.out (j:=1) (u:= .int .i64 y) rfl
    obtain⟨xo,yo,c0,c1,g0,g1⟩:=FC.at hi
    have FD:=ξh ((FC.set (off+i*2) z).set (off+i*2+1) y)
    have CD:=ξh ((CC.set (b:=g) (j:=off+i*2) F0.out (.int .i64 z)).set (b:=g) (j:=off+i*2+1) F0.out (.int .i64 y))
    go_wp2_with fail
    subst hNP
    exact⟨g,off,n,cap,rfl,by omega,FD.out,CD.mono (by omega)⟩
  by_cases e1:k=1
  · subst e1
    have CA:=ξh (C7.alloc (.cells #[.int .i64 0,.int .i64 1000,.int .i64 1001,.int .i64 10] 3))
    have FA:=ξh (F7.below ((ξb _ _).alloc (ξr _) (.cells #[.int .i64 0,.int .i64 1000,.int .i64 1001,.int .i64 10] 3)))
    have XA:=ξh (ξA X7.out ((ξb _ _).alloc (ξr _) (.cells #[.int .i64 0,.int .i64 1000,.int .i64 1001,.int .i64 10] 3)))
    have HR:=ξh (ξar (n:=4) (lo:=0) (hi:=1001) (ξn w7 (.cells #[.int .i64 0,.int .i64 1000,.int .i64 1001,.int .i64 10] 3)) (by
     intro j hj
     rcases j with _ | _ | _ | _ | j
     · exact⟨0,by omega,by omega,rfl⟩
     · exact⟨1000,by omega,by omega,rfl⟩
     · exact⟨1001,by omega,by omega,rfl⟩
     · exact⟨10,by omega,by omega,rfl⟩
     · omega))
    have hl7:=C7.st.lt.1
    go_wp2_with fail
    refine(ξaw B c _ w7.heap.size 4 4 0 1001 _ CA.st (by omega) (by omega) (by omega) (by omega) HR.out).mono ?_
    rintro e wB ⟨z,z0,z1,rfl,hcB,-⟩
    have CB:=ξh (CA.call hcB)
    have FB:=ξh (FA.cs hBw hcB)
    have XB:=ξh (CA.blk2 hcB hbw XA.out)
    clear CA FA XA HR hcB C7 F7 X7
    have q0:=blkc XB.out (j:=0) (u:= .int .i64 x) rfl
    have q1:=blkc XB.out (j:=1) (u:= .int .i64 y) rfl
    have fz0:wB.frozen? ⟨bx,1,none⟩=false:=ξz _ _ _ _ _ XB.out
    obtain⟨xo,yo,c0,c1,g0,g1⟩:=FB.at hi
    have hne:g≠bx:=by omega
    go_upto_region 20 with fail
    have XC:=ξh (ξe wB bx 1 _ _ (.int .i64 z) XB.out)
    have FC:=ξh (FB.kept (w':=wB.setCell ⟨bx,1,none⟩ (.int .i64 z)) (ξm wB ⟨bx,1,none⟩ g _ hne))
    have CC:=ξh (CB.set (b:=bx) (j:=1) hbw (.int .i64 z))
    generalize wB.setCell ⟨bx,1,none⟩ (.int .i64 z)=wC at *
    clear q0 q1 fz0 c0 c1 g0 g1 XB FB CB
    have q0:=blkc XC.out (j:=0) (u:= .int .i64 x) rfl
    have q1:=blkc XC.out (j:=1) (u:= .int .i64 z) rfl
    obtain⟨xo,yo,c0,c1,g0,g1⟩:=FC.at hi
    have FD:=ξh ((FC.set (off+i*2) x).set (off+i*2+1) z)
    have CD:=ξh ((CC.set (b:=g) (j:=off+i*2) F0.out (.int .i64 x)).set (b:=g) (j:=off+i*2+1) F0.out (.int .i64 z))
    go_wp2_with fail
    subst hNP
    exact⟨g,off,n,cap,rfl,by omega,FD.out,CD.mono (by omega)⟩
  by_cases e2:k=2
  · subst e2
    have CA:=ξh (C7.alloc (.cells #[] 101))
    have FA:=ξh (show FmB (w7.alloc (.cells #[] 101)) w.heap.size w7.heap.size 0 0 0 from⟨C7.size,ξr _,by unfold maxLen;omega,_,ξn _ _,by simp,fun j hj=>by omega⟩)
    clear C7 F7 X7
    go_wp2_with fail
    subst hNP
    exact⟨_,0,0,0,rfl,by omega,FA.out,CA.mono (by omega)⟩
  by_cases e3:k=3
  · subst e3
    clear X7 hgx hbw hi hiI
    go_wp2_with fail
    go_loopw [3,6] (fun s3 s6 wr=>∃(g off n cap k:Nat),s3= .slice (some ⟨g,off,none⟩) n cap∧s6= .int .i64 (k:Int)∧n≤7∧k≤n∧Hid (FmB wr w.heap.size g off n cap)∧Hid (CS w B c (K+30+2*n) wr)) (fun s3 _ _=>8-lenF s3)
    case atStart=>exact⟨g,off,n,cap,0,rfl,rfl,by omega,by omega,F7.out,C7.mono (by omega)⟩
    case round=>
     clear C7 F7 F0 HN4 hn4 hn1
     obtain⟨g,off,n,cap,k,rfl,rfl,hn7,hkn,FR,CR⟩:=hrel
     go_wp2_with fail
     refine(ξX B c _ 2 _ CR.st (by omega) (by omega) (by omega)).mono ?_
     rintro e wA ⟨y,y0,y1,rfl,hcA,-⟩
     have CA:=ξh (CR.call hcA)
     have FA:=ξh (FR.cs hBw hcA)
     have hw6:IntKind.i64.wrap (6+y)=6+y:=ξi _ (by omega)
     clear CR FR hcA
     by_cases hlt:(n:Int)<6+y
     · obtain⟨p,q,hp0,hp1,hq⟩:∃p q:Int,IntKind.i64.wrap (10*(k:Int))=10*(k:Int)∧IntKind.i64.wrap (200-10*(k:Int))=p∧IntKind.i64.wrap (90+(k:Int))=q:=⟨_,_,ξi _ (by omega),rfl,rfl⟩
       obtain⟨olds,hol,hod,hoi⟩:=FA.olds
       have hcapL:cap≤maxLen:=FA.2.2.1
       have hsA:=CA.size
       have FB:=ξh (FA.below ((ξb _ _).alloc (ξr _) (.cells #[.int .i64 p,.int .i64 q] 101)))
       have CB:=ξh (CA.alloc (.cells #[.int .i64 p,.int .i64 q] 101))
       have hgl:=FA.lt
       have HOD:=ξh (fun j u (hj:olds[j]?= some u)=>show(wA.alloc (.cells #[.int .i64 p,.int .i64 q] 101)).cell? ⟨g,off+j,none⟩=some u from(((ξb wA.heap.size wA).alloc (ξr _) (.cells #[.int .i64 p,.int .i64 q] 101)).cell (p:=⟨g,off+j,none⟩) hgl).trans (hod j u hj))
       have HNW:=ξh (fun j u (hj:[Value.int .i64 p,.int .i64 q][j]?= some u)=>show(wA.alloc (.cells #[.int .i64 p,.int .i64 q] 101)).cell? ((⟨wA.heap.size,0,none⟩:Addr).add j)=some u from World.news_of_block (ξn wA (.cells #[.int .i64 p,.int .i64 q] 101)) j u (by simpa using hj))
       have H1C:=ξh (show∀u∈[Value.int .i64 p,.int .i64 q],u.oneCell'=true by simp[Value.oneCell'])
       have HSP:=ξh (fun(hr:n+1≤cap)=>FB.spare hr)
       clear hod FA CA
       by_cases hroom:n+1≤cap
       · have FP:=ξh (FB.push hroom p q)
         have CP:=ξh (((CB.set (b:=g) (j:=off+n*2) FB.1 (.int .i64 p)).set (b:=g) (j:=off+n*2+1) FB.1 (.int .i64 q)))
         go_wp2_with (at_builtin;(refine wpList_append_arg _ rfl (.tmp 61) (.tmp 68) 37 rfl 101 i0 (.agg #[.int .i64 0,.int .i64 0]) 2 16 Tryz.underlying37 hi0 hz0 hz1 hz2 rfl (by decide) g off n cap olds (by rfl) hol HOD.out ⟨wA.heap.size,0,none⟩ 1 1 [.int .i64 p,.int .i64 q] (by rfl) (by rfl) HNW.out H1C.out (fun hr j hj=>HSP.out hr j hj) (by unfold maxLen;omega) (by omega) (fun _=> ?_) (fun hg=>absurd hg (by omega))))
         have FP2:FmB ((wA.alloc (.cells #[.int .i64 p,.int .i64 q] 101)).setCells g (off+n*2) [.int .i64 p,.int .i64 q]) w.heap.size g off (n+1) cap:=FP.out
         have CP2:CS w B c (K+30+2*n+2) ((wA.alloc (.cells #[.int .i64 p,.int .i64 q] 101)).setCells g (off+n*2) [.int .i64 p,.int .i64 q]):=CP.out
         have FQ:=ξh FP2
         have CQ:=ξh CP2
         clear FP2 CP2 FP CP FB CB HOD HNW H1C HSP hp0 hp1 hq
         generalize (wA.alloc (.cells #[.int .i64 p,.int .i64 q] 101)).setCells g (off+n*2) [.int .i64 p,.int .i64 q]=w9 at *
         go_wp2_with fail
         go_roundw
         case rel=>exact⟨g,off,n+1,cap,k+1,rfl,by go_num,by omega,by omega,FQ.out,CQ.mono (by omega)⟩
         case measure=>simp[lenF];omega
       · have hsB:w.heap.size≤(wA.alloc (.cells #[.int .i64 p,.int .i64 q] 101)).heap.size:=by simp;omega
         go_wp2_with (at_builtin;(refine wpList_append_arg _ rfl (.tmp 61) (.tmp 68) 37 rfl 101 i0 (.agg #[.int .i64 0,.int .i64 0]) 2 16 Tryz.underlying37 hi0 hz0 hz1 hz2 rfl (by decide) g off n cap olds (by rfl) hol HOD.out ⟨wA.heap.size,0,none⟩ 1 1 [.int .i64 p,.int .i64 q] (by rfl) (by rfl) HNW.out H1C.out (fun hr j hj=>HSP.out hr j hj) (by unfold maxLen;omega) (by omega) (fun hr=>absurd hr hroom) (fun _ v9 w9 o9 g9=> ?_)))
         obtain⟨g',cap',rfl,FQ0⟩:=FmB.grew hsB hol hoi o9
         have FQ:=ξh FQ0
         have CQ:=ξh ((CB.grown g9 (fun _ e=>nomatch e)).mono (show K+30+2*n+2≤K+30+2*(n+1) by omega))
         clear FQ0 o9 g9 FB CB HOD HNW H1C HSP hp0 hp1 hq
         go_wp2_with fail
         go_roundw
         case rel=>exact⟨g',0,n+1,cap',k+1,rfl,by go_num,by omega,by omega,FQ.out,CQ.out⟩
         case measure=>simp[lenF];omega
     · go_wp2_with fail
       subst hNP
       exact⟨g,off,n,cap,rfl,by omega,FA.out,CA.mono (by omega)⟩
  · have q0:=blkc X7.out (j:=0) (u:= .int .i64 x) rfl
    have q1:=blkc X7.out (j:=1) (u:= .int .i64 y) rfl
    obtain⟨xo,yo,c0,c1,g0,g1⟩:=F7.at hi
    have hne:g≠bx:=by omega
    have FD:=ξh ((F7.set (off+i*2) x).set (off+i*2+1) y)
    have CD:=ξh ((C7.set (b:=g) (j:=off+i*2) F0.out (.int .i64 x)).set (b:=g) (j:=off+i*2+1) F0.out (.int .i64 y))
    go_wp2_with fail
    subst hNP
    exact⟨g,off,n,cap,rfl,by omega,FD.out,CD.mono (by omega)⟩
end Go.Proofs.YtofcicomhnkocaaGreat
