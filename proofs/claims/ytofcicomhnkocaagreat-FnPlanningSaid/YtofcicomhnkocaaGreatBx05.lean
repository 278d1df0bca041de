/- Walk: a number put into a row (the reference's). -/
import Derived.Test.YtofcicomhnkocaaGreatBx04
set_option linter.unusedVariables false
namespace Go.Proofs.YtofcicomhnkocaaGreat
set_option maxHeartbeats 3200000
open Go.RowKit Go.Sort
set_option maxRecDepth 100000
theorem ξa2 {P:Program} {ops:Array Oper} {rest:List Oper} {o:Oper} {a:Act} {Q:Exit→Act→World→Prop} {w:World} (hgd:o.guard=none) (s x:Operand) (T:TypeId)
 (ho:o.op= .call {callee:= .builtin .append,args:=#[s,x],argTypes:=#[T,T]}) (ht:P.underlying T=some (.slice 3))
 (hinfo:(P.info? 3).map (fun i=>(i.zero,i.size,i.bytes))=some (some (.int .i64 0),1,8))
 (base:Nat) (v:Value) (n:Nat) (xs:List Int) (hs:a.eval s=v) (hown:w.ownsRow base 3 1 v n (ints xs))
 (ao:Option Addr) (m c:Nat) (ys:List Int) (hx:a.eval x= .slice ao m c) (hm:ys.length=m) (hy:ao=none→m=0∧c=0) (hc:0<m→ ∃b off,ao=some ⟨b,off,none⟩∧ ∀j,j<m→w.cell? ⟨b,off+j,none⟩=some (.int .i64 (ys[j]?.getD 0))) (hn:n+m≤1000000) (hbase:base≤w.heap.size)
 (h:∀v' w',w'.ownsRow base 3 1 v' (n+m) (ints (xs++ys))→w.grownBy w' v.ownBlock→wpList P ops Q rest (a.put o.dst v') w'):
 wpList P ops Q (o::rest) a w:=by
 obtain⟨i0,hi,hz0,hz1,hz2⟩:=info_parts hinfo
 rcases ao with _ | ad
 · obtain⟨rfl,rfl⟩:=hy rfl
   have:ys=[]:=List.eq_nil_of_length_eq_zero hm
   subst this
   refine wpList_append_own_none hgd s x T ho base 3 i0 1 ht hi v n (ints xs) hs hown hx ?_
   exact h v w (by simpa using hown) ⟨rfl,rfl,rfl,ξr _,fun _ _ _=>rfl⟩
 · refine wpList_append_own _ hgd s x T ho base 3 i0 (.int .i64 0) 1 8 ht hi hz0 hz1 hz2 rfl (by decide) v n (ints xs) hs hown ad m c (ints ys) hx (by simpa using hm) ?_ (ints_oneCell _ _) (by unfold maxLen;omega) (by omega) hbase ?_
   · intro j u hu
     have hj:j<ys.length:=by have:=(ξl hu).1;simpa using this
     obtain⟨b,off,e1,e2⟩:=hc (by omega)
     simp only[Option.some.injEq] at e1
     subst e1
     have e:(⟨b,off,none⟩:Addr).add j=⟨b,off+j,none⟩:=by unfold Addr.add;split <;> simp_all
     rw[e,e2 j (by omega),←hu]
     simp[hj]
   · intro v' w' g1 g2 _
     exact h v' w' (by simpa[ints] using g1) g2
theorem putI_new {xs:List Int} {n:Int} {k:Nat} (hk:k≤xs.length) (hl:∀i,i<k→xs[i]?.getD 0<n) (hg:k<xs.length→n<xs[k]?.getD 0):putI xs n=xs.take k++[n]++xs.drop k:=by
 rw[putI_at k hk hl (fun h=>by have:=hg h;omega),if_neg (fun h=>by have:=hg h.1;omega)];simp
theorem putI_old {xs:List Int} {n:Int} {k:Nat} (hk:k<xs.length) (hl:∀i,i<k→xs[i]?.getD 0<n) (hg:xs[k]?.getD 0=n):putI xs n=xs:=by
 rw[putI_at k (Nat.le_of_lt hk) hl (fun h=>by omega),if_pos ⟨hk,hg⟩]
theorem one_cell {W:World} {c:Nat} {n:Int} (h:W.cell? ⟨c,0,none⟩=some (.int .i64 n)):∀j,j<1→W.cell? ⟨c,0+j,none⟩=some (.int .i64 (([n]:List Int)[j]?.getD 0)):=fun j hj=>by
 obtain rfl:j=0:=by omega
 exact h
section
variable {w : World} {X Y : Obj} {T : TypeId} {n : Int}
theorem own_made1:(w.drew.alloc (.cells #[] T)).ownsRow w.heap.size T 1 (.slice (some ⟨w.heap.size,0,none⟩) 0 0) 0 (ints []):=World.ownsRow_made w.drew #[] 0 (ξr _) (ξu _) (by simp)
theorem ξbJ:((w.drew.alloc (.cells #[] T)).alloc X).ownsRow w.heap.size T 1 (.slice (some ⟨w.heap.size,0,none⟩) 0 0) 0 (ints []):=own_made1.alloc _
theorem ξbK:((w.drew.alloc X).alloc (.cells #[] T)).ownsRow w.heap.size T 1 (.slice (some ⟨w.heap.size+1,0,none⟩) 0 0) 0 (ints []):=by
 have:=World.ownsRow_made (base:=w.heap.size) (e:=T) (size:=1) (w.drew.alloc X) #[] 0 (by simp) (ξu _) (by simp)
 simpa using this
theorem bel1:Below w.heap.size w (w.drew.alloc X):=(ξb w.heap.size w).drew.alloc (ξr _) _
theorem bel2:Below w.heap.size w ((w.drew.alloc X).alloc Y):=bel1.alloc (by simp) _
theorem cn1:(w.alloc (.cells #[.int .i64 n] T)).cell? ⟨w.heap.size,0,none⟩=some (.int .i64 n):=by simp
theorem cn2:((w.drew.alloc X).alloc (.cells #[.int .i64 n] T)).cell? ⟨w.heap.size+1,0,none⟩=some (.int .i64 n):=by
 have:=cn1 (w:=w.drew.alloc X) (T:=T) (n:=n)
 simpa using this
theorem cn3:((w.drew.alloc (.cells #[.int .i64 n] T)).alloc Y).cell? ⟨w.heap.size,0,none⟩=some (.int .i64 n):=
 (World.cell?_of_block (heap_alloc_old _ Y (by simp))).trans (cn1 (w:=w.drew))
theorem size_alloc {B:Nat} (h:B≤w.heap.size):B≤(w.alloc X).heap.size:=ξs h (by simp)
theorem lt2:w.heap.size+1<((w.drew.alloc X).alloc Y).heap.size:=by simp
theorem lt3:w.heap.size<((w.drew.alloc X).alloc Y).heap.size:=by simp;omega
theorem ne2:some (w.heap.size+1)≠(Value.slice (some ⟨w.heap.size,0,none⟩) 0 0).ownBlock:=by simp[Value.ownBlock]
theorem ne3:some w.heap.size≠(Value.slice (some ⟨w.heap.size+1,0,none⟩) 0 0).ownBlock:=by simp[Value.ownBlock]
end
def PutP (u:Value) (xs:List Int) (n:Int) (base:Nat) (w:World) (e:Ending) (w':World):Prop:=∃v',e= .returned v'∧Own w' base v' (putI xs n)∧(∀k,v'.ownBlock=some k→u.ownBlock=some k∨w.heap.size≤k)∧Below w.heap.size w w'
theorem l1Put_any (u:Value) (xs:List Int) (n:Int) (base:Nat) (w:World) (h:Own w base u xs) (hb:base≤w.heap.size) (hl:xs.length≤1000):
 Calls Tryz.prog 107 #[u,.int .i64 n] w (PutP u xs n base w):=by
 obtain⟨a,cap,m,HM,rfl,hmc,hm63,ha⟩:=h.rd.opn
 have HO:=ξh h
 have HA:=ξh ha
 have HPN:=ξh (fun k h1 h2 h3=>@putI_new xs n k h1 h2 h3)
 have HPO:=ξh (fun k h1 h2 h3=>@putI_old xs n k h1 h2 h3)
 have HAN:=ξh (show(a=none∧m=0∧cap=0)∨ ∃g off,a=some ⟨g,off,none⟩ from by
  rcases h with ⟨e,_⟩ | ⟨g,off,cap',cur,e,_⟩
  · simp only[Value.slice.injEq] at e;exact .inl e
  · simp only[Value.slice.injEq] at e;exact .inr ⟨g,off,e.1⟩)
 have hm1:m≤1000:=by have:=HM.out;omega
 rw[HM.out] at HPN HPO
 generalize hp:putI xs n=ps at *
 have HP:=ξh hp
 clear hp h ha
 go_enter Tryz.func107,Tryz.ntmps107
 go_wp2
 go_loopw [5] (fun i wr=>∃k:Nat,k≤m∧i= .int .i64 k∧wr=w∧Hid (∀i,i<k→xs[i]?.getD 0<n)) (fun i _=>m-(intOf i).toNat)
 case atStart=>exact⟨0,ξu _,rfl,rfl,fun i hi=>by omega⟩
 case round=>
  obtain⟨k,hk,rfl,rfl,HL⟩:=hrel
  by_cases hlt:k<m
  · have hltI:(k:Int)<(m:Int):=by omega
    obtain⟨b,off,rfl,hbs,hcs⟩:=HA.out (by omega)
    have c0:=hcs k hlt
    have HST:=ξh (fun(h:xs[k]?.getD 0<n)=>show∀i,i<k+1→xs[i]?.getD 0<n from fun i hi=>by
     rcases Nat.lt_or_ge i k with e | e
     · exact HL.out i e
     · have:i=k:=by omega
       rw[this];exact h)
    have HPN1:=ξh (HPN.out k hk HL.out)
    have HPO1:=ξh (HPO.out k hlt HL.out)
    have HC:=ξh hcs
    clear hcs
    generalize xs[k]?.getD 0=y at *
    cases hd:decide (y<n)
    case true=>
     have HS:=ξh (HST.out (by simpa using hd))
     go_wp2
     go_roundw
     case rel=>exact⟨k+1,hlt,by go_num,trivial,HS.out⟩
     case measure=>simp[intOf];omega
    have hyn:n≤y:=by simpa using hd
    by_cases he:y=n
    · have HE:=ξh (HPO1.out he)
      have hb1:(y==n)=true:=by simp[he]
      have hb2:decide (y=n)=true:=by simp[he]
      clear he hyn
      go_wp2
      go_ret
      exact⟨_,rfl,by rw[HP.out,HE.out];exact HO.out,fun k hk=> .inl hk,ξb _ _⟩
    · have HE:=ξh (HPN1.out (fun _=>by omega))
      have hb1:(y==n)=false:=by simp[he]
      have hb2:decide (y=n)=false:=by simp[he]
      clear he hyn
      go_wp2
      have HC0:=HC.out
      have HTL:=ξh (show(xs.take k).length=k by rw[List.length_take,HM.out];omega)
      have HDL:=ξh (show(xs.drop k).length=m-k by rw[List.length_drop,HM.out])
      have HTK:=ξh (fun(W:World) (hW:Below wr.heap.size wr W) j (hj:j<k)=>show W.cell? ⟨b,off+j,none⟩=some (.int .i64 ((xs.take k)[j]?.getD 0)) by
       rw[List.getElem?_take,if_pos hj];exact(hW.cell hbs).trans (HC0 j (by omega)))
      have HDK:=ξh (fun(W:World) (hW:Below wr.heap.size wr W) j (hj:j<m-k)=>show W.cell? ⟨b,off+k+j,none⟩=some (.int .i64 ((xs.drop k)[j]?.getD 0)) by
       rw[List.getElem?_drop,Nat.add_assoc];exact(hW.cell hbs).trans (HC0 (k+j) (by omega)))
      clear HC0
      generalize xs.take k=ts at *
      generalize xs.drop k=ds at *
      have hkc:¬cap=k:=by omega
      have i1:(0:Int)≤(k:Int):=by omega
      have i2:(k:Int)≤(cap:Int):=by omega
      have i3:k≤cap:=by omega
      have i4:(k:Int)≤(m:Int):=by omega
      have hck:¬cap-k=0:=by omega
      go_region_law (first
       | ((refine step_of_list rfl ?_);(go_loud (refine ξa2 rfl (.tmp 33) (.tmp 36) 58 rfl Tryz.underlying58 Tryz.infoInt wr.heap.size _ 0 [] (by rfl) (by first | exact own_made1 | exact ξbJ | exact ξbK) _ k _ ts (by rfl) HTL.out (fun e=>by cases e) (fun _=>⟨b,off,rfl,HTK.out _ (by first | exact bel1 | exact bel2)⟩) (by omega) (by first | exact bel1.size | exact bel2.size) ?_));(intro v1 w1 o1 g1);(have B1:Below wr.heap.size wr w1:=Below.grown (by first | exact bel1 | exact bel2) g1 (by first | exact bel1.size | exact bel2.size) (fun q hq=>(by have hq2:=ξo hq;rw[←hq2];first | exact ξr _ | exact Nat.le_succ _)));(have NN1:=fun c h1 h2=>g1.cell_far ⟨c,0,none⟩ h1 h2);(unfold wpList);(refine⟨rfl,?_⟩))
       | ((refine step_of_list rfl ?_);(go_loud (refine ξa2 rfl (.tmp 40) (.tmp 43) 58 rfl Tryz.underlying58 Tryz.infoInt wr.heap.size v2 (0+k+1) _ (by rfl) o2 _ (m-k) _ ds (by rfl) HDL.out (fun e=>by cases e) (fun _=>⟨b,off+k,rfl,HDK.out _ B2⟩) (by omega) B2.size ?_));(intro v3 w3 o3 g3);(have B3:Below wr.heap.size wr w3:=Below.grown B2 g3 B2.size (fun q hq=>(o2.lt q hq).1));(have O3:=ξa4 o3);(obtain⟨a3,c3,n3,-,rfl,-⟩:=O3.rd.opn);(unfold wpList);(refine⟨rfl,?_⟩))
       | ((refine step_of_list rfl ?_);(go_loud (refine ξa2 rfl (.tmp 37) (.tmp 39) 58 rfl Tryz.underlying58 Tryz.infoInt wr.heap.size v1 (0+k) _ (by rfl) (by first | exact o1 | exact o1.alloc _) _ 1 _ [n] (by rfl) rfl (fun e=>by cases e) (fun _=>⟨_,0,rfl,one_cell (by first | exact cn1 | exact(NN1 _ lt2 ne2).trans cn2 | exact(NN1 _ lt3 ne3).trans cn3)⟩) (by omega) (by first | exact B1.size | exact size_alloc B1.size) ?_));(intro v2 w2 o2 g2);(have B2:Below wr.heap.size wr w2:=Below.grown (by first | exact B1 | exact B1.alloc B1.size _) g2 (by first | exact B1.size | exact size_alloc B1.size) (fun q hq=>(o1.lt q hq).1));(unfold wpList);(refine⟨rfl,?_⟩)))
      all_goals
       have OO:=ξh (O3.mono hb)
       have OL:=ξh (fun q hq=>(O3.lt q hq).1)
       have HB3:=ξh B3
       clear o3 O3 B3
       go_wp2
       go_ret
       exact⟨_,rfl,by rw[HP.out,HE.out];simpa using OO.out,fun q hq=> .inr (OL.out q hq),HB3.out⟩
  · obtain rfl:m=k:=by omega
    have HE:=ξh (HPN.out m (ξr _) HL.out (fun h=>absurd h (Nat.lt_irrefl m)))
    rw[List.take_of_length_le (Nat.le_of_eq HM.out),List.drop_of_length_le (Nat.le_of_eq HM.out)] at HE
    rcases HAN.out with ⟨rfl,rfl,rfl⟩ | ⟨b,off,rfl⟩
    · have HXE:=ξh (show xs=[] from List.eq_nil_of_length_eq_zero HM.out)
      rw[HXE.out] at HE
      go_wp2
      go_region_law (first
       | ((refine step_of_list rfl ?_);(go_loud (refine ξa2 rfl (.tmp 33) (.tmp 36) 58 rfl Tryz.underlying58 Tryz.infoInt wr.heap.size _ 0 [] (by rfl) (by first | exact own_made1 | exact ξbJ | exact ξbK) none 0 0 [] (by rfl) rfl (fun _=>⟨rfl,rfl⟩) (fun h=>absurd h (Nat.lt_irrefl 0)) (by omega) (by first | exact bel1.size | exact bel2.size) ?_));(intro v1 w1 o1 g1);(have B1:Below wr.heap.size wr w1:=Below.grown (by first | exact bel1 | exact bel2) g1 (by first | exact bel1.size | exact bel2.size) (fun q hq=>(by have hq2:=ξo hq;rw[←hq2];first | exact ξr _ | exact Nat.le_succ _)));(have NN1:=fun c h1 h2=>g1.cell_far ⟨c,0,none⟩ h1 h2);(unfold wpList);(refine⟨rfl,?_⟩))
       | ((refine step_of_list rfl ?_);(go_loud (refine ξa2 rfl (.tmp 40) (.tmp 43) 58 rfl Tryz.underlying58 Tryz.infoInt wr.heap.size v2 (0+0+1) _ (by rfl) o2 none 0 0 [] (by rfl) rfl (fun _=>⟨rfl,rfl⟩) (fun h=>absurd h (Nat.lt_irrefl 0)) (by omega) B2.size ?_));(intro v3 w3 o3 g3);(have B3:Below wr.heap.size wr w3:=Below.grown B2 g3 B2.size (fun q hq=>(o2.lt q hq).1));(have O3:=ξa4 o3);(obtain⟨a3,c3,n3,-,rfl,-⟩:=O3.rd.opn);(unfold wpList);(refine⟨rfl,?_⟩))
       | ((refine step_of_list rfl ?_);(go_loud (refine ξa2 rfl (.tmp 37) (.tmp 39) 58 rfl Tryz.underlying58 Tryz.infoInt wr.heap.size v1 (0+0) _ (by rfl) (by first | exact o1 | exact o1.alloc _) _ 1 _ [n] (by rfl) rfl (fun e=>by cases e) (fun _=>⟨_,0,rfl,one_cell (by first | exact cn1 | exact(NN1 _ lt2 ne2).trans cn2 | exact(NN1 _ lt3 ne3).trans cn3)⟩) (by omega) (by first | exact B1.size | exact size_alloc B1.size) ?_));(intro v2 w2 o2 g2);(have B2:Below wr.heap.size wr w2:=Below.grown (by first | exact B1 | exact B1.alloc B1.size _) g2 (by first | exact B1.size | exact size_alloc B1.size) (fun q hq=>(o1.lt q hq).1));(unfold wpList);(refine⟨rfl,?_⟩)))
      all_goals
       have OO:=ξh (O3.mono hb)
       have OL:=ξh (fun q hq=>(O3.lt q hq).1)
       have HB3:=ξh B3
       clear o3 O3 B3
       go_wp2
       go_ret
       exact⟨_,rfl,by rw[HP.out,HE.out];simpa using OO.out,fun q hq=> .inr (OL.out q hq),HB3.out⟩
    · have HTK:=ξh (fun(h0:0<m) (W:World) (hW:Below wr.heap.size wr W)=>show∀j,j<m→W.cell? ⟨b,off+j,none⟩=some (.int .i64 (xs[j]?.getD 0)) from by
       obtain⟨b',off',e,hbs,hcs⟩:=HA.out h0
       simp only[Option.some.injEq,Addr.mk.injEq,and_true] at e
       obtain⟨rfl,rfl⟩:=e
       exact fun j hj=>(hW.cell hbs).trans (hcs j hj))
      have i1:(0:Int)≤(m:Int):=by omega
      have i2:(m:Int)≤(cap:Int):=by omega
      have i5:¬m<m:=by omega
      clear HA hlt HAN
      by_cases hcm:cap=m
      · obtain rfl:m=cap:=hcm.symm
        clear hcm
        go_wp2
        go_region_law (first
         | ((refine step_of_list rfl ?_);(go_loud (refine ξa2 rfl (.tmp 33) (.tmp 36) 58 rfl Tryz.underlying58 Tryz.infoInt wr.heap.size _ 0 [] (by rfl) (by first | exact own_made1 | exact ξbJ | exact ξbK) _ m _ xs (by rfl) HM.out (fun e=>by cases e) (fun h0=>⟨b,off,rfl,HTK.out h0 _ (by first | exact bel1 | exact bel2)⟩) (by omega) (by first | exact bel1.size | exact bel2.size) ?_));(intro v1 w1 o1 g1);(have B1:Below wr.heap.size wr w1:=Below.grown (by first | exact bel1 | exact bel2) g1 (by first | exact bel1.size | exact bel2.size) (fun q hq=>(by have hq2:=ξo hq;rw[←hq2];first | exact ξr _ | exact Nat.le_succ _)));(have NN1:=fun c h1 h2=>g1.cell_far ⟨c,0,none⟩ h1 h2);(unfold wpList);(refine⟨rfl,?_⟩))
         | ((refine step_of_list rfl ?_);(go_loud (refine ξa2 rfl (.tmp 40) (.tmp 43) 58 rfl Tryz.underlying58 Tryz.infoInt wr.heap.size v2 (0+m+1) _ (by rfl) o2 _ 0 _ [] (by rfl) rfl (fun e=>by cases e) (fun h=>absurd h (Nat.lt_irrefl 0)) (by omega) B2.size ?_));(intro v3 w3 o3 g3);(have B3:Below wr.heap.size wr w3:=Below.grown B2 g3 B2.size (fun q hq=>(o2.lt q hq).1));(have O3:=ξa4 o3);(obtain⟨a3,c3,n3,-,rfl,-⟩:=O3.rd.opn);(unfold wpList);(refine⟨rfl,?_⟩))
         | ((refine step_of_list rfl ?_);(go_loud (refine ξa2 rfl (.tmp 37) (.tmp 39) 58 rfl Tryz.underlying58 Tryz.infoInt wr.heap.size v1 (0+m) _ (by rfl) (by first | exact o1 | exact o1.alloc _) _ 1 _ [n] (by rfl) rfl (fun e=>by cases e) (fun _=>⟨_,0,rfl,one_cell (by first | exact cn1 | exact(NN1 _ lt2 ne2).trans cn2 | exact(NN1 _ lt3 ne3).trans cn3)⟩) (by omega) (by first | exact B1.size | exact size_alloc B1.size) ?_));(intro v2 w2 o2 g2);(have B2:Below wr.heap.size wr w2:=Below.grown (by first | exact B1 | exact B1.alloc B1.size _) g2 (by first | exact B1.size | exact size_alloc B1.size) (fun q hq=>(o1.lt q hq).1));(unfold wpList);(refine⟨rfl,?_⟩)))
        all_goals
         have OO:=ξh (O3.mono hb)
         have OL:=ξh (fun q hq=>(O3.lt q hq).1)
         have HB3:=ξh B3
         clear o3 O3 B3
         go_wp2
         go_ret
         exact⟨_,rfl,by rw[HP.out,HE.out];simpa using OO.out,fun q hq=> .inr (OL.out q hq),HB3.out⟩
      · have hck:¬cap-m=0:=by omega
        go_wp2
        go_region_law (first
         | ((refine step_of_list rfl ?_);(go_loud (refine ξa2 rfl (.tmp 33) (.tmp 36) 58 rfl Tryz.underlying58 Tryz.infoInt wr.heap.size _ 0 [] (by rfl) (by first | exact own_made1 | exact ξbJ | exact ξbK) _ m _ xs (by rfl) HM.out (fun e=>by cases e) (fun h0=>⟨b,off,rfl,HTK.out h0 _ (by first | exact bel1 | exact bel2)⟩) (by omega) (by first | exact bel1.size | exact bel2.size) ?_));(intro v1 w1 o1 g1);(have B1:Below wr.heap.size wr w1:=Below.grown (by first | exact bel1 | exact bel2) g1 (by first | exact bel1.size | exact bel2.size) (fun q hq=>(by have hq2:=ξo hq;rw[←hq2];first | exact ξr _ | exact Nat.le_succ _)));(have NN1:=fun c h1 h2=>g1.cell_far ⟨c,0,none⟩ h1 h2);(unfold wpList);(refine⟨rfl,?_⟩))
         | ((refine step_of_list rfl ?_);(go_loud (refine ξa2 rfl (.tmp 40) (.tmp 43) 58 rfl Tryz.underlying58 Tryz.infoInt wr.heap.size v2 (0+m+1) _ (by rfl) o2 _ 0 _ [] (by rfl) rfl (fun e=>by cases e) (fun h=>absurd h (Nat.lt_irrefl 0)) (by omega) B2.size ?_));(intro v3 w3 o3 g3);(have B3:Below wr.heap.size wr w3:=Below.grown B2 g3 B2.size (fun q hq=>(o2.lt q hq).1));(have O3:=ξa4 o3);(obtain⟨a3,c3,n3,-,rfl,-⟩:=O3.rd.opn);(unfold wpList);(refine⟨rfl,?_⟩))
         | ((refine step_of_list rfl ?_);(go_loud (refine ξa2 rfl (.tmp 37) (.tmp 39) 58 rfl Tryz.underlying58 Tryz.infoInt wr.heap.size v1 (0+m) _ (by rfl) (by first | exact o1 | exact o1.alloc _) _ 1 _ [n] (by rfl) rfl (fun e=>by cases e) (fun _=>⟨_,0,rfl,one_cell (by first | exact cn1 | exact(NN1 _ lt2 ne2).trans cn2 | exact(NN1 _ lt3 ne3).trans cn3)⟩) (by omega) (by first | exact B1.size | exact size_alloc B1.size) ?_));(intro v2 w2 o2 g2);(have B2:Below wr.heap.size wr w2:=Below.grown (by first | exact B1 | exact B1.alloc B1.size _) g2 (by first | exact B1.size | exact size_alloc B1.size) (fun q hq=>(o1.lt q hq).1));(unfold wpList);(refine⟨rfl,?_⟩)))
        all_goals
         have OO:=ξh (O3.mono hb)
         have OL:=ξh (fun q hq=>(O3.lt q hq).1)
         have HB3:=ξh B3
         clear o3 O3 B3
         go_wp2
         go_ret
         exact⟨_,rfl,by rw[HP.out,HE.out];simpa using OO.out,fun q hq=> .inr (OL.out q hq),HB3.out⟩
end Go.Proofs.YtofcicomhnkocaaGreat
