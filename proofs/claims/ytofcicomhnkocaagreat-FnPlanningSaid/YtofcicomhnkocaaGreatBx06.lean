import Derived.Test.YtofcicomhnkocaaGreatBx05
set_option linter.unusedVariables false
namespace Go.Proofs.YtofcicomhnkocaaGreat
set_option maxHeartbeats 6400000
open Go.RowKit Go.Sort
set_option maxRecDepth 100000
theorem Tryz.infoFib:(Tryz.prog.info? 146).map (fun i=>(i.zero,i.size,i.bytes))=some (some (.agg #[.int .i64 0,.int .i64 0,.int .i64 0,.int .i64 0]),4,32):=by kernel_rfl
def fbs (fs:List Fib):List Value:=fs.flatMap fibE
theorem fbs_len (fs:List Fib):(fbs fs).length=fs.length*4:=by
 unfold fbs
 induction fs with
 | nil=>rfl
 | cons f fs ih=>rw[List.flatMap_cons,ξk,ih,List.length_cons];simp[fibE];omega
theorem ξaW (a b:List Fib):fbs (a++b)=fbs a++fbs b:=by unfold fbs;rw[List.flatMap_append]
theorem fbs_one {fs:List Fib} :∀u∈fbs fs,u.oneCell'=true:=fun u hu=>by
 unfold fbs at hu
 obtain⟨f,-,h⟩:=List.mem_flatMap.1 hu
 simp[fibE] at h
 rcases h with rfl | rfl | rfl | rfl <;> rfl
theorem fbs_drop (fs:List Fib) (k:Nat):fbs (fs.drop k)=(fbs fs).drop (k*4):=by
 by_cases hk:k≤fs.length
 · have h:fbs fs=fbs (fs.take k)++fbs (fs.drop k):=by rw[←ξaW,List.take_append_drop]
   have hl:(fbs (fs.take k)).length=k*4:=by rw[fbs_len,List.length_take];omega
   rw[h,List.drop_left' hl]
 · rw[List.drop_of_length_le (by omega),List.drop_of_length_le (by rw[fbs_len];omega)];rfl
theorem fbs_take (fs:List Fib) (k:Nat):fbs (fs.take k)=(fbs fs).take (k*4):=by
 by_cases hk:k≤fs.length
 · have h:fbs fs=fbs (fs.take k)++fbs (fs.drop k):=by rw[←ξaW,List.take_append_drop]
   have hl:(fbs (fs.take k)).length=k*4:=by rw[fbs_len,List.length_take];omega
   rw[h,List.take_left' hl]
 · rw[List.take_of_length_le (by omega),List.take_of_length_le (by rw[fbs_len];omega)]
theorem fbs_cell {w:World} {b off n:Nat} {fs:List Fib} (h:∀i,i<n→ ∀r u,(fibE (fs[i]?.getD nilB))[r]?= some u→w.cell? ⟨b,off+i*4+r,none⟩=some u) (hn:fs.length=n):∀j u,(fbs fs)[j]?= some u→w.cell? ⟨b,off+j,none⟩=some u:=fun j u hj=>by
 have hl:j<n*4:=by have:=(ξl hj).1;rw[fbs_len] at this;omega
 obtain⟨i,r,hr,rfl⟩:∃i r,r<4∧j=i*4+r:=⟨j/4,j%4,by omega,by omega⟩
 have hi:i<fs.length:=by omega
 have h1:fbs (fs.drop i)=fibE (fs[i]?.getD nilB)++fbs (fs.drop (i+1)):=by
  rw[List.drop_eq_getElem_cons hi,ξg hi];rfl
 rw[←List.getElem?_drop,←fbs_drop,h1,List.getElem?_append_left (by simp[fibE];omega)] at hj
 have:=h i (by omega) r u hj
 rwa [Nat.add_assoc] at this
theorem wpList_catG {P:Program} {ops:Array Oper} {rest:List Oper} {o:Oper} {a:Act} {Q:Exit→Act→World→Prop} {w:World} (hgd:o.guard=none) (s x:Operand) (T e:TypeId)
 (ho:o.op= .call {callee:= .builtin .append,args:=#[s,x],argTypes:=#[T,T]}) (ht:P.underlying T=some (.slice e)) (z:Value) (size bytes:Nat)
 (hinfo:(P.info? e).map (fun i=>(i.zero,i.size,i.bytes))=some (some z,size,bytes)) (hzs:z.cells.size=size) (hsz:0<size)
 (base:Nat) (v:Value) (n:Nat) (xs:List Value) (hs:a.eval s=v) (hown:w.ownsRow base e size v n xs)
 (ao:Option Addr) (m c:Nat) (ys:List Value) (hx:a.eval x= .slice ao m c) (hm:ys.length=m*size) (hy:ao=none→m=0∧c=0) (hc:∀ad,ao=some ad→ ∀j u,ys[j]?= some u→w.cell? (ad.add j)=some u) (h1:∀u∈ys,u.oneCell'=true) (hn:n+m≤maxLen) (hby:(n+m)*bytes≤140737488355328) (hbase:base≤w.heap.size)
 (h:∀v' w',w'.ownsRow base e size v' (n+m) (xs++ys)→w.grownBy w' v.ownBlock→(v'.ownBlock=v.ownBlock∨v'.ownBlock=some w.heap.size)→wpList P ops Q rest (a.put o.dst v') w'):
 wpList P ops Q (o::rest) a w:=by
 obtain⟨i0,hi,hz0,hz1,hz2⟩:=info_parts hinfo
 rcases ao with _ | ad
 · obtain⟨rfl,rfl⟩:=hy rfl
   have:ys=[]:=List.eq_nil_of_length_eq_zero (by simpa using hm)
   subst this
   refine wpList_append_own_none hgd s x T ho base e i0 size ht hi v n xs hs hown hx ?_
   exact h v w (by simpa using hown) ⟨rfl,rfl,rfl,ξr _,fun _ _ _=>rfl⟩ (.inl rfl)
 · refine wpList_append_own_at _ hgd s x T ho base e i0 z size bytes ht hi hz0 hz1 hz2 hzs hsz v n xs hs hown ad m c ys hx hm (hc ad rfl) h1 hn hby hbase ?_
   intro v' w' g1 g2 _ g4
   exact h v' w' g1 g2 g4
theorem addr_add (b off j:Nat):(⟨b,off,none⟩:Addr).add j=⟨b,off+j,none⟩:=by unfold Addr.add;split <;> simp_all
section
variable {w : World} {X Y : Obj} {T : TypeId} {m : Nat}
theorem row_made1:(w.drew.alloc (.cells #[] T)).ownsRow w.heap.size T m (.slice (some ⟨w.heap.size,0,none⟩) 0 0) 0 []:=World.ownsRow_made w.drew #[] 0 (ξr _) (ξu _) (by simp)
theorem row_made2:((w.drew.alloc (.cells #[] T)).alloc X).ownsRow w.heap.size T m (.slice (some ⟨w.heap.size,0,none⟩) 0 0) 0 []:=row_made1.alloc _
theorem row_made3:((w.drew.alloc X).alloc (.cells #[] T)).ownsRow w.heap.size T m (.slice (some ⟨w.heap.size+1,0,none⟩) 0 0) 0 []:=by
 have:=World.ownsRow_made (base:=w.heap.size) (e:=T) (size:=m) (w.drew.alloc X) #[] 0 (by simp) (ξu _) (by simp)
 simpa using this
end
def FibRow (w:World) (base:Nat) (v:Value) (fs:List Fib):Prop:=w.ownsRow base 146 4 v fs.length (fbs fs)
theorem FibRow.rd {w:World} {base:Nat} {v:Value} {fs:List Fib} (h:FibRow w base v fs):Rdt w (flt 4 fibE fs) v:=by
 have hl:=h.1
 rcases h.2 with ⟨rfl,h0⟩ | ⟨g,cap,cur,rfl,q1,q2,q3,q4,q5,q6⟩
 · have:fs=[]:=List.eq_nil_of_length_eq_zero h0
   subst this
   exact .nil 4
 · have hcells:=World.ownsRow.cells h (g:=g) rfl
   refine .mk (us:=fbs fs) (by rw[ξab (m:=4) (fun _=>rfl)]) (by rw[fbs_len,ξab (m:=4) (fun _=>rfl)]) q3 q4 (ξa q2).1 (fun j u hj=> ?_) (fun j d u h1 h2=> ?_)
   · have:=hcells j u hj
     rwa [addr_add] at this
   · have:fltC fibE fs=(fbs fs).map Dt.leaf:=by unfold fltC fbs;rw[List.map_flatMap]
     rw[this,List.getElem?_map,h2] at h1
     simp at h1
     rw[←h1]
     exact .leaf u
theorem FibRow.ne {w:World} {base:Nat} {v:Value} {fs:List Fib} (h:FibRow w base v fs) (h0:0<fs.length):v≠ .slice none 0 0:=fun e=>by
 rcases h.2 with ⟨_,h1⟩ | ⟨g,cap,cur,h1,_⟩
 · omega
 · rw[e] at h1;cases h1
theorem FibRow.slice {w:World} {base:Nat} {v:Value} {fs:List Fib} (h:FibRow w base v fs):∃a c n,v= .slice a n c:=by
 rcases h.2 with ⟨e,_⟩ | ⟨g,cap,cur,h1,_⟩
 · exact⟨_,_,_,e⟩
 · exact⟨_,_,_,h1⟩
theorem take_get {xs:List Value} {k j:Nat} {u:Value} (h:(xs.take k)[j]?= some u):xs[j]?= some u:=by
 rw[List.getElem?_take] at h
 split at h
 · exact h
 · cases h
def PutF (base:Nat) (m:Nat) (w:World) (v':Value) (w':World):Prop:=∃fs':List Fib,FibRow w' base v' fs'∧fs'.length=m+1∧(∀f∈fs',ξV f)∧v'≠ .slice none 0 0∧Below base w w'
theorem l2Put_any (v:Value) (fs:List Fib) (f:Fib) (w:World) (h:Rdt w (flt 4 fibE fs) v) (hs:∀g∈fs,ξV g) (hf:ξV f) (hl:fs.length≤1000):
 Calls Tryz.prog 165 #[v,fibV f] w fun e w'=>∃v',e= .returned v'∧PutF w.heap.size fs.length w v' w':=by
 obtain⟨a,m,cap,rfl,HM,hmc,hm63,ha⟩:=ξC (m:=4) (enc:=fibE) (fun _=>rfl) (by omega) nilB h
 have HA:=ξh ha
 have HB:=ξh (fun(k:Nat) w' (hk:k<fs.length)=>ξch (fs[k]?.getD nilB) f w' (by rw[ξg hk];exact hs _ (ξj hk)) hf)
 have HAN:=ξh (show(a=none∧m=0∧cap=0)∨ ∃g off,a=some ⟨g,off,none⟩ from by
  unfold flt at h
  generalize fltC fibE fs=ds at h
  cases h with
  | nil size=>exact .inl ⟨rfl,rfl,rfl⟩
  | mk=>exact .inr ⟨_,_,rfl⟩)
 have HABS:=ξh (show∀b off,a=some ⟨b,off,none⟩→b<w.heap.size∧Hid (∀i,i<m→ ∀r u,(fibE (fs[i]?.getD nilB))[r]?= some u→w.cell? ⟨b,off+i*4+r,none⟩=some u) from fun b off e=>by
  refine⟨?_,fun i hi=> ?_⟩
  · subst e
    unfold flt at h
    generalize fltC fibE fs=ds at h
    cases h with
    | mk _ _ _ _ hb _ _=>exact hb
  · obtain⟨b',off',e',-,hc⟩:=ha (by omega)
    rw[e] at e'
    cases e'
    exact hc i hi)
 have HS:=ξh hs
 have HF:=ξh hf
 have hm1:m≤1000:=by have:=HM.out;omega
 rw[HM.out] at HB ⊢
 obtain⟨bx,bc,blt,-⟩:=ξD w #[.int .i64 f.a,.int .i64 f.b,.int .i64 f.l,.int .i64 f.r] 146
 have q0:=bc 0 _ rfl
 have q1:=bc 1 _ rfl
 have q2:=bc 2 _ rfl
 have q3:=bc 3 _ rfl
 have HBX:=ξh bx
 unfold fibV
 clear h ha hs hf bx bc
 go_enter Tryz.func165,Tryz.ntmps165
 go_wp2_with fail
 generalize w.alloc (.cells #[.int .i64 f.a,.int .i64 f.b,.int .i64 f.l,.int .i64 f.r] 146)=w1 at *
 go_loopw [5] (fun i wr=>∃k:Nat,k≤m∧i= .int .i64 k∧Hid (Below w1.heap.size w1 wr)) (fun i _=>m-(intOf i).toNat)
 case atStart=>exact⟨0,ξu _,rfl,ξb _ _⟩
 case round=>
  obtain⟨k,hk,rfl,HBR⟩:=hrel
  have t0:=(HBR.cell (p:=⟨w.heap.size,0,none⟩) blt).trans q0
  have t1:=(HBR.cell (p:=⟨w.heap.size,1,none⟩) blt).trans q1
  have t2:=(HBR.cell (p:=⟨w.heap.size,2,none⟩) blt).trans q2
  have t3:=(HBR.cell (p:=⟨w.heap.size,3,none⟩) blt).trans q3
  have HBW:=ξh (HBX.trans (HBR.mono HBX.size))
  by_cases hlt:k<m
  · have hltI:(k:Int)<(m:Int):=by omega
    obtain⟨b,off,rfl,hbs,hcs⟩:=HA.out (by omega)
    have x0:=(HBW.cell (p:=⟨b,off+k*4+0,none⟩) hbs).trans (hcs k hlt 0 _ rfl)
    have x1:=(HBW.cell (p:=⟨b,off+k*4+1,none⟩) hbs).trans (hcs k hlt 1 _ rfl)
    have x2:=(HBW.cell (p:=⟨b,off+k*4+2,none⟩) hbs).trans (hcs k hlt 2 _ rfl)
    have x3:=(HBW.cell (p:=⟨b,off+k*4+3,none⟩) hbs).trans (hcs k hlt 3 _ rfl)
    rw[Nat.add_zero] at x0
    have HK:=ξh (fun w'=>HB.out k w' hlt)
    have HCSS:=ξh hcs
    clear hcs
    generalize fs[k]?.getD nilB=y at *
    obtain⟨ya,yb,yl,yr⟩:=y
    simp only at x0 x1 x2 x3
    have j0:=rg t0
    have j1:=rg t1
    have j2:=rg t2
    have j3:=rg t3
    have i0:=rg x0
    have i1:=rg x1
    have i2:=rg x2
    have i3:=rg x3
    unfold fibV at HK
    cases hle:decide (befF ⟨ya,yb,yl,yr⟩ f≤0)
    · generalize befF ⟨ya,yb,yl,yr⟩ f=r at *
      have hleI:¬r≤0:=by simpa using hle
      go_wp2
      clear t0 t1 t2 t3 x0 x1 x2 x3
      refine ξv ?_
      repeat (go_big_quiet_step (first | (go_at_call 171;exact Calls.regrown_of (HK.out _))))
      refine wpQuiet_nil ?_
      rintro _ ⟨⟨dq,osq⟩,rfl⟩
      have hbX':=ξc wr dq osq
      have HXX:=ξh (HBW.trans (hbX'.mono HBW.size))
      have s0:=j0 dq osq
      have s1:=j1 dq osq
      have s2:=j2 dq osq
      have s3:=j3 dq osq
      generalize grow (redrawn wr dq) osq=wX at *
      have hlX:=ξd _ _ s0
      have hbX:b<wX.heap.size:=ξq hbs HXX.size
      have HCX:=ξh (show∀j u,(fbs fs)[j]?= some u→wX.cell? ⟨b,off+j,none⟩=some u from fbs_cell (fun i hi r u hu=>(HXX.cell (p:=⟨b,off+i*4+r,none⟩) hbs).trans (HCSS.out i hi r u hu)) HM.out)
      clear j0 j1 j2 j3 i0 i1 i2 i3 hbX'
      go_wp2
      have HTL:=ξh (show(fbs (fs.take k)).length=k*4 by rw[fbs_len,List.length_take,HM.out];congr 1;omega)
      have HDL:=ξh (show(fbs (fs.drop k)).length=(m-k)*4 by rw[fbs_len,List.length_drop,HM.out])
      have HTK:=ξh (fun(W:World) (hW:Below wX.heap.size wX W)=>show∀ad,some (⟨b,off,none⟩:Addr)=some ad→ ∀j u,(fbs (fs.take k))[j]?= some u→W.cell? (ad.add j)=some u from fun ad e j u hu=>by
       cases e
       rw[addr_add]
       exact(hW.cell hbX).trans (HCX.out j u (take_get (by rw[←fbs_take];exact hu))))
      have HDK:=ξh (fun(W:World) (hW:Below wX.heap.size wX W)=>show∀ad,some (⟨b,off+k*4,none⟩:Addr)=some ad→ ∀j u,(fbs (fs.drop k))[j]?= some u→W.cell? (ad.add j)=some u from fun ad e j u hu=>by
       cases e
       rw[addr_add]
       rw[fbs_drop,List.getElem?_drop] at hu
       exact(hW.cell hbX).trans (by rw[Nat.add_assoc];exact HCX.out _ u hu))
      have HO1:=ξh (@fbs_one (fs.take k))
      have HO3:=ξh (@fbs_one (fs.drop k))
      have hkc:¬cap=k:=by omega
      have i1:(0:Int)≤(k:Int):=by omega
      have i2:(k:Int)≤(cap:Int):=by omega
      have i3:k≤cap:=by omega
      have i4:(k:Int)≤(m:Int):=by omega
      have hck:¬cap-k=0:=by omega
      have hbx:∀j,j<4→ ∀W:World,Below wX.heap.size wX W→W.cell? ⟨w.heap.size,j,none⟩=wX.cell? ⟨w.heap.size,j,none⟩:=fun j _ W hW=>hW.cell (p:=⟨w.heap.size,j,none⟩) hlX
      have y0a:=(hbx 0 (by omega) wX.drew (ξb _ _).drew).trans s0
      have y0b:=(hbx 0 (by omega) (wX.drew.alloc (.cells #[] 146)) bel1).trans s0
      have y1a:=(hbx 1 (by omega) wX.drew (ξb _ _).drew).trans s1
      have y1b:=(hbx 1 (by omega) (wX.drew.alloc (.cells #[] 146)) bel1).trans s1
      have y2a:=(hbx 2 (by omega) wX.drew (ξb _ _).drew).trans s2
      have y2b:=(hbx 2 (by omega) (wX.drew.alloc (.cells #[] 146)) bel1).trans s2
      have y3a:=(hbx 3 (by omega) wX.drew (ξb _ _).drew).trans s3
      have y3b:=(hbx 3 (by omega) (wX.drew.alloc (.cells #[] 146)) bel1).trans s3
      have HBK:=ξh hbx
      have y0k:=s0
      have y1k:=s1
      have y2k:=s2
      have y3k:=s3
      have HLN:=ξh (fun(W:World)=>show∀ad,some (⟨W.heap.size,0,none⟩:Addr)=some ad→ ∀j u,(fibE f)[j]?= some u→(W.alloc (.cells #[.int .i64 f.a,.int .i64 f.b,.int .i64 f.l,.int .i64 f.r] 146)).cell? (ad.add j)=some u from fun ad e j u hu=>by cases e;exact World.news_of_block (ξn W _) j u hu)
      have HL2:=ξh (show((wX.drew.alloc (.cells #[] 146)).alloc (.cells #[.int .i64 f.a,.int .i64 f.b,.int .i64 f.l,.int .i64 f.r] 146)).heap[wX.heap.size+1]?= some (.cells #[.int .i64 f.a,.int .i64 f.b,.int .i64 f.l,.int .i64 f.r] 146) from by have:=ξn (wX.drew.alloc (.cells #[] 146)) (.cells #[.int .i64 f.a,.int .i64 f.b,.int .i64 f.l,.int .i64 f.r] 146);simpa using this)
      have HL3:=ξh (show((wX.drew.alloc (.cells #[.int .i64 f.a,.int .i64 f.b,.int .i64 f.l,.int .i64 f.r] 146)).alloc (.cells #[] 146)).heap[wX.heap.size]?= some (.cells #[.int .i64 f.a,.int .i64 f.b,.int .i64 f.l,.int .i64 f.r] 146) from(heap_alloc_old _ _ (by simp)).trans (ξn wX.drew (.cells #[.int .i64 f.a,.int .i64 f.b,.int .i64 f.l,.int .i64 f.r] 146)))
      have HLF:=ξh (fun(W:World) (B:Nat) (hB:W.heap[B]?= some (.cells #[.int .i64 f.a,.int .i64 f.b,.int .i64 f.l,.int .i64 f.r] 146))=>show∀ad,some (⟨B,0,none⟩:Addr)=some ad→ ∀j u,(fibE f)[j]?= some u→W.cell? (ad.add j)=some u from fun ad e j u hu=>by cases e;exact World.news_of_block hB j u hu)
      have HFO:=ξh (show∀u∈fibE f,u.oneCell'=true from fun u hu=>by simp[fibE] at hu;rcases hu with rfl | rfl | rfl | rfl <;> rfl)
      clear HA hbx s0 s1 s2 s3 HCX
      generalize hT:fbs (fs.take k)=ts at *
      generalize hD:fbs (fs.drop k)=ds at *
      have HT:=ξh hT
      have HD:=ξh hD
      clear hT hD
      go_wp2
      go_region_law (first
       | ((refine step_of_list rfl ?_);(with_reducible show wpList _ _ _ (⟨some 25,_,_,_,_,_⟩::_) _ _);(go_loud (refine wpList_catG rfl (.tmp 21) (.tmp 24) 33 146 rfl Tryz.underlying33 (.agg #[.int .i64 0,.int .i64 0,.int .i64 0,.int .i64 0]) 4 32 Tryz.infoFib rfl (by decide) wX.heap.size (.slice (some ⟨_,0,none⟩) 0 0) 0 [] (by rfl) (by first | exact row_made1 | exact row_made2 | exact row_made3) (some ⟨b,off,none⟩) k _ ts (by rfl) HTL.out (fun e=>by cases e) (HTK.out _ (by first | exact bel1 | exact bel2)) HO1.out (by unfold maxLen;omega) (by omega) (by first | exact bel1.size | exact bel2.size) ?_));(intro v1 w1 o1 g1 l1);(have B1:Below wX.heap.size wX w1:=Below.grown (by first | exact bel1 | exact bel2) g1 (by first | exact bel1.size | exact bel2.size) (fun q hq=>(by have hq2:=ξo hq;rw[←hq2];first | exact ξr _ | exact Nat.le_succ _)));(have NN1:=fun c h1 h2=>g1.block c h1 h2);(have z0:=(HBK.out 0 (by omega) _ B1).trans y0k);(have z1:=(HBK.out 1 (by omega) _ B1).trans y1k);(have z2:=(HBK.out 2 (by omega) _ B1).trans y2k);(have z3:=(HBK.out 3 (by omega) _ B1).trans y3k);(unfold wpList);(refine⟨rfl,?_⟩))
       | ((refine step_of_list rfl ?_);(with_reducible show wpList _ _ _ (⟨some 28,_,_,_,_,_⟩::_) _ _);(go_loud (refine wpList_catG rfl (.tmp 25) (.tmp 27) 33 146 rfl Tryz.underlying33 (.agg #[.int .i64 0,.int .i64 0,.int .i64 0,.int .i64 0]) 4 32 Tryz.infoFib rfl (by decide) wX.heap.size v1 (0+k) _ (by rfl) (by first | exact o1 | exact o1.alloc _) _ 1 _ (fibE f) (by rfl) rfl (fun e=>by cases e) (by first | exact HLN.out _ | exact HLF.out _ _ ((NN1 _ lt2 ne2).trans HL2.out) | exact HLF.out _ _ ((NN1 _ lt3 ne3).trans HL3.out)) HFO.out (by unfold maxLen;omega) (by omega) (by first | exact B1.size | exact size_alloc B1.size) ?_));(intro v2 w2 o2 g2 l2);(have B2:Below wX.heap.size wX w2:=Below.grown (by first | exact B1 | exact B1.alloc B1.size _) g2 (by first | exact B1.size | exact size_alloc B1.size) (fun q hq=>(o1.lt q hq).1));(unfold wpList);(refine⟨rfl,?_⟩))
       | ((refine step_of_list rfl ?_);(with_reducible show wpList _ _ _ (⟨some 32,_,_,_,_,_⟩::_) _ _);(go_loud (refine wpList_catG rfl (.tmp 28) (.tmp 31) 33 146 rfl Tryz.underlying33 (.agg #[.int .i64 0,.int .i64 0,.int .i64 0,.int .i64 0]) 4 32 Tryz.infoFib rfl (by decide) wX.heap.size v2 (0+k+1) _ (by rfl) o2 (some ⟨b,off+k*4,none⟩) (m-k) _ ds (by rfl) HDL.out (fun e=>by cases e) (HDK.out _ B2) HO3.out (by unfold maxLen;omega) (by omega) B2.size ?_));(intro v3 w3 o3 g3 l3);(have B3:Below wX.heap.size wX w3:=Below.grown B2 g3 B2.size (fun q hq=>(o2.lt q hq).1));(unfold wpList);(refine⟨rfl,?_⟩)))
      all_goals
       have O3:=ξh o3
       have HB3:=ξh B3
       clear o3 B3 o1 g1 l1 o2 g2 l2 g3 l3 B1 B2 NN1
       have hlen:(fs.take k++[f]++fs.drop k).length=m+1:=by rw[ξk,ξk,List.length_take,List.length_drop,HM.out];simp;omega
       have HROW:=ξh (show FibRow w3 w.heap.size v3 (fs.take k++[f]++fs.drop k) from by
        have hr:FibRow w3 wX.heap.size v3 (fs.take k++[f]++fs.drop k):=by
         unfold FibRow
         rw[hlen,ξaW,ξaW,HT.out,HD.out,show m+1=0+k+1+(m-k) by omega]
         exact O3.out
        exact⟨hr.1,hr.2.imp id fun⟨g,cap,cur,h1,h2,h3⟩=>⟨g,cap,cur,h1,ξs HXX.size h2,h3⟩⟩)
       have HSM:=ξh (show∀g∈(fs.take k++[f]++fs.drop k),ξV g from fun g hg=>by
        rcases List.mem_append.1 hg with h | h
        · rcases List.mem_append.1 h with h | h
          · exact HS.out g (List.mem_of_mem_take h)
          · rw[List.mem_singleton.1 h];exact HF.out
        · exact HS.out g (List.mem_of_mem_drop h))
       have HLN2:=ξh hlen
       have hne:=HROW.ne (by rw[hlen];omega)
       have HNE:=ξh hne
       clear hlen hne
       obtain⟨a9,c9,n9,rfl⟩:=HROW.slice
       go_wp2
       go_ret
       exact⟨_,rfl,_,HROW.out,HLN2.out,HSM.out,HNE.out,HXX.trans (HB3.mono HXX.size)⟩
    · generalize befF ⟨ya,yb,yl,yr⟩ f=r at *
      have hleI:r≤0:=by simpa using hle
      go_wp2
      clear t0 t1 t2 t3 x0 x1 x2 x3
      refine ξv ?_
      repeat (go_big_quiet_step (first | (go_at_call 171;exact Calls.regrown_of (HK.out _))))
      refine wpQuiet_nil ?_
      rintro _ ⟨⟨dq,osq⟩,rfl⟩
      have HBQ:=ξh (HBR.trans ((ξc wr dq osq).mono HBR.size))
      go_wp2
      go_roundw
      case rel=>exact⟨k+1,by omega,by go_num,HBQ.out⟩
      case measure=>simp[intOf];omega
  · obtain rfl:m=k:=by omega
    have hXX:=HBW.out
    obtain⟨wX,hwX⟩:∃wX,wX=wr:=⟨_,rfl⟩
    subst hwX
    have HXX:=ξh hXX
    have hlX:=ξd _ _ t0
    have s0:=t0
    have s1:=t1
    have s2:=t2
    have s3:=t3
    clear hXX t0 t1 t2 t3
    rcases HAN.out with ⟨rfl,rfl,rfl⟩ | ⟨b,off,rfl⟩
    · have j0:=rg s0
      have j1:=rg s1
      have j2:=rg s2
      have j3:=rg s3
      go_wp2
      refine ξv ?_
      repeat (go_big_quiet_step (fail))
      refine wpQuiet_nil ?_
      rintro _ ⟨⟨dq,osq⟩,rfl⟩
      have hbX':=ξc wX dq osq
      have HXX:=ξh (HXX.trans (hbX'.mono HXX.size))
      have s0:=j0 dq osq
      have s1:=j1 dq osq
      have s2:=j2 dq osq
      have s3:=j3 dq osq
      generalize grow (redrawn wX dq) osq=wX at *
      have hlX:=ξd _ _ s0
      clear j0 j1 j2 j3 hbX'
      go_wp2
      have HFE:=ξh (show fs=[] from List.eq_nil_of_length_eq_zero HM.out)
      have i6:¬(0:Int)<(0:Int):=by omega
      have hbx:∀j,j<4→ ∀W:World,Below wX.heap.size wX W→W.cell? ⟨w.heap.size,j,none⟩=wX.cell? ⟨w.heap.size,j,none⟩:=fun j _ W hW=>hW.cell (p:=⟨w.heap.size,j,none⟩) hlX
      have y0a:=(hbx 0 (by omega) wX.drew (ξb _ _).drew).trans s0
      have y0b:=(hbx 0 (by omega) (wX.drew.alloc (.cells #[] 146)) bel1).trans s0
      have y1a:=(hbx 1 (by omega) wX.drew (ξb _ _).drew).trans s1
      have y1b:=(hbx 1 (by omega) (wX.drew.alloc (.cells #[] 146)) bel1).trans s1
      have y2a:=(hbx 2 (by omega) wX.drew (ξb _ _).drew).trans s2
      have y2b:=(hbx 2 (by omega) (wX.drew.alloc (.cells #[] 146)) bel1).trans s2
      have y3a:=(hbx 3 (by omega) wX.drew (ξb _ _).drew).trans s3
      have y3b:=(hbx 3 (by omega) (wX.drew.alloc (.cells #[] 146)) bel1).trans s3
      have HBK:=ξh hbx
      have y0k:=s0
      have y1k:=s1
      have y2k:=s2
      have y3k:=s3
      have HLN:=ξh (fun(W:World)=>show∀ad,some (⟨W.heap.size,0,none⟩:Addr)=some ad→ ∀j u,(fibE f)[j]?= some u→(W.alloc (.cells #[.int .i64 f.a,.int .i64 f.b,.int .i64 f.l,.int .i64 f.r] 146)).cell? (ad.add j)=some u from fun ad e j u hu=>by cases e;exact World.news_of_block (ξn W _) j u hu)
      have HL2:=ξh (show((wX.drew.alloc (.cells #[] 146)).alloc (.cells #[.int .i64 f.a,.int .i64 f.b,.int .i64 f.l,.int .i64 f.r] 146)).heap[wX.heap.size+1]?= some (.cells #[.int .i64 f.a,.int .i64 f.b,.int .i64 f.l,.int .i64 f.r] 146) from by have:=ξn (wX.drew.alloc (.cells #[] 146)) (.cells #[.int .i64 f.a,.int .i64 f.b,.int .i64 f.l,.int .i64 f.r] 146);simpa using this)
      have HL3:=ξh (show((wX.drew.alloc (.cells #[.int .i64 f.a,.int .i64 f.b,.int .i64 f.l,.int .i64 f.r] 146)).alloc (.cells #[] 146)).heap[wX.heap.size]?= some (.cells #[.int .i64 f.a,.int .i64 f.b,.int .i64 f.l,.int .i64 f.r] 146) from(heap_alloc_old _ _ (by simp)).trans (ξn wX.drew (.cells #[.int .i64 f.a,.int .i64 f.b,.int .i64 f.l,.int .i64 f.r] 146)))
      have HLF:=ξh (fun(W:World) (B:Nat) (hB:W.heap[B]?= some (.cells #[.int .i64 f.a,.int .i64 f.b,.int .i64 f.l,.int .i64 f.r] 146))=>show∀ad,some (⟨B,0,none⟩:Addr)=some ad→ ∀j u,(fibE f)[j]?= some u→W.cell? (ad.add j)=some u from fun ad e j u hu=>by cases e;exact World.news_of_block hB j u hu)
      have HFO:=ξh (show∀u∈fibE f,u.oneCell'=true from fun u hu=>by simp[fibE] at hu;rcases hu with rfl | rfl | rfl | rfl <;> rfl)
      clear HA hbx s0 s1 s2 s3
      go_wp2
      go_region_law (first
       | ((refine step_of_list rfl ?_);(with_reducible show wpList _ _ _ (⟨some 25,_,_,_,_,_⟩::_) _ _);(go_loud (refine wpList_catG rfl (.tmp 21) (.tmp 24) 33 146 rfl Tryz.underlying33 (.agg #[.int .i64 0,.int .i64 0,.int .i64 0,.int .i64 0]) 4 32 Tryz.infoFib rfl (by decide) wX.heap.size (.slice (some ⟨_,0,none⟩) 0 0) 0 [] (by rfl) (by first | exact row_made1 | exact row_made2 | exact row_made3) none 0 0 [] (by rfl) rfl (fun _=>⟨rfl,rfl⟩) (fun ad e=>by cases e) (fun u hu=>by cases hu) (by unfold maxLen;omega) (by omega) (by first | exact bel1.size | exact bel2.size) ?_));(intro v1 w1 o1 g1 l1);(have B1:Below wX.heap.size wX w1:=Below.grown (by first | exact bel1 | exact bel2) g1 (by first | exact bel1.size | exact bel2.size) (fun q hq=>(by have hq2:=ξo hq;rw[←hq2];first | exact ξr _ | exact Nat.le_succ _)));(have NN1:=fun c h1 h2=>g1.block c h1 h2);(have z0:=(HBK.out 0 (by omega) _ B1).trans y0k);(have z1:=(HBK.out 1 (by omega) _ B1).trans y1k);(have z2:=(HBK.out 2 (by omega) _ B1).trans y2k);(have z3:=(HBK.out 3 (by omega) _ B1).trans y3k);(unfold wpList);(refine⟨rfl,?_⟩))
       | ((refine step_of_list rfl ?_);(with_reducible show wpList _ _ _ (⟨some 28,_,_,_,_,_⟩::_) _ _);(go_loud (refine wpList_catG rfl (.tmp 25) (.tmp 27) 33 146 rfl Tryz.underlying33 (.agg #[.int .i64 0,.int .i64 0,.int .i64 0,.int .i64 0]) 4 32 Tryz.infoFib rfl (by decide) wX.heap.size v1 (0+0) _ (by rfl) (by first | exact o1 | exact o1.alloc _) _ 1 _ (fibE f) (by rfl) rfl (fun e=>by cases e) (by first | exact HLN.out _ | exact HLF.out _ _ ((NN1 _ lt2 ne2).trans HL2.out) | exact HLF.out _ _ ((NN1 _ lt3 ne3).trans HL3.out)) HFO.out (by unfold maxLen;omega) (by omega) (by first | exact B1.size | exact size_alloc B1.size) ?_));(intro v2 w2 o2 g2 l2);(have B2:Below wX.heap.size wX w2:=Below.grown (by first | exact B1 | exact B1.alloc B1.size _) g2 (by first | exact B1.size | exact size_alloc B1.size) (fun q hq=>(o1.lt q hq).1));(unfold wpList);(refine⟨rfl,?_⟩))
       | ((refine step_of_list rfl ?_);(with_reducible show wpList _ _ _ (⟨some 32,_,_,_,_,_⟩::_) _ _);(go_loud (refine wpList_catG rfl (.tmp 28) (.tmp 31) 33 146 rfl Tryz.underlying33 (.agg #[.int .i64 0,.int .i64 0,.int .i64 0,.int .i64 0]) 4 32 Tryz.infoFib rfl (by decide) wX.heap.size v2 (0+0+1) _ (by rfl) o2 none 0 0 [] (by rfl) rfl (fun _=>⟨rfl,rfl⟩) (fun ad e=>by cases e) (fun u hu=>by cases hu) (by unfold maxLen;omega) (by omega) B2.size ?_));(intro v3 w3 o3 g3 l3);(have B3:Below wX.heap.size wX w3:=Below.grown B2 g3 B2.size (fun q hq=>(o2.lt q hq).1));(unfold wpList);(refine⟨rfl,?_⟩)))
      all_goals
       have O3:=ξh o3
       have HB3:=ξh B3
       clear o3 B3 o1 g1 l1 o2 g2 l2 g3 l3 B1 B2 NN1
       have hlen:([f]).length=0+1:=rfl
       have HROW:=ξh (show FibRow w3 w.heap.size v3 ([f]) from by
        have hr:FibRow w3 wX.heap.size v3 ([f]):=by
         unfold FibRow
         exact O3.out
        exact⟨hr.1,hr.2.imp id fun⟨g,cap,cur,h1,h2,h3⟩=>⟨g,cap,cur,h1,ξs HXX.size h2,h3⟩⟩)
       have HSM:=ξh (show∀g∈([f]),ξV g from fun g hg=>by rw[List.mem_singleton.1 hg];exact HF.out)
       have HLN2:=ξh hlen
       have hne:=HROW.ne (by rw[hlen];omega)
       have HNE:=ξh hne
       clear hlen hne
       obtain⟨a9,c9,n9,rfl⟩:=HROW.slice
       go_wp2
       go_ret
       exact⟨_,rfl,_,HROW.out,HLN2.out,HSM.out,HNE.out,HXX.trans (HB3.mono HXX.size)⟩
    · by_cases hcm:cap=m
      · have hmI:¬(m:Int)<(m:Int):=by omega
        have j0:=rg s0
        have j1:=rg s1
        have j2:=rg s2
        have j3:=rg s3
        obtain⟨hbs,HCSS⟩:b<w.heap.size∧Hid (∀i,i<m→ ∀r u,(fibE (fs[i]?.getD nilB))[r]?= some u→w.cell? ⟨b,off+i*4+r,none⟩=some u):=HABS.out b off rfl
        go_wp2
        refine ξv ?_
        repeat (go_big_quiet_step (fail))
        refine wpQuiet_nil ?_
        rintro _ ⟨⟨dq,osq⟩,rfl⟩
        have hbX':=ξc wX dq osq
        have HXX:=ξh (HXX.trans (hbX'.mono HXX.size))
        have s0:=j0 dq osq
        have s1:=j1 dq osq
        have s2:=j2 dq osq
        have s3:=j3 dq osq
        generalize grow (redrawn wX dq) osq=wX at *
        have hlX:=ξd _ _ s0
        have hbX:b<wX.heap.size:=ξq hbs HXX.size
        have HCX:=ξh (show∀j u,(fbs fs)[j]?= some u→wX.cell? ⟨b,off+j,none⟩=some u from fbs_cell (fun i hi r u hu=>(HXX.cell (p:=⟨b,off+i*4+r,none⟩) hbs).trans (HCSS.out i hi r u hu)) HM.out)
        clear j0 j1 j2 j3 hbX'
        go_wp2
        have HTL:=ξh (show(fbs (fs.take m)).length=m*4 by rw[fbs_len,List.length_take,HM.out];congr 1;omega)
        have HDL:=ξh (show(fbs (fs.drop m)).length=(m-m)*4 by rw[fbs_len,List.length_drop,HM.out])
        have HTK:=ξh (fun(W:World) (hW:Below wX.heap.size wX W)=>show∀ad,some (⟨b,off,none⟩:Addr)=some ad→ ∀j u,(fbs (fs.take m))[j]?= some u→W.cell? (ad.add j)=some u from fun ad e j u hu=>by
         cases e
         rw[addr_add]
         exact(hW.cell hbX).trans (HCX.out j u (take_get (by rw[←fbs_take];exact hu))))
        have HDK:=ξh (fun(W:World) (hW:Below wX.heap.size wX W)=>show∀ad,some (⟨b,off+m*4,none⟩:Addr)=some ad→ ∀j u,(fbs (fs.drop m))[j]?= some u→W.cell? (ad.add j)=some u from fun ad e j u hu=>by
         cases e
         rw[addr_add]
         rw[fbs_drop,List.getElem?_drop] at hu
         exact(hW.cell hbX).trans (by rw[Nat.add_assoc];exact HCX.out _ u hu))
        have HO1:=ξh (@fbs_one (fs.take m))
        have HO3:=ξh (@fbs_one (fs.drop m))
        have i1:(0:Int)≤(m:Int):=by omega
        have i5:¬m<m:=by omega
        have i6:¬(m:Int)<(m:Int):=by omega
        have hbx:∀j,j<4→ ∀W:World,Below wX.heap.size wX W→W.cell? ⟨w.heap.size,j,none⟩=wX.cell? ⟨w.heap.size,j,none⟩:=fun j _ W hW=>hW.cell (p:=⟨w.heap.size,j,none⟩) hlX
        have y0a:=(hbx 0 (by omega) wX.drew (ξb _ _).drew).trans s0
        have y0b:=(hbx 0 (by omega) (wX.drew.alloc (.cells #[] 146)) bel1).trans s0
        have y1a:=(hbx 1 (by omega) wX.drew (ξb _ _).drew).trans s1
        have y1b:=(hbx 1 (by omega) (wX.drew.alloc (.cells #[] 146)) bel1).trans s1
        have y2a:=(hbx 2 (by omega) wX.drew (ξb _ _).drew).trans s2
        have y2b:=(hbx 2 (by omega) (wX.drew.alloc (.cells #[] 146)) bel1).trans s2
        have y3a:=(hbx 3 (by omega) wX.drew (ξb _ _).drew).trans s3
        have y3b:=(hbx 3 (by omega) (wX.drew.alloc (.cells #[] 146)) bel1).trans s3
        have HBK:=ξh hbx
        have y0k:=s0
        have y1k:=s1
        have y2k:=s2
        have y3k:=s3
        have HLN:=ξh (fun(W:World)=>show∀ad,some (⟨W.heap.size,0,none⟩:Addr)=some ad→ ∀j u,(fibE f)[j]?= some u→(W.alloc (.cells #[.int .i64 f.a,.int .i64 f.b,.int .i64 f.l,.int .i64 f.r] 146)).cell? (ad.add j)=some u from fun ad e j u hu=>by cases e;exact World.news_of_block (ξn W _) j u hu)
        have HL2:=ξh (show((wX.drew.alloc (.cells #[] 146)).alloc (.cells #[.int .i64 f.a,.int .i64 f.b,.int .i64 f.l,.int .i64 f.r] 146)).heap[wX.heap.size+1]?= some (.cells #[.int .i64 f.a,.int .i64 f.b,.int .i64 f.l,.int .i64 f.r] 146) from by have:=ξn (wX.drew.alloc (.cells #[] 146)) (.cells #[.int .i64 f.a,.int .i64 f.b,.int .i64 f.l,.int .i64 f.r] 146);simpa using this)
        have HL3:=ξh (show((wX.drew.alloc (.cells #[.int .i64 f.a,.int .i64 f.b,.int .i64 f.l,.int .i64 f.r] 146)).alloc (.cells #[] 146)).heap[wX.heap.size]?= some (.cells #[.int .i64 f.a,.int .i64 f.b,.int .i64 f.l,.int .i64 f.r] 146) from(heap_alloc_old _ _ (by simp)).trans (ξn wX.drew (.cells #[.int .i64 f.a,.int .i64 f.b,.int .i64 f.l,.int .i64 f.r] 146)))
        have HLF:=ξh (fun(W:World) (B:Nat) (hB:W.heap[B]?= some (.cells #[.int .i64 f.a,.int .i64 f.b,.int .i64 f.l,.int .i64 f.r] 146))=>show∀ad,some (⟨B,0,none⟩:Addr)=some ad→ ∀j u,(fibE f)[j]?= some u→W.cell? (ad.add j)=some u from fun ad e j u hu=>by cases e;exact World.news_of_block hB j u hu)
        have HFO:=ξh (show∀u∈fibE f,u.oneCell'=true from fun u hu=>by simp[fibE] at hu;rcases hu with rfl | rfl | rfl | rfl <;> rfl)
        obtain rfl:m=cap:=hcm.symm
        clear HA hbx s0 s1 s2 s3 HCX
        generalize hT:fbs (fs.take m)=ts at *
        generalize hD:fbs (fs.drop m)=ds at *
        have HT:=ξh hT
        have HD:=ξh hD
        clear hT hD
        go_wp2
        go_region_law (first
         | ((refine step_of_list rfl ?_);(with_reducible show wpList _ _ _ (⟨some 25,_,_,_,_,_⟩::_) _ _);(go_loud (refine wpList_catG rfl (.tmp 21) (.tmp 24) 33 146 rfl Tryz.underlying33 (.agg #[.int .i64 0,.int .i64 0,.int .i64 0,.int .i64 0]) 4 32 Tryz.infoFib rfl (by decide) wX.heap.size (.slice (some ⟨_,0,none⟩) 0 0) 0 [] (by rfl) (by first | exact row_made1 | exact row_made2 | exact row_made3) (some ⟨b,off,none⟩) m _ ts (by rfl) HTL.out (fun e=>by cases e) (HTK.out _ (by first | exact bel1 | exact bel2)) HO1.out (by unfold maxLen;omega) (by omega) (by first | exact bel1.size | exact bel2.size) ?_));(intro v1 w1 o1 g1 l1);(have B1:Below wX.heap.size wX w1:=Below.grown (by first | exact bel1 | exact bel2) g1 (by first | exact bel1.size | exact bel2.size) (fun q hq=>(by have hq2:=ξo hq;rw[←hq2];first | exact ξr _ | exact Nat.le_succ _)));(have NN1:=fun c h1 h2=>g1.block c h1 h2);(have z0:=(HBK.out 0 (by omega) _ B1).trans y0k);(have z1:=(HBK.out 1 (by omega) _ B1).trans y1k);(have z2:=(HBK.out 2 (by omega) _ B1).trans y2k);(have z3:=(HBK.out 3 (by omega) _ B1).trans y3k);(unfold wpList);(refine⟨rfl,?_⟩))
         | ((refine step_of_list rfl ?_);(with_reducible show wpList _ _ _ (⟨some 28,_,_,_,_,_⟩::_) _ _);(go_loud (refine wpList_catG rfl (.tmp 25) (.tmp 27) 33 146 rfl Tryz.underlying33 (.agg #[.int .i64 0,.int .i64 0,.int .i64 0,.int .i64 0]) 4 32 Tryz.infoFib rfl (by decide) wX.heap.size v1 (0+m) _ (by rfl) (by first | exact o1 | exact o1.alloc _) _ 1 _ (fibE f) (by rfl) rfl (fun e=>by cases e) (by first | exact HLN.out _ | exact HLF.out _ _ ((NN1 _ lt2 ne2).trans HL2.out) | exact HLF.out _ _ ((NN1 _ lt3 ne3).trans HL3.out)) HFO.out (by unfold maxLen;omega) (by omega) (by first | exact B1.size | exact size_alloc B1.size) ?_));(intro v2 w2 o2 g2 l2);(have B2:Below wX.heap.size wX w2:=Below.grown (by first | exact B1 | exact B1.alloc B1.size _) g2 (by first | exact B1.size | exact size_alloc B1.size) (fun q hq=>(o1.lt q hq).1));(unfold wpList);(refine⟨rfl,?_⟩))
         | ((refine step_of_list rfl ?_);(with_reducible show wpList _ _ _ (⟨some 32,_,_,_,_,_⟩::_) _ _);(go_loud (refine wpList_catG rfl (.tmp 28) (.tmp 31) 33 146 rfl Tryz.underlying33 (.agg #[.int .i64 0,.int .i64 0,.int .i64 0,.int .i64 0]) 4 32 Tryz.infoFib rfl (by decide) wX.heap.size v2 (0+m+1) _ (by rfl) o2 (some ⟨b,off,none⟩) 0 _ [] (by rfl) rfl (fun e=>by cases e) (fun ad e j u hu=>by simp at hu) (fun u hu=>by cases hu) (by unfold maxLen;omega) (by omega) B2.size ?_));(intro v3 w3 o3 g3 l3);(have B3:Below wX.heap.size wX w3:=Below.grown B2 g3 B2.size (fun q hq=>(o2.lt q hq).1));(unfold wpList);(refine⟨rfl,?_⟩)))
        all_goals
         have O3:=ξh o3
         have HB3:=ξh B3
         clear o3 B3 o1 g1 l1 o2 g2 l2 g3 l3 B1 B2 NN1
         have hlen:(fs++[f]).length=m+1:=by rw[ξk,HM.out];rfl
         have HROW:=ξh (show FibRow w3 w.heap.size v3 (fs++[f]) from by
          have hr:FibRow w3 wX.heap.size v3 (fs++[f]):=by
           unfold FibRow
           have e:fbs fs=ts:=by rw[←HT.out,List.take_of_length_le (Nat.le_of_eq HM.out)]
           rw[hlen,ξaW,e,show m+1=0+m+1+0 by omega]
           simpa[fbs] using O3.out
          exact⟨hr.1,hr.2.imp id fun⟨g,cap,cur,h1,h2,h3⟩=>⟨g,cap,cur,h1,ξs HXX.size h2,h3⟩⟩)
         have HSM:=ξh (show∀g∈(fs++[f]),ξV g from fun g hg=>by
          rcases List.mem_append.1 hg with h | h
          · exact HS.out g h
          · rw[List.mem_singleton.1 h];exact HF.out)
         have HLN2:=ξh hlen
         have hne:=HROW.ne (by rw[hlen];omega)
         have HNE:=ξh hne
         clear hlen hne
         obtain⟨a9,c9,n9,rfl⟩:=HROW.slice
         go_wp2
         go_ret
         exact⟨_,rfl,_,HROW.out,HLN2.out,HSM.out,HNE.out,HXX.trans (HB3.mono HXX.size)⟩
      · have hmI:¬(m:Int)<(m:Int):=by omega
        have j0:=rg s0
        have j1:=rg s1
        have j2:=rg s2
        have j3:=rg s3
        obtain⟨hbs,HCSS⟩:b<w.heap.size∧Hid (∀i,i<m→ ∀r u,(fibE (fs[i]?.getD nilB))[r]?= some u→w.cell? ⟨b,off+i*4+r,none⟩=some u):=HABS.out b off rfl
        go_wp2
        refine ξv ?_
        repeat (go_big_quiet_step (fail))
        refine wpQuiet_nil ?_
        rintro _ ⟨⟨dq,osq⟩,rfl⟩
        have hbX':=ξc wX dq osq
        have HXX:=ξh (HXX.trans (hbX'.mono HXX.size))
        have s0:=j0 dq osq
        have s1:=j1 dq osq
        have s2:=j2 dq osq
        have s3:=j3 dq osq
        generalize grow (redrawn wX dq) osq=wX at *
        have hlX:=ξd _ _ s0
        have hbX:b<wX.heap.size:=ξq hbs HXX.size
        have HCX:=ξh (show∀j u,(fbs fs)[j]?= some u→wX.cell? ⟨b,off+j,none⟩=some u from fbs_cell (fun i hi r u hu=>(HXX.cell (p:=⟨b,off+i*4+r,none⟩) hbs).trans (HCSS.out i hi r u hu)) HM.out)
        clear j0 j1 j2 j3 hbX'
        go_wp2
        have HTL:=ξh (show(fbs (fs.take m)).length=m*4 by rw[fbs_len,List.length_take,HM.out];congr 1;omega)
        have HDL:=ξh (show(fbs (fs.drop m)).length=(m-m)*4 by rw[fbs_len,List.length_drop,HM.out])
        have HTK:=ξh (fun(W:World) (hW:Below wX.heap.size wX W)=>show∀ad,some (⟨b,off,none⟩:Addr)=some ad→ ∀j u,(fbs (fs.take m))[j]?= some u→W.cell? (ad.add j)=some u from fun ad e j u hu=>by
         cases e
         rw[addr_add]
         exact(hW.cell hbX).trans (HCX.out j u (take_get (by rw[←fbs_take];exact hu))))
        have HDK:=ξh (fun(W:World) (hW:Below wX.heap.size wX W)=>show∀ad,some (⟨b,off+m*4,none⟩:Addr)=some ad→ ∀j u,(fbs (fs.drop m))[j]?= some u→W.cell? (ad.add j)=some u from fun ad e j u hu=>by
         cases e
         rw[addr_add]
         rw[fbs_drop,List.getElem?_drop] at hu
         exact(hW.cell hbX).trans (by rw[Nat.add_assoc];exact HCX.out _ u hu))
        have HO1:=ξh (@fbs_one (fs.take m))
        have HO3:=ξh (@fbs_one (fs.drop m))
        have i1:(0:Int)≤(m:Int):=by omega
        have i2:(m:Int)≤(cap:Int):=by omega
        have i3:m≤cap:=by omega
        have hck:¬cap-m=0:=by omega
        have hcm2:¬cap=m:=by omega
        have i5:¬m<m:=by omega
        have i6:¬(m:Int)<(m:Int):=by omega
        have hbx:∀j,j<4→ ∀W:World,Below wX.heap.size wX W→W.cell? ⟨w.heap.size,j,none⟩=wX.cell? ⟨w.heap.size,j,none⟩:=fun j _ W hW=>hW.cell (p:=⟨w.heap.size,j,none⟩) hlX
        have y0a:=(hbx 0 (by omega) wX.drew (ξb _ _).drew).trans s0
        have y0b:=(hbx 0 (by omega) (wX.drew.alloc (.cells #[] 146)) bel1).trans s0
        have y1a:=(hbx 1 (by omega) wX.drew (ξb _ _).drew).trans s1
        have y1b:=(hbx 1 (by omega) (wX.drew.alloc (.cells #[] 146)) bel1).trans s1
        have y2a:=(hbx 2 (by omega) wX.drew (ξb _ _).drew).trans s2
        have y2b:=(hbx 2 (by omega) (wX.drew.alloc (.cells #[] 146)) bel1).trans s2
        have y3a:=(hbx 3 (by omega) wX.drew (ξb _ _).drew).trans s3
        have y3b:=(hbx 3 (by omega) (wX.drew.alloc (.cells #[] 146)) bel1).trans s3
        have HBK:=ξh hbx
        have y0k:=s0
        have y1k:=s1
        have y2k:=s2
        have y3k:=s3
        have HLN:=ξh (fun(W:World)=>show∀ad,some (⟨W.heap.size,0,none⟩:Addr)=some ad→ ∀j u,(fibE f)[j]?= some u→(W.alloc (.cells #[.int .i64 f.a,.int .i64 f.b,.int .i64 f.l,.int .i64 f.r] 146)).cell? (ad.add j)=some u from fun ad e j u hu=>by cases e;exact World.news_of_block (ξn W _) j u hu)
        have HL2:=ξh (show((wX.drew.alloc (.cells #[] 146)).alloc (.cells #[.int .i64 f.a,.int .i64 f.b,.int .i64 f.l,.int .i64 f.r] 146)).heap[wX.heap.size+1]?= some (.cells #[.int .i64 f.a,.int .i64 f.b,.int .i64 f.l,.int .i64 f.r] 146) from by have:=ξn (wX.drew.alloc (.cells #[] 146)) (.cells #[.int .i64 f.a,.int .i64 f.b,.int .i64 f.l,.int .i64 f.r] 146);simpa using this)
        have HL3:=ξh (show((wX.drew.alloc (.cells #[.int .i64 f.a,.int .i64 f.b,.int .i64 f.l,.int .i64 f.r] 146)).alloc (.cells #[] 146)).heap[wX.heap.size]?= some (.cells #[.int .i64 f.a,.int .i64 f.b,.int .i64 f.l,.int .i64 f.r] 146) from(heap_alloc_old _ _ (by simp)).trans (ξn wX.drew (.cells #[.int .i64 f.a,.int .i64 f.b,.int .i64 f.l,.int .i64 f.r] 146)))
        have HLF:=ξh (fun(W:World) (B:Nat) (hB:W.heap[B]?= some (.cells #[.int .i64 f.a,.int .i64 f.b,.int .i64 f.l,.int .i64 f.r] 146))=>show∀ad,some (⟨B,0,none⟩:Addr)=some ad→ ∀j u,(fibE f)[j]?= some u→W.cell? (ad.add j)=some u from fun ad e j u hu=>by cases e;exact World.news_of_block hB j u hu)
        have HFO:=ξh (show∀u∈fibE f,u.oneCell'=true from fun u hu=>by simp[fibE] at hu;rcases hu with rfl | rfl | rfl | rfl <;> rfl)
        clear HA hbx s0 s1 s2 s3 HCX
        generalize hT:fbs (fs.take m)=ts at *
        generalize hD:fbs (fs.drop m)=ds at *
        have HT:=ξh hT
        have HD:=ξh hD
        clear hT hD
        go_wp2
        go_region_law (first
         | ((refine step_of_list rfl ?_);(with_reducible show wpList _ _ _ (⟨some 25,_,_,_,_,_⟩::_) _ _);(go_loud (refine wpList_catG rfl (.tmp 21) (.tmp 24) 33 146 rfl Tryz.underlying33 (.agg #[.int .i64 0,.int .i64 0,.int .i64 0,.int .i64 0]) 4 32 Tryz.infoFib rfl (by decide) wX.heap.size (.slice (some ⟨_,0,none⟩) 0 0) 0 [] (by rfl) (by first | exact row_made1 | exact row_made2 | exact row_made3) (some ⟨b,off,none⟩) m _ ts (by rfl) HTL.out (fun e=>by cases e) (HTK.out _ (by first | exact bel1 | exact bel2)) HO1.out (by unfold maxLen;omega) (by omega) (by first | exact bel1.size | exact bel2.size) ?_));(intro v1 w1 o1 g1 l1);(have B1:Below wX.heap.size wX w1:=Below.grown (by first | exact bel1 | exact bel2) g1 (by first | exact bel1.size | exact bel2.size) (fun q hq=>(by have hq2:=ξo hq;rw[←hq2];first | exact ξr _ | exact Nat.le_succ _)));(have NN1:=fun c h1 h2=>g1.block c h1 h2);(have z0:=(HBK.out 0 (by omega) _ B1).trans y0k);(have z1:=(HBK.out 1 (by omega) _ B1).trans y1k);(have z2:=(HBK.out 2 (by omega) _ B1).trans y2k);(have z3:=(HBK.out 3 (by omega) _ B1).trans y3k);(unfold wpList);(refine⟨rfl,?_⟩))
         | ((refine step_of_list rfl ?_);(with_reducible show wpList _ _ _ (⟨some 28,_,_,_,_,_⟩::_) _ _);(go_loud (refine wpList_catG rfl (.tmp 25) (.tmp 27) 33 146 rfl Tryz.underlying33 (.agg #[.int .i64 0,.int .i64 0,.int .i64 0,.int .i64 0]) 4 32 Tryz.infoFib rfl (by decide) wX.heap.size v1 (0+m) _ (by rfl) (by first | exact o1 | exact o1.alloc _) _ 1 _ (fibE f) (by rfl) rfl (fun e=>by cases e) (by first | exact HLN.out _ | exact HLF.out _ _ ((NN1 _ lt2 ne2).trans HL2.out) | exact HLF.out _ _ ((NN1 _ lt3 ne3).trans HL3.out)) HFO.out (by unfold maxLen;omega) (by omega) (by first | exact B1.size | exact size_alloc B1.size) ?_));(intro v2 w2 o2 g2 l2);(have B2:Below wX.heap.size wX w2:=Below.grown (by first | exact B1 | exact B1.alloc B1.size _) g2 (by first | exact B1.size | exact size_alloc B1.size) (fun q hq=>(o1.lt q hq).1));(unfold wpList);(refine⟨rfl,?_⟩))
         | ((refine step_of_list rfl ?_);(with_reducible show wpList _ _ _ (⟨some 32,_,_,_,_,_⟩::_) _ _);(go_loud (refine wpList_catG rfl (.tmp 28) (.tmp 31) 33 146 rfl Tryz.underlying33 (.agg #[.int .i64 0,.int .i64 0,.int .i64 0,.int .i64 0]) 4 32 Tryz.infoFib rfl (by decide) wX.heap.size v2 (0+m+1) _ (by rfl) o2 (some ⟨b,off+m*4,none⟩) 0 _ [] (by rfl) rfl (fun e=>by cases e) (fun ad e j u hu=>by simp at hu) (fun u hu=>by cases hu) (by unfold maxLen;omega) (by omega) B2.size ?_));(intro v3 w3 o3 g3 l3);(have B3:Below wX.heap.size wX w3:=Below.grown B2 g3 B2.size (fun q hq=>(o2.lt q hq).1));(unfold wpList);(refine⟨rfl,?_⟩)))
        all_goals
         have O3:=ξh o3
         have HB3:=ξh B3
         clear o3 B3 o1 g1 l1 o2 g2 l2 g3 l3 B1 B2 NN1
         have hlen:(fs++[f]).length=m+1:=by rw[ξk,HM.out];rfl
         have HROW:=ξh (show FibRow w3 w.heap.size v3 (fs++[f]) from by
          have hr:FibRow w3 wX.heap.size v3 (fs++[f]):=by
           unfold FibRow
           have e:fbs fs=ts:=by rw[←HT.out,List.take_of_length_le (Nat.le_of_eq HM.out)]
           rw[hlen,ξaW,e,show m+1=0+m+1+0 by omega]
           simpa[fbs] using O3.out
          exact⟨hr.1,hr.2.imp id fun⟨g,cap,cur,h1,h2,h3⟩=>⟨g,cap,cur,h1,ξs HXX.size h2,h3⟩⟩)
         have HSM:=ξh (show∀g∈(fs++[f]),ξV g from fun g hg=>by
          rcases List.mem_append.1 hg with h | h
          · exact HS.out g h
          · rw[List.mem_singleton.1 h];exact HF.out)
         have HLN2:=ξh hlen
         have hne:=HROW.ne (by rw[hlen];omega)
         have HNE:=ξh hne
         clear hlen hne
         obtain⟨a9,c9,n9,rfl⟩:=HROW.slice
         go_wp2
         go_ret
         exact⟨_,rfl,_,HROW.out,HLN2.out,HSM.out,HNE.out,HXX.trans (HB3.mono HXX.size)⟩
structure Mv (T T':Nat→Prop) (w w':World):Prop where
 os:w'.os=w.os
 tape:w'.tape=w.tape
 output:w'.output=w.output
 size:w.heap.size≤w'.heap.size
 block:∀g,g<w.heap.size→ ¬T g→w'.heap[g]?= w.heap[g]?
 old:∀g,T' g→T g∨w.heap.size≤g
theorem Mv.refl (T:Nat→Prop) (w:World):Mv T T w w:=⟨rfl,rfl,rfl,ξr _,fun _ _ _=>rfl,fun _ h=> .inl h⟩
theorem Mv.trans {T T' T'':Nat→Prop} {a b c:World} (h:Mv T T' a b) (k:Mv T' T'' b c):Mv T T'' a c:=
 ⟨k.os.trans h.os,k.tape.trans h.tape,k.output.trans h.output,ξs h.size k.size,fun g hg hn=>by
  rw[k.block g (ξq hg h.size) (fun e=>(h.old g e).elim hn (fun e=>by omega)),h.block g hg hn],fun g hg=>by
  rcases k.old g hg with e | e
  · exact h.old g e
  · exact .inr (ξs h.size e)⟩
theorem Mv.of_below {T:Nat→Prop} {a b:World} (h:Below a.heap.size a b):Mv T T a b:=⟨h.os,h.tape,h.output,h.size,fun k hk _=>h.block k hk,fun _ h=> .inl h⟩
theorem Mv.below {T T':Nat→Prop} {a b u:World} {N:Nat} (h:Mv T T' a b) (hb:Below N u a) (hN:N≤a.heap.size) (hT:∀g,T g→N≤g):Below N u b:=
 ⟨h.os.trans hb.os,h.tape.trans hb.tape,h.output.trans hb.output,ξs hb.size h.size,fun k hk=>by rw[h.block k (ξq hk hN) (fun e=>by have:=hT k e;omega),hb.block k hk]⟩
theorem ints_get {ys:List Int} {j:Nat} {v:Value} (h:(ints ys)[j]?= some v):j<ys.length∧v= .int .i64 (ys[j]?.getD 0):=by
 have hj:j<ys.length:=by
  have:=(ξl h).1
  simpa using this
 refine⟨hj,?_⟩
 simp only[ints,List.getElem?_map,ξg hj,Option.map_some,Option.some.injEq] at h
 simp[ξg hj,h.symm]
theorem ξaI {w:World} {v:Value} {xs:List Int} (h:Rd w v xs):∃a cap,v= .slice a xs.length cap∧xs.length≤cap∧(a=none→xs.length=0∧cap=0)∧ ∀b,a=some b→ ∀j u,(ints xs)[j]?= some u→w.cell? (b.add j)=some u:=by
 rcases h with ⟨rfl,rfl⟩ | ⟨b,off,cap,rfl,h1,h2,h3,h4⟩
 · exact⟨none,0,rfl,by simp,by simp,by simp⟩
 · refine⟨_,cap,rfl,h1,by simp,fun b' hb j u hu=> ?_⟩
   simp only[Option.some.injEq] at hb
   subst hb
   obtain⟨hj,rfl⟩:=ints_get hu
   rw[show(⟨b,off,none⟩:Addr).add j=⟨b,off+j,none⟩ by simp[Addr.add]]
   exact h4 j hj
theorem full_opn {w:World} {v:Value} {xs:List Int} (h:Rd w v xs):∃a cap n,Hid (xs.length=n)∧v= .slice a n cap∧n≤cap∧(a=none→n=0∧cap=0):=by
 obtain⟨a,cap,hv,h1,h2,_⟩:=ξaI h
 exact⟨a,cap,xs.length,rfl,hv,h1,h2⟩
theorem Rd.cellsOf {w:World} {a:Option Addr} {n cap:Nat} {xs:List Int} (h:Rd w (.slice a n cap) xs):∀b,a=some b→ ∀j u,(ints xs)[j]?= some u→w.cell? (b.add j)=some u:=by
 obtain⟨a',cap',hv,_,_,h4⟩:=ξaI h
 simp only[Value.slice.injEq] at hv
 obtain⟨rfl,_,_⟩:=hv
 exact h4
end Go.Proofs.YtofcicomhnkocaaGreat
