import Derived.Test.YtofcicomhnkocaaGreatBx06
set_option linter.unusedVariables false
namespace Go.Proofs.YtofcicomhnkocaaGreat
set_option maxHeartbeats 4000000
open Go.RowKit Go.Sort
set_option maxRecDepth 100000
theorem Rd.keptM {w w':World} {v:Value} {xs:List Int} {T T':Nat→Prop} (h:Rd w v xs) (hm:Mv T T' w w') (hT:∀g,v.ownBlock=some g→ ¬T g):Rd w' v xs:=by
 rcases h with h | ⟨b,off,cap,rfl,h1,h2,h3,h4⟩
 · exact .inl h
 · refine .inr ⟨b,off,cap,rfl,h1,h2,ξq h3 hm.size,fun j hj=> ?_⟩
   rw[World.cell?_of_block (w:=w) (hm.block b h3 (hT b rfl))];exact h4 j hj
theorem Rd.lt {w:World} {v:Value} {xs:List Int} (h:Rd w v xs):∀g,v.ownBlock=some g→g<w.heap.size:=fun g hg=>by
 rcases h with ⟨rfl,_⟩ | ⟨b,off,cap,rfl,h1,h2,h3,h4⟩
 · cases hg
 · have:b=g:=by simpa[Value.ownBlock] using hg
   subst this;exact h3
def rcs (st:Int) (ps:List (List Int × Value)):List Value:=ps.flatMap fun p=>[.int .i64 st,p.2]
theorem rcs_app (st:Int) (ps qs:List (List Int × Value)):rcs st (ps++qs)=rcs st ps++rcs st qs:=by unfold rcs;rw[List.flatMap_append]
def TQ (q1:Nat) (v:Value):Nat→Prop:=fun g=>g=q1∨v.ownBlock=some g
structure RbE (w:World) (q0 q1 q2 q3 q4:Nat) (fr tn:Int) (u1 u2:Value):Prop where
 c0:w.cell? ⟨q0,0,none⟩=some (.int .i64 tn)
 c2:w.cell? ⟨q2,0,none⟩=some (.int .i64 fr)
 c3:w.cell? ⟨q3,0,none⟩=some u1
 c5:w.cell? ⟨q3,1,none⟩=some u2
 c4:w.cell? ⟨q4,0,none⟩=some (.func (.func 238) #[] #[ptr q0,ptr q1,ptr q2,ptr q3,ptr q4])
structure RbS (w:World) (base q0 q1 q2 q3 q4:Nat) (st:Int) (v:Value) (ps:List (List Int × Value)):Prop where
 box:w.heap[q1]?= some (.cells #[v] 176 (0,0))
 row:w.ownsRow base 82 2 v ps.length (rcs st ps)
 els:∀p∈ps,Rd w p.2 p.1∧ ∀g,p.2.ownBlock=some g→ ¬TQ q1 v g
 vq:∀g,v.ownBlock=some g→g≠q0∧g≠q1∧g≠q2∧g≠q3∧g≠q4
 some_:v.ownBlock≠none
theorem RbE.mv {w w':World} {q0 q1 q2 q3 q4:Nat} {fr tn:Int} {u1 u2 v:Value} {T':Nat→Prop} (h:RbE w q0 q1 q2 q3 q4 fr tn u1 u2) (hm:Mv (TQ q1 v) T' w w') (hv:∀g,v.ownBlock=some g→g≠q0∧g≠q1∧g≠q2∧g≠q3∧g≠q4) (hd:q0≠q1∧q2≠q1∧q3≠q1∧q4≠q1):
 RbE w' q0 q1 q2 q3 q4 fr tn u1 u2:=by
 have key:∀(q j:Nat) (u:Value),q≠q1→(∀g,v.ownBlock=some g→g≠q)→w.cell? ⟨q,j,none⟩=some u→w'.cell? ⟨q,j,none⟩=some u:=fun q j u h1 h2 hc=>by
  rw[World.cell?_of_block (w:=w) (hm.block q (ξd _ _ hc) (fun e=>e.elim h1 (fun e=>h2 q e rfl)))];exact hc
 exact⟨key _ _ _ hd.1 (fun g e=>(hv g e).1) h.c0,key _ _ _ hd.2.1 (fun g e=>(hv g e).2.2.1) h.c2,key _ _ _ hd.2.2.1 (fun g e=>(hv g e).2.2.2.1) h.c3,key _ _ _ hd.2.2.1 (fun g e=>(hv g e).2.2.2.1) h.c5,key _ _ _ hd.2.2.2 (fun g e=>(hv g e).2.2.2.2) h.c4⟩
theorem RbE.below {w w':World} {q0 q1 q2 q3 q4:Nat} {fr tn:Int} {u1 u2:Value} (h:RbE w q0 q1 q2 q3 q4 fr tn u1 u2) (hb:Below w.heap.size w w'):RbE w' q0 q1 q2 q3 q4 fr tn u1 u2:=by
 have key:∀(q j:Nat) (u:Value),w.cell? ⟨q,j,none⟩=some u→w'.cell? ⟨q,j,none⟩=some u:=fun q j u hc=>by
  rw[hb.cell (p:=⟨q,j,none⟩) (ξd _ _ hc)];exact hc
 exact⟨key _ _ _ h.c0,key _ _ _ h.c2,key _ _ _ h.c3,key _ _ _ h.c5,key _ _ _ h.c4⟩
theorem ξN {w w':World} {base n m:Nat} {T:TypeId} {v:Value} {us:List Value} (h:w.ownsRow base T m v n us) (hb:Below w.heap.size w w'):w'.ownsRow base T m v n us:=
 ⟨h.1,h.2.imp id fun⟨g,cap,cur,k1,k2,k3,k4⟩=>⟨g,cap,cur,k1,k2,by rw[hb.block g (ξa k3).1];exact k3,k4⟩⟩
theorem RbS.below {w w':World} {base q0 q1 q2 q3 q4:Nat} {st:Int} {v:Value} {ps:List (List Int × Value)} (h:RbS w base q0 q1 q2 q3 q4 st v ps) (hb:Below w.heap.size w w'):RbS w' base q0 q1 q2 q3 q4 st v ps:=
 ⟨by rw[hb.block q1 (ξa h.box).1];exact h.box,ξN h.row hb,fun p hp=>⟨(h.els p hp).1.belowAll hb,(h.els p hp).2⟩,h.vq,h.some_⟩
theorem RbS.push {w W2 W3:World} {base q0 q1 q2 q3 q4 lo:Nat} {st:Int} {v v' vc:Value} {ps:List (List Int × Value)} {fb:List Int} (h:RbS w base q0 q1 q2 q3 q4 st v ps) (hq:q0<w.heap.size∧q2<w.heap.size∧q3<w.heap.size∧q4<w.heap.size) (hb:Below w.heap.size w W2)
 (hr:W3.ownsRow base 82 2 v' (ps.length+1) (rcs st ps++[.int .i64 st,vc])) (hg:W2.grownBy W3 v.ownBlock) (hl:v'.ownBlock=v.ownBlock∨v'.ownBlock=some W2.heap.size) (hc:Own W2 lo vc fb) (hlo:w.heap.size≤lo):
 RbS (W3.setCell ⟨q1,0,none⟩ v') base q0 q1 q2 q3 q4 st v' (ps++[(fb,vc)])∧Mv (TQ q1 v) (TQ q1 v') w (W3.setCell ⟨q1,0,none⟩ v'):=by
 have hq1:q1<w.heap.size:=(ξa h.box).1
 have hv1:∀g,v.ownBlock=some g→g<w.heap.size:=fun g e=>(h.row.lt g e).2
 have hs2:=hb.size
 have hs3:=hg.size
 have hne:∀g,v'.ownBlock=some g→g≠q0∧g≠q1∧g≠q2∧g≠q3∧g≠q4:=fun g e=>by
  rcases hl with hl | hl
  · exact h.vq g (hl▸e)
  · rw[hl] at e
    have:=ξo e
    omega
 have hset:∀g,g≠q1→(W3.setCell ⟨q1,0,none⟩ v').heap[g]?= W3.heap[g]?:=fun g hg=>ξm W3 ⟨q1,0,none⟩ g v' hg
 have hbox3:W3.heap[q1]?= some (.cells #[v] 176 (0,0)):=by
  rw[hg.block q1 (by omega) (fun e=>(h.vq q1 e.symm).2.1 rfl),hb.block q1 hq1];exact h.box
 have hold:∀g,g<w.heap.size→ ¬TQ q1 v g→(W3.setCell ⟨q1,0,none⟩ v').heap[g]?= w.heap[g]?:=fun g h1 h2=>by
  rw[hset g (fun e=>h2 (.inl e)),hg.block g (by omega) (fun e=>h2 (.inr e.symm)),hb.block g h1]
 have hMv:Mv (TQ q1 v) (TQ q1 v') w (W3.setCell ⟨q1,0,none⟩ v'):=by
  refine⟨?_,?_,?_,?_,hold,fun g e=> ?_⟩
  · show W3.os=_;rw[hg.os,hb.os]
  · show W3.tape=_;rw[hg.tape,hb.tape]
  · show W3.output=_;rw[hg.output,hb.output]
  · show _≤(W3.setCell ⟨q1,0,none⟩ v').heap.size
    simp;omega
  · rcases e with e | e
    · exact .inl (.inl e)
    · rcases hl with hl | hl
      · exact .inl (.inr (hl▸e))
      · rw[hl] at e
        have:=ξo e
        right;omega
 have hlen:(ps++[(fb,vc)]).length=ps.length+1:=by simp
 refine⟨⟨?_,?_,fun p hp=> ?_,hne,(by rcases hl with hl | hl <;> rw[hl];exact h.some_;simp)⟩,hMv⟩
 · have:=ξe W3 q1 0 #[v] 176 v' hbox3
   simpa using this
 · rw[hlen,rcs_app]
   refine⟨hr.1,hr.2.imp id fun⟨g,cap,cur,k1,k2,k3,k4⟩=>⟨g,cap,cur,k1,k2,?_,k4⟩⟩
   rw[hset g (hne g (by rw[k1];rfl)).2.1];exact k3
 · rcases List.mem_append.1 hp with hp | hp
   · obtain⟨e1,e2⟩:=h.els p hp
     refine⟨e1.keptM hMv e2,fun g e3 e4=> ?_⟩
     rcases hMv.old g e4 with e5 | e5
     · exact e2 g e3 e5
     · have:=e1.lt g e3;omega
   · obtain rfl:=List.mem_singleton.1 hp
     have hcl:∀g,vc.ownBlock=some g→w.heap.size≤g∧g<W2.heap.size:=fun g e=>by
      have:=hc.lt g e;omega
     have hm2:Mv (TQ q1 v) (TQ q1 v') W2 (W3.setCell ⟨q1,0,none⟩ v'):=⟨hg.os,hg.tape,hg.output,(by simp;omega),fun g h1 h2=>by rw[hset g (fun e=>h2 (.inl e)),hg.block g h1 (fun e=>h2 (.inr e.symm))],fun g e=>by
      rcases e with e | e
      · exact .inl (.inl e)
      · rcases hl with hl | hl
        · exact .inl (.inr (hl▸e))
        · rw[hl] at e
          have:=ξo e
          right;omega⟩
     refine⟨hc.rd.keptM hm2 (fun g e3 e4=> ?_),fun g e3 e4=> ?_⟩
     · have h1:=hcl g e3
       rcases e4 with e4 | e4
       · omega
       · have:=hv1 g e4;omega
     · have h1:=hcl g e3
       rcases e4 with e4 | e4
       · omega
       · rcases hl with hl | hl
         · rw[hl] at e4;have:=hv1 g e4;omega
         · rw[hl] at e4;have:=ξo e4;omega
theorem rowf {w:World} {base n:Nat} {T:TypeId} {v:Value} {us:List Value} {m:Nat} (h:w.ownsRow base T m v n us):∃a c,v= .slice a n c:=by
 rcases h.2 with ⟨rfl,rfl⟩ | ⟨g,cap,cur,rfl,_⟩
 · exact⟨none,0,rfl⟩
 · exact⟨_,cap,rfl⟩
theorem ξbf {w:World} {us:List Value} {T:TypeId} :∀ad:Addr,(some ⟨w.heap.size,0,none⟩:Option Addr)=some ad→ ∀j u,us[j]?= some u→(w.alloc (.cells us.toArray T)).cell? (ad.add j)=some u:=fun ad e j u hu=>by
 cases e
 rw[addr_add,cell_of_row _ _ _ _ _ _ (ξn w _),Nat.zero_add]
 simpa using hu
theorem ξag {w:World} {base:Nat} {v:Value} {xs:List Int} (h:Own w base v xs):∃a m c,v= .slice a m c:=by
 obtain⟨a,c,m,-,e,-⟩:=h.rd.opn
 exact⟨a,m,c,e⟩
theorem Tryz.infoRou:(Tryz.prog.info? 82).map (fun i=>(i.zero,i.size,i.bytes))=some (some (.agg #[.int .i64 0,.slice none 0 0]),2,32):=by kernel_rfl
theorem extR_bd {n:Net} (hf:n.fs.length≤14) {tn:Int} :∀(f:Nat) (t:Int) (seen fb:List Int),(extR n tn f t seen fb).length≤14 ^ f
 | 0,_,_,_=>by simp[extR]
 | f+1,t,seen,fb=>by
   have h1:1≤14 ^ (f+1):=Nat.pow_le_pow_right (n:=14) (by omega) (ξu (f+1))
   rw[extR]
   split
   · simpa using h1
   · rw[List.length_flatMap]
     have key:∀(l:List Nat),(List.map (fun i=>(if 0≤othE (fbA n i) t∧othE (fbA n i) t ∉ seen then extR n tn f (othE (fbA n i) t) (seen++[othE (fbA n i) t]) (fb++[(i:Int)]) else[]).length) l).sum≤l.length*14 ^ f:=by
      intro l
      induction l with
      | nil=>simp
      | cons i l ih=>
        rw[List.map_cons,List.sum_cons,List.length_cons,Nat.add_mul,Nat.one_mul]
        have:(if 0≤othE (fbA n i) t∧othE (fbA n i) t ∉ seen then extR n tn f (othE (fbA n i) t) (seen++[othE (fbA n i) t]) (fb++[(i:Int)]) else[]).length≤14 ^ f:=by
         split
         · exact extR_bd hf f _ _ _
         · simp
        omega
     refine ξs (key _) ?_
     rw[List.length_range,Nat.pow_succ,Nat.mul_comm (14 ^ f)]
     exact Nat.mul_le_mul_right _ hf
theorem ξbL {P:Program} (w:World) (dT sT ty elem:TypeId) (g o dLen dCap:Nat) (a:Addr) (sLen sCap:Nat) (cur:Array Value) (t:TypeId) (cs:List Value) (k:Nat)
 (hu:P.underlying dT=some (.slice elem)) (hs:(P.info? elem).map (·.size)=some k)
 (hg:w.heap[g]?= some (.cells cur t (0,0))) (hn:cs.length=Nat.min sLen dLen*k)
 (hsrc:∀j v,cs[j]?= some v→w.cell? (a.add j)=some v) (hfit:o+cs.length≤cur.size) (h1:∀v∈cs,v.oneCell'=true):
 (Builtin.copy_ #[dT,sT] ty #[.slice (some ⟨g,o,none⟩) dLen dCap,.slice (some a) sLen sCap]).run P w =
   .ok (goInt (Nat.min sLen dLen)) (w.setRow g (cur.toList.take o++cs++cur.toList.drop (o+cs.length)).toArray):=by
 have hl:=run_loadCells_list (P:=P) w a cs hsrc
 have hst:=run_storeCells_at P g o t cs 0 cur w hg (by simpa using hfit) h1
 cases hq:P.info? elem with
 | none=>simp[hq] at hs
 | some i=>
   have hi:i.size=k:=by simpa[hq] using hs
   simp[Builtin.copy_,run_underlying hu,Builtin.lenOf,Builtin.firstCells,sizeOf,typeInfo,hq,hi,←hn,hl,hst]
theorem info5:(Tryz.prog.info? 86).map (·.size)=some 5:=by kernel_rfl
theorem Tryz.infoLgtI:(Tryz.prog.info? 86).map (fun i=>(i.zero,i.size,i.bytes))=some (some (.agg #[.int .i64 0,.int .i64 0,.slice none 0 0,.int .i64 0,.int .i64 0]),5,56):=by kernel_rfl
def insC (us news:List Value) (i:Nat):List Value:=us.take (i*5)++(news++us.drop (i*5))
def InsQ (w:World) (base n:Nat) (v:Value) (us news:List Value) (i:Nat) (e:Ending) (w':World):Prop:=∃v',e= .returned v'∧w'.ownsRow base 86 5 v' (n+1) (insC us news i)∧w.grownBy w' v.ownBlock∧(v'.ownBlock=v.ownBlock∨ ∃g,v'.ownBlock=some g∧w.heap.size≤g)
theorem insertEnd_any (w:World) (base n vb:Nat) (v:Value) (us news:List Value) (h:w.ownsRow base 86 5 v n us) (hb:base≤w.heap.size) (hn:n≤1000) (hnl:news.length=5) (hc:∀j u,news[j]?= some u→w.cell? ⟨vb,0+j,none⟩=some u) (h1:∀u∈news,u.oneCell'=true):
 Calls Tryz.prog 161 #[v,.int .i64 n,.slice (some ⟨vb,0,none⟩) 1 1] w (InsQ w base n v us news n):=by
 obtain⟨NP,hNP⟩:∃NP,NP=InsQ w base n v us news n:=⟨_,rfl⟩
 rw[←hNP]
 have HC:=ξh (show∀ad:Addr,(some ⟨vb,0,none⟩:Option Addr)=some ad→ ∀j u,news[j]?= some u→w.cell? (ad.add j)=some u from fun ad e j u hu=>by cases e;rw[addr_add];exact hc j u hu)
 have hl:us.length=n*5:=h.1
 have HE:=ξh (show us++news=insC us news n by unfold insC;rw[List.take_of_length_le (Nat.le_of_eq hl),List.drop_eq_nil_of_le (Nat.le_of_eq hl),List.append_nil])
 have HNP:=ξh hNP
 have HR:=ξh h
 have HO:=ξh h1
 clear hc hl hNP h1
 rcases h.2 with ⟨rfl,rfl⟩ | ⟨g,c,cur,rfl,q1,q2,q3,q4,q5⟩
 · clear h
   go_enter Tryz.func161,Tryz.ntmps161
   go_wp2_with (at_builtin;refine wpList_catG rfl (.tmp 23) (.tmp 24) 73 86 rfl Tryz.underlying73 (.agg #[.int .i64 0,.int .i64 0,.slice none 0 0,.int .i64 0,.int .i64 0]) 5 56 Tryz.infoLgtI rfl (by decide) base (.slice none 0 0) 0 us (by rfl) HR.out (some ⟨vb,0,none⟩) 1 1 news (by rfl) (by rw[hnl]) (fun e=>by cases e) HC.out HO.out (by unfold maxLen;omega) (by omega) hb ?_;intro v9 w9 o9 g9 l9;have O9:=ξh o9;have G9:=ξh g9;have L9:=ξh l9;obtain⟨a9,c9,rfl⟩:=rowf o9;clear o9 g9 l9)
   rw[HNP.out]
   exact⟨_,rfl,by rw[←HE.out];exact O9.out,G9.out,L9.imp id fun e=>⟨_,e,ξr _⟩⟩
 · clear h q2 q5
   have q4':c≤9223372036854775807:=by unfold maxLen at q4;omega
   have q3I:(n:Int)≤(c:Int):=by omega
   have hn0:(0:Int)≤(n:Int):=by omega
   clear q4
   go_enter Tryz.func161,Tryz.ntmps161
   go_wp2_with (at_builtin;refine wpList_catG rfl (.tmp 23) (.tmp 24) 73 86 rfl Tryz.underlying73 (.agg #[.int .i64 0,.int .i64 0,.slice none 0 0,.int .i64 0,.int .i64 0]) 5 56 Tryz.infoLgtI rfl (by decide) base (.slice (some ⟨g,0,none⟩) n c) n us (by rfl) HR.out (some ⟨vb,0,none⟩) 1 1 news (by rfl) (by rw[hnl]) (fun e=>by cases e) HC.out HO.out (by unfold maxLen;omega) (by omega) hb ?_;intro v9 w9 o9 g9 l9;have O9:=ξh o9;have G9:=ξh g9;have L9:=ξh l9;obtain⟨a9,c9,rfl⟩:=rowf o9;clear o9 g9 l9)
   all_goals
    rw[HNP.out]
    exact⟨_,rfl,by rw[←HE.out];exact O9.out,G9.out,L9.imp id fun e=>⟨_,e,ξr _⟩⟩
theorem ins_cells {cur us news:List Value} {n i c:Nat} (hu:cur.take (n*5)=us) (hc:cur.length=c*5) (hul:us.length=n*5) (hnl:news.length=5) (hi:i<n) (hnc:n+1≤c):
 ((cur.take ((i+1)*5)++us.drop (i*5)++cur.drop ((i+1)*5+(us.drop (i*5)).length)).take (i*5)++news++(cur.take ((i+1)*5)++us.drop (i*5)++cur.drop ((i+1)*5+(us.drop (i*5)).length)).drop (i*5+news.length)).take ((n+1)*5)=insC us news i∧
 (cur.take ((i+1)*5)++us.drop (i*5)++cur.drop ((i+1)*5+(us.drop (i*5)).length)).length=c*5:=by
 have hl1:(cur.take ((i+1)*5)).length=(i+1)*5:=by rw[List.length_take];omega
 have hl2:(us.drop (i*5)).length=(n-i)*5:=by rw[List.length_drop];omega
 refine⟨?_,by rw[ξk,ξk,hl1,hl2,List.length_drop];omega⟩
 have e1:(cur.take ((i+1)*5)++us.drop (i*5)++cur.drop ((i+1)*5+(us.drop (i*5)).length)).take (i*5)=us.take (i*5):=by
  rw[List.append_assoc,List.take_append_of_le_length (by omega),List.take_take,Nat.min_eq_left (by omega),←hu,List.take_take,Nat.min_eq_left (by omega)]
 have e2:(cur.take ((i+1)*5)++us.drop (i*5)++cur.drop ((i+1)*5+(us.drop (i*5)).length)).drop (i*5+news.length)=us.drop (i*5)++cur.drop ((i+1)*5+(us.drop (i*5)).length):=by
  rw[List.append_assoc]
  exact List.drop_left' (by rw[hl1,hnl];omega)
 rw[e1,e2]
 have e3:us.take (i*5)++news++(us.drop (i*5)++cur.drop ((i+1)*5+(us.drop (i*5)).length))=insC us news i++cur.drop ((i+1)*5+(us.drop (i*5)).length):=by unfold insC;simp
 rw[e3]
 refine List.take_left' ?_
 unfold insC
 rw[ξk,ξk,List.length_take,hl2,hnl];omega
theorem step_copyI {P:Program} {ops:Array Oper} {o:Oper} {a:Act} {w:World} {K:Act→World→Prop} {Q:Exit→Act→World→Prop} {E:Prop}
 (hg:o.guard=none) (d x:Operand) (dT sT:TypeId) (hop:o.op=Op.call {callee:=Callee.builtin Builtin.copy,args:=#[d,x],argTypes:=#[dT,sT]})
 (v u:Value) (hd:a.eval d=v) (hx:a.eval x=u) {v':Value} {w':World} (hr:(Builtin.copy_ #[dT,sT] o.type #[v,u]).run P w= .ok v' w') (hK:K (a.put o.dst v') w'):
 if Region.wanted o (yielded ops a.tmps)=true then Oper.wp P o a w K Q else E:=step_copy_runI hg d x dT sT hop v u hd hx hr hK
theorem ξcF (w:World) (base n c i g vb:Nat) (us news:List Value) (cur:Array Value) (hb:base≤g) (hg:w.heap[g]?= some (.cells cur 86 (0,0))) (hcs:cur.size=c*5) (hus:cur.toList.take (n*5)=us) (hul:us.length=n*5) (hi:i<n) (hnc:n+1≤c) (hc63:c≤maxLen) (hn:n≤1000)
 (hnl:news.length=5) (hv:w.heap[vb]?= some (.cells news.toArray 86 (0,0))) (hvb:vb≠g) (h1:∀u∈news,u.oneCell'=true) (h1u:∀u∈us,u.oneCell'=true):
 Calls Tryz.prog 161 #[.slice (some ⟨g,0,none⟩) n c,.int .i64 i,.slice (some ⟨vb,0,none⟩) 1 1] w (InsQ w base n (.slice (some ⟨g,0,none⟩) n c) us news i):=by
 obtain⟨NP,hNP⟩:∃NP,NP=InsQ w base n (.slice (some ⟨g,0,none⟩) n c) us news i:=⟨_,rfl⟩
 rw[←hNP]
 unfold maxLen at hc63
 have hov:∀lb cb,(callFunc 198 #[.slice (some ⟨vb,0,none⟩) 1 1,.slice (some ⟨g,(i+1)*5,none⟩) lb cb]).run Tryz.prog w= .ok (.value (.bool false)) w:=fun lb cb=>by
  rw[run_callFunc_extern Tryz.func198 (by kernel_rfl) (by kernel_rfl) (by kernel_rfl) (e:=Extern.SlicesOverlaps.overlaps #[73,73] #[4]) (by kernel_rfl),
   Lib.run_overlaps_apart w 73 4 86 Tryz.underlying73 5 Tryz.sizeOf86 ⟨vb,0,none⟩ ⟨g,(i+1)*5,none⟩ 1 1 lb cb hvb 86 86 news.toArray.size cur.size (by simp[World.shape?,hv]) (by simp[World.shape?,hg]) (by omega) (by simp only[World.frozen?,hv];rfl) (by simp only[World.frozen?,hv];rfl)]
  rfl
 obtain⟨hX,hXl⟩:=ins_cells (cur:=cur.toList) hus (by simpa using hcs) hul hnl hi hnc
 have hdl:(us.drop (i*5)).length=(n-i)*5:=by rw[List.length_drop];omega
 have hcell:∀j u,us[j]?= some u→w.cell? ⟨g,j,none⟩=some u:=fun j u hj=>by
  rw[cell_of_row _ _ _ _ _ _ hg,←Array.getElem?_toList]
  rw[←hus] at hj
  have hjl:=(ξl hj).1
  rw[List.length_take] at hjl
  rwa [List.getElem?_take_of_lt (by omega)] at hj
 have hcp1:∀ty dc sc,(Builtin.copy_ #[73,73] ty #[.slice (some ⟨g,(i+1)*5,none⟩) (n-i) dc,.slice (some ⟨g,i*5,none⟩) (n+1-i) sc]).run Tryz.prog w.drew= .ok (goInt ((n-i:Nat):Int)) (w.drew.setRow g (cur.toList.take ((i+1)*5)++us.drop (i*5)++cur.toList.drop ((i+1)*5+(us.drop (i*5)).length)).toArray):=fun ty dc sc=>by
  have hmin:Nat.min (n+1-i) (n-i)=n-i:=by simp only[Nat.min_def];split <;> omega
  have:=ξbL (P:=Tryz.prog) w.drew 73 73 ty 86 g ((i+1)*5) (n-i) dc ⟨g,i*5,none⟩ (n+1-i) sc cur 86 (us.drop (i*5)) 5 Tryz.underlying73 info5 hg (by rw[hmin,hdl])
   (fun j v hj=>by rw[addr_add];rw[List.getElem?_drop] at hj;exact hcell _ v hj) (by rw[hdl,hcs];omega) (fun v hv=>h1u v (List.mem_of_mem_drop hv))
  rw[hmin] at this
  exact this
 obtain⟨X1,hX1⟩:∃X1,X1=(cur.toList.take ((i+1)*5)++us.drop (i*5)++cur.toList.drop ((i+1)*5+(us.drop (i*5)).length)):=⟨_,rfl⟩
 rw[←hX1] at hX hXl hcp1
 obtain⟨X2,hX2⟩:∃X2,X2=X1.take (i*5)++news++X1.drop (i*5+news.length):=⟨_,rfl⟩
 rw[←hX2] at hX
 have hX2l:X2.length=c*5:=by rw[hX2];simp only[ξk,List.length_take,List.length_drop];omega
 have hg1:(w.drew.setRow g X1.toArray).heap[g]?= some (.cells X1.toArray 86 (0,0)):=setRow_heap w.drew g cur X1.toArray 86 (0,0) hg
 have hcp2:∀(W:World),W.heap=(w.drew.setRow g X1.toArray).heap→ ∀ty dc,(Builtin.copy_ #[73,73] ty #[.slice (some ⟨g,i*5,none⟩) (n+1-i) dc,.slice (some ⟨vb,0,none⟩) 1 1]).run Tryz.prog W= .ok (goInt 1) (W.setRow g X2.toArray):=fun W hW ty dc=>by
  have hmin:Nat.min 1 (n+1-i)=1:=by simp only[Nat.min_def];split <;> omega
  have:=ξbL (P:=Tryz.prog) W 73 73 ty 86 g (i*5) (n+1-i) dc ⟨vb,0,none⟩ 1 1 X1.toArray 86 news 5 Tryz.underlying73 info5 (by rw[hW];exact hg1) (by rw[hmin,hnl])
   (fun j v hj=>by
     rw[addr_add]
     have hW2:W.heap[vb]?= some (.cells news.toArray 86 (0,0)):=by
      rw[hW,setRow_other w.drew g vb X1.toArray hvb];exact hv
     rw[cell_of_row _ _ _ _ _ _ hW2,Nat.zero_add]
     simpa using hj) (by simp;omega) h1
  rw[hmin] at this
  rw[this,hX2];rfl
 have hpost:∀W:World,W.heap=(w.drew.setRow g X1.toArray).heap→W.os=w.os→W.tape=w.tape→W.output=w.output→InsQ w base n (.slice (some ⟨g,0,none⟩) n c) us news i (.returned (.slice (some ⟨g,0,none⟩) (n+1) c)) (W.setRow g X2.toArray):=fun W hW h2 h3 h4=>by
  have hgW:W.heap[g]?= some (.cells X1.toArray 86 (0,0)):=by rw[hW];exact hg1
  refine⟨_,rfl,⟨?_,.inr ⟨g,c,X2.toArray,rfl,hb,setRow_heap W g _ X2.toArray 86 (0,0) hgW,hnc,by unfold maxLen;omega,by simpa using hX2l,by simpa using hX⟩⟩,⟨h2,h3,h4,?_,fun k hk hne=> ?_⟩,.inl rfl⟩
  · rw[←hX,List.length_take];omega
  · show _≤(W.setRow g X2.toArray).heap.size
    have e1:(W.setRow g X2.toArray).heap.size=W.heap.size:=by simp[World.setRow]
    rw[e1,hW]
    simp[World.setRow]
  · have hkg:k≠g:=fun e=>hne (by rw[e];rfl)
    rw[setRow_other W g k X2.toArray hkg,hW,setRow_other w.drew g k X1.toArray hkg];rfl
 have HPO:=ξh hpost
 have HNP:=ξh hNP
 have hz2:¬((i:Int)=(n:Int)):=by omega
 have hw1:IntKind.i64.wrap ((i:Int)+1)=(i:Int)+1:=by rw[IntKind.wrap_i64];omega
 have hb1:(0:Int)≤(i:Int)+1:=by omega
 have hin:i≤n:=by omega
 have htn:((i:Int)+1).toNat=i+1:=by omega
 have hb2:¬(c=i+1):=by omega
 have hb3:(i:Int)≤(n:Int)+1:=by omega
 have hb4:¬(c=i):=by omega
 have mixed:Tryz.prog.follows .mixedOrders=true:=by kernel_rfl
 clear hX hXl hdl hcell hX1 hX2 hX2l hg1 hpost hNP hus hcs hg hv h1 h1u hul hvb hb
 go_enter Tryz.func161,Tryz.ntmps161
 go_wp2_with (simp only[hov])
 go_region_law_o (refine step_copyI rfl _ _ 73 73 rfl _ _ (by simp[Act.eval,Act.put]) (by simp[Act.eval,Act.put]) (hcp1 _ _ _) ?_)
 all_goals
  go_wp2_with (at_builtin;refine wpList_copy_runI _ rfl _ _ 73 73 rfl _ _ rfl rfl (hcp2 _ rfl _ _) ?_)
  rw[HNP.out]
  exact HPO.out _ rfl rfl rfl rfl
theorem grow_cells {row us news Z:List Value} {n i G:Nat} (hr:row=us.take (i*5)++Z) (hz:Z.length=(G-i)*5) (hul:us.length=n*5) (hnl:news.length=5) (hi:i<n) (hG:n+1≤G):
 (row.take (i*5)++news++row.drop (i*5+news.length)).length=G*5∧
 (((row.take (i*5)++news++row.drop (i*5+news.length)).take ((i+1)*5)++us.drop (i*5)++(row.take (i*5)++news++row.drop (i*5+news.length)).drop ((i+1)*5+(us.drop (i*5)).length)).take ((n+1)*5)=insC us news i∧
  ((row.take (i*5)++news++row.drop (i*5+news.length)).take ((i+1)*5)++us.drop (i*5)++(row.take (i*5)++news++row.drop (i*5+news.length)).drop ((i+1)*5+(us.drop (i*5)).length)).length=G*5):=by
 have hl1:(us.take (i*5)).length=i*5:=by rw[List.length_take];omega
 have hl2:(us.drop (i*5)).length=(n-i)*5:=by rw[List.length_drop];omega
 have hrl:row.length=G*5:=by rw[hr,ξk,hl1,hz];omega
 have e0:row.take (i*5)=us.take (i*5):=by rw[hr];exact List.take_left' hl1
 have hx:(row.take (i*5)++news++row.drop (i*5+news.length)).length=G*5:=by
  rw[ξk,ξk,e0,hl1,List.length_drop,hnl,hrl];omega
 have e1:(row.take (i*5)++news++row.drop (i*5+news.length)).take ((i+1)*5)=us.take (i*5)++news:=by
  rw[e0];exact List.take_left' (by rw[ξk,hl1,hnl];omega)
 refine⟨hx,?_,?_⟩
 · rw[e1]
   have e3:∀R:List Value,us.take (i*5)++news++us.drop (i*5)++R=insC us news i++R:=fun R=>by unfold insC;simp
   rw[e3]
   refine List.take_left' ?_
   unfold insC
   rw[ξk,ξk,hl1,hl2,hnl];omega
 · rw[e1]
   generalize (row.take (i*5)++news++row.drop (i*5+news.length))=X at *
   simp only[ξk,List.length_drop,hl1,hnl]
   omega
theorem insertGrow_any (w:World) (base n c i g vb:Nat) (us news:List Value) (cur:Array Value) (hbs:base≤w.heap.size) (hg:w.heap[g]?= some (.cells cur 86 (0,0))) (hcs:cur.size=c*5) (hus:cur.toList.take (n*5)=us) (hul:us.length=n*5) (hi:i<n) (hnc:n≤c) (hroom:c<n+1) (hn:n≤1000)
 (hnl:news.length=5) (hv:w.heap[vb]?= some (.cells news.toArray 86 (0,0))) (h1:∀u∈news,u.oneCell'=true) (h1u:∀u∈us,u.oneCell'=true):
 Calls Tryz.prog 161 #[.slice (some ⟨g,0,none⟩) n c,.int .i64 i,.slice (some ⟨vb,0,none⟩) 1 1] w (InsQ w base n (.slice (some ⟨g,0,none⟩) n c) us news i):=by
 obtain⟨NP,hNP⟩:∃NP,NP=InsQ w base n (.slice (some ⟨g,0,none⟩) n c) us news i:=⟨_,rfl⟩
 rw[←hNP]
 obtain⟨i0,hi0,hz0,hzs,hzb⟩:=info_parts Tryz.infoLgtI
 have hgl:g<w.heap.size:=(ξa hg).1
 have hvl:vb<w.heap.size:=(ξa hv).1
 have hcell:∀j u,us[j]?= some u→w.cell? ⟨g,j,none⟩=some u:=fun j u hj=>by
  rw[cell_of_row _ _ _ _ _ _ hg,←Array.getElem?_toList]
  rw[←hus] at hj
  have hjl:=(ξl hj).1
  rw[List.length_take] at hjl
  rwa [List.getElem?_take_of_lt (by omega)] at hj
 have hold:(Builtin.firstCells i0.size i (.slice (some ⟨g,0,none⟩) i c)).run Tryz.prog w.drew= .ok (us.take (i*5)).toArray w.drew:=by
  rw[hzs]
  exact run_firstCells_some w.drew 5 i ⟨g,0,none⟩ i c (us.take (i*5)) (by rw[List.length_take];omega) (fun j v hj=>by
   rw[addr_add,Nat.zero_add]
   rw[List.getElem?_take] at hj
   split at hj
   · exact hcell j v hj
   · cases hj)
 have hkk:(n:Int)+1-(i:Int)=((n+1-i:Nat):Int):=by omega
 have hik:i+(n+1-i)=n+1:=by omega
 have hrz:∀ty,(Builtin.append_ #[73,3] ty #[.slice (some ⟨g,0,none⟩) i c,.int .i64 ((n:Int)+1-(i:Int))]).run Tryz.prog w =
  .ok (.slice (some ⟨w.heap.size,0,none⟩) (n+1) (grownCap w (n+1) c 86)) (w.drew.alloc (.cells ((us.take (i*5)).toArray++Builtin.zeroCells (Value.agg #[.int .i64 0,.int .i64 0,.slice none 0 0,.int .i64 0,.int .i64 0]).cells (n+1-i)++Builtin.zeroCells (Value.agg #[.int .i64 0,.int .i64 0,.slice none 0 0,.int .i64 0,.int .i64 0]).cells (grownCap w (n+1) c 86-(n+1))) 86)):=fun ty=>by
  have h:=Lib.run_append_grow_zeros w 73 3 ty 86 i0 _ .i64 .i64 Tryz.underlying73 Tryz.underlying3 hi0 hz0 (some ⟨g,0,none⟩) i c (us.take (i*5)) hold (n+1-i) (by omega) (by omega) (by omega) (by omega) (by rw[hzb];omega) (by rw[hzb,hik];exact growslice_fits hroom (by omega))
  rw[hik] at h
  rw[hkk]
  exact h
 obtain⟨G,hG⟩:∃G,G=grownCap w (n+1) c 86:=⟨_,rfl⟩
 have hGn:n+1≤G:=by rw[hG];exact grownCap_ge w _ _ _
 have hG63:G≤9223372036854775807:=by
  have:=grownCap_le_maxLen w (n+1) c 86 (by unfold maxLen;omega)
  rw[←hG] at this
  unfold maxLen at this
  omega
 obtain⟨Z,hZ⟩:∃Z:Array Value,Z=Builtin.zeroCells (Value.agg #[.int .i64 0,.int .i64 0,.slice none 0 0,.int .i64 0,.int .i64 0]).cells (n+1-i)++Builtin.zeroCells (Value.agg #[.int .i64 0,.int .i64 0,.slice none 0 0,.int .i64 0,.int .i64 0]).cells (G-(n+1)):=⟨_,rfl⟩
 rw[←hG] at hrz
 simp only[Array.append_assoc] at hrz
 rw[←hZ] at hrz
 have hZl:Z.toList.length=(G-i)*5:=by
  rw[hZ]
  simp[Builtin.zeroCells,Value.cells]
  omega
 obtain⟨row,hrow⟩:∃row:List Value,row=us.take (i*5)++Z.toList:=⟨_,rfl⟩
 have hra:(us.take (i*5)).toArray++Z=row.toArray:=by rw[hrow];apply Array.ext';simp
 rw[hra] at hrz
 obtain⟨hX1l,hX,hX2l⟩:=grow_cells hrow hZl hul hnl hi hGn
 have hdl:(us.drop (i*5)).length=(n-i)*5:=by rw[List.length_drop];omega
 have hrl:row.length=G*5:=by rw[hrow,ξk,List.length_take,hZl];omega
 obtain⟨X1,hX1⟩:∃X1,X1=row.take (i*5)++news++row.drop (i*5+news.length):=⟨_,rfl⟩
 rw[←hX1] at hX1l hX hX2l
 obtain⟨X2,hX2⟩:∃X2,X2=X1.take ((i+1)*5)++us.drop (i*5)++X1.drop ((i+1)*5+(us.drop (i*5)).length):=⟨_,rfl⟩
 rw[←hX2] at hX hX2l
 obtain⟨N,hN⟩:∃N,N=w.heap.size:=⟨_,rfl⟩
 obtain⟨W1,hW1⟩:∃W1,W1=w.drew.alloc (.cells row.toArray 86):=⟨_,rfl⟩
 rw[←hW1] at hrz
 have hW1n:W1.heap[N]?= some (.cells row.toArray 86 (0,0)):=by rw[hW1,hN];exact ξn w.drew _
 have hW1o:∀k,k<N→W1.heap[k]?= w.heap[k]?:=fun k hk=>by rw[hW1];exact heap_alloc_old w.drew _ (by show k<w.heap.size;omega)
 have hW1s:W1.heap.size=N+1:=by rw[hW1,hN];simp
 rw[←hN] at hrz
 have hg1:(W1.setRow N X1.toArray).heap[N]?= some (.cells X1.toArray 86 (0,0)):=setRow_heap W1 N _ X1.toArray 86 (0,0) hW1n
 have hcpA:∀(W:World),W.heap=W1.heap→ ∀ty dc,(Builtin.copy_ #[73,73] ty #[.slice (some ⟨N,i*5,none⟩) (n+1-i) dc,.slice (some ⟨vb,0,none⟩) 1 1]).run Tryz.prog W= .ok (goInt 1) (W.setRow N X1.toArray):=fun W hW ty dc=>by
  have hmin:Nat.min 1 (n+1-i)=1:=by simp only[Nat.min_def];split <;> omega
  have:=ξbL (P:=Tryz.prog) W 73 73 ty 86 N (i*5) (n+1-i) dc ⟨vb,0,none⟩ 1 1 row.toArray 86 news 5 Tryz.underlying73 info5 (by rw[hW];exact hW1n) (by rw[hmin,hnl])
   (fun j v hj=>by
     rw[addr_add]
     have hW2:W.heap[vb]?= some (.cells news.toArray 86 (0,0)):=by rw[hW,hW1o vb (by omega)];exact hv
     rw[cell_of_row _ _ _ _ _ _ hW2,Nat.zero_add]
     simpa using hj) (by simp;omega) h1
  rw[hmin] at this
  rw[this,hX1];rfl
 have hcpB:∀(W:World),W.heap=(W1.setRow N X1.toArray).heap→ ∀ty dc sc,(Builtin.copy_ #[73,73] ty #[.slice (some ⟨N,(i+1)*5,none⟩) (n-i) dc,.slice (some ⟨g,i*5,none⟩) (n-i) sc]).run Tryz.prog W= .ok (goInt ((n-i:Nat):Int)) (W.setRow N X2.toArray):=fun W hW ty dc sc=>by
  have hmin:Nat.min (n-i) (n-i)=n-i:=Nat.min_self _
  have hgW:W.heap[g]?= some (.cells cur 86 (0,0)):=by rw[hW,setRow_other W1 N g X1.toArray (by omega),hW1o g (by omega)];exact hg
  have:=ξbL (P:=Tryz.prog) W 73 73 ty 86 N ((i+1)*5) (n-i) dc ⟨g,i*5,none⟩ (n-i) sc X1.toArray 86 (us.drop (i*5)) 5 Tryz.underlying73 info5 (by rw[hW];exact hg1) (by rw[hmin,hdl])
   (fun j v hj=>by
     rw[addr_add];rw[List.getElem?_drop] at hj
     have hc:=hcell _ v hj
     rw[cell_of_row _ _ _ _ _ _ hg] at hc
     rw[cell_of_row _ _ _ _ _ _ hgW];exact hc) (by simp;omega) (fun v hv=>h1u v (List.mem_of_mem_drop hv))
  rw[hmin] at this
  rw[this,hX2]
 have hpost:∀W:World,W.heap=(W1.setRow N X1.toArray).heap→W.os=w.os→W.tape=w.tape→W.output=w.output→InsQ w base n (.slice (some ⟨g,0,none⟩) n c) us news i (.returned (.slice (some ⟨N,0,none⟩) (n+1) G)) (W.setRow N X2.toArray):=fun W hW h2 h3 h4=>by
  have hgW:W.heap[N]?= some (.cells X1.toArray 86 (0,0)):=by rw[hW];exact hg1
  refine⟨_,rfl,⟨?_,.inr ⟨N,G,X2.toArray,rfl,by omega,setRow_heap W N _ X2.toArray 86 (0,0) hgW,hGn,by unfold maxLen;omega,by simpa using hX2l,by simpa using hX⟩⟩,⟨h2,h3,h4,?_,fun k hk hne=> ?_⟩,.inr ⟨N,rfl,by omega⟩⟩
  · rw[←hX,List.length_take];omega
  · show _≤(W.setRow N X2.toArray).heap.size
    have e1:(W.setRow N X2.toArray).heap.size=W.heap.size:=by simp[World.setRow]
    have e2:(W1.setRow N X1.toArray).heap.size=W1.heap.size:=by simp[World.setRow]
    rw[e1,hW,e2,hW1s];omega
  · rw[setRow_other W N k X2.toArray (by omega),hW,setRow_other W1 N k X1.toArray (by omega),hW1o k (by omega)]
 have HPO:=ξh hpost
 have HNP:=ξh hNP
 have hW1e:W1.os=w.os∧W1.tape=w.tape∧W1.output=w.output:=by rw[hW1];exact⟨rfl,rfl,rfl⟩
 have HW1E:=ξh hW1e
 have hz2:¬((i:Int)=(n:Int)):=by omega
 have hz3:(c:Int)<(n:Int)+1:=by omega
 have hw1:IntKind.i64.wrap ((i:Int)+1)=(i:Int)+1:=by rw[IntKind.wrap_i64];omega
 have hb1:(0:Int)≤(i:Int)+1:=by omega
 have hin:i≤n:=by omega
 have htn:((i:Int)+1).toNat=i+1:=by omega
 have hb3:(i:Int)≤(n:Int):=by omega
 have hGi:¬(G=i):=by omega
 have hGim:¬(G=i+1):=by omega
 have hci:¬(c=i):=by omega
 have mixed:Tryz.prog.follows .mixedOrders=true:=by kernel_rfl
 clear hX1l hX hX2l hdl hrl hX1 hX2 hrow hZl hra hG hpost hNP hcell hold hkk hik hZ hus hul hcs hg hv h1 h1u hnl hbs hW1n hW1o hW1s hg1 hW1e hW1 hN hgl hvl hi0 hz0 hzs hzb
 go_enter Tryz.func161,Tryz.ntmps161
 go_wp2_with (first
  | (at_builtin;refine Lib.wpList_append_run _ rfl _ _ _ _ rfl _ _ rfl rfl _ _ (hrz _) ?_)
  | (at_builtin;refine wpList_copy_runI _ rfl _ _ 73 73 rfl _ _ rfl rfl (hcpA _ rfl _ _) ?_))
 have HDR:((W1.setRow N X1.toArray).drew).heap=(W1.setRow N X1.toArray).heap:=rfl
 go_region_law_o (refine step_copyI rfl _ _ 73 73 rfl (.slice (some ⟨N,(i+1)*5,none⟩) (n-i) (G-(i+1))) (.slice (some ⟨g,i*5,none⟩) (n-i) (c-i)) (by simp[Act.eval,Act.put]) (by simp[Act.eval,Act.put]) (hcpB _ HDR 3 (G-(i+1)) (c-i)) ?_)
 all_goals
  go_wp2
  rw[HNP.out]
  exact HPO.out _ rfl HW1E.1 HW1E.2.1 HW1E.2.2
theorem insertL_any (w:World) (base n i vb:Nat) (v:Value) (us news:List Value) (h:w.ownsRow base 86 5 v n us) (hb:base≤w.heap.size) (hn:n≤1000) (hi:i≤n) (hnl:news.length=5) (hv:w.heap[vb]?= some (.cells news.toArray 86 (0,0))) (hvb:∀g,v.ownBlock=some g→vb≠g) (h1:∀u∈news,u.oneCell'=true) (h1u:∀u∈us,u.oneCell'=true):
 Calls Tryz.prog 161 #[v,.int .i64 i,.slice (some ⟨vb,0,none⟩) 1 1] w (InsQ w base n v us news i):=by
 by_cases he:i=n
 · subst he
   exact insertEnd_any w base i vb v us news h hb hn hnl (fun j u hj=>by rw[cell_of_row _ _ _ _ _ _ hv,Nat.zero_add];simpa using hj) h1
 · rcases h.2 with ⟨rfl,rfl⟩ | ⟨g,c,cur,rfl,q1,q2,q3,q4,q5,q6⟩
   · omega
   · by_cases hr:n+1≤c
     · exact ξcF w base n c i g vb us news cur q1 q2 q5 q6 h.1 (by omega) hr q4 hn hnl hv (hvb g rfl) h1 h1u
     · exact insertGrow_any w base n c i g vb us news cur hb q2 q5 q6 h.1 (by omega) q3 (by omega) hn hnl hv h1 h1u
open Go.RowKit
theorem ξA {X Y:World} {b:Nat} {x:Obj} (h:X.heap[b]?= some x) (hb:Below X.heap.size X Y):Y.heap[b]?= some x:=by
 rw[hb.block b (ξa h).1];exact h
def NetSm (n:Net):Prop:=∀i:Nat,(nmA n i).size≤1048576
def NetO (w:World) (n:Net) (v:Value) (fp:List Nat):Prop:=∃u1 u2 f1 f2,v= .agg #[u1,u2]∧Odt w (flt 1 strE n.ns) u1 f1∧Odt w (flt 4 fibE n.fs) u2 f2∧fp=f1++f2
theorem NetO.behind {w w':World} {n:Net} {v:Value} {fp:List Nat} (h:NetO w n v fp) (hb:Below w.heap.size w w'):NetO w' n v fp:=by
 obtain⟨u1,u2,f1,f2,e,h1,h2,e2⟩:=h;exact⟨u1,u2,f1,f2,e,h1.behind hb,h2.behind hb,e2⟩
theorem Rdt.slice {w:World} {size:Nat} {ds:List Dt} {v:Value} (h:Rdt w (.rows size ds) v):∃a n cap,v= .slice a n cap:=by
 obtain⟨a,n,cap,e,_⟩:=h.opn;exact⟨a,n,cap,e⟩
theorem NetO.form {w:World} {n:Net} {v:Value} {fp:List Nat} (h:NetO w n v fp):∃a1 n1 c1 a2 n2 c2,v= .agg #[.slice a1 n1 c1,.slice a2 n2 c2]:=by
 obtain⟨u1,u2,f1,f2,rfl,h1,h2,_⟩:=h
 obtain⟨a1,n1,c1,rfl⟩:=Rdt.slice (show Rdt w (.rows _ _) u1 from h1.rd)
 obtain⟨a2,n2,c2,rfl⟩:=Rdt.slice (show Rdt w (.rows _ _) u2 from h2.rd)
 exact⟨_,_,_,_,_,_,rfl⟩
namespace Cpy
theorem upon_mono {P:Program} {o:Oper} {a:Act} {K K':Act→World→Prop} {Q Q':Exit→Act→World→Prop} (hK:∀a w,K a w→K' a w) (hQ:∀e a w,e≠ .normal→Q e a w→Q' e a w) {r} (h:o.upon P a K Q r):o.upon P a K' Q' r:=by
 unfold Oper.upon at h ⊢
 split at h
 all_goals first
  | exact hK _ _ h
  | exact hQ _ _ _ (by simp) h
  | exact h
  | (refine Calls.mono h ?_
     rintro e w' hh
     cases e
     · exact hK _ _ hh
     · exact hQ _ _ _ (by simp) hh
     · obtain⟨a2,w2,q⟩:=hh;exact⟨a2,w2,hQ _ _ _ (by simp) q⟩)
  | (refine Rows.mono h ?_
     intro v w' hh
     exact hK _ _ hh)
theorem step_of_list {P:Program} {ops:Array Oper} {o:Oper} {a:Act} {w:World} {K:Act→World→Prop} {Q:Exit→Act→World→Prop} {E:Prop} (hg:o.guard=none)
 (h:wpList P ops (fun e a' w'=>e= .normal∧K a' w') [o] a w):if Region.wanted o (yielded ops a.tmps)=true then Oper.wp P o a w K Q else E:=by
 have hw:Region.wanted o (yielded ops a.tmps)=true:=by simp[Region.wanted,hg]
 rw[if_pos hw]
 unfold wpList at h
 rw[if_pos hw] at h
 rcases h with h | ⟨-,a2,w2,h,-⟩
 · unfold Oper.wp at h ⊢
   refine upon_mono (fun a w hh=> ?_) (fun e a w hne hh=> ?_) h
   · unfold wpList at hh;exact hh.2
   · exact absurd hh.1 hne
 · cases h
section
variable {w : World} {X Y : Obj} {T : TypeId}
theorem bel1:Below w.heap.size w (w.drew.alloc X):=(ξb w.heap.size w).drew.alloc (ξr _) _
theorem bel2:Below w.heap.size w ((w.drew.alloc X).alloc Y):=bel1.alloc (by simp) _
theorem size_alloc {B:Nat} (h:B≤w.heap.size):B≤(w.alloc X).heap.size:=ξs h (by simp)
end
theorem Tryz.infoFib:(Tryz.prog.info? 146).map (fun i=>(i.zero,i.size,i.bytes))=some (some (.agg #[.int .i64 0,.int .i64 0,.int .i64 0,.int .i64 0]),4,32):=by kernel_rfl
def fbs (fs:List Fib):List Value:=fs.flatMap fibE
theorem fbs_len (fs:List Fib):(fbs fs).length=fs.length*4:=by
 unfold fbs
 induction fs with
 | nil=>rfl
 | cons f fs ih=>rw[List.flatMap_cons,ξk,ih,List.length_cons];simp[fibE];omega
theorem fbs_one {fs:List Fib} :∀u∈fbs fs,u.oneCell'=true:=fun u hu=>by
 unfold fbs at hu
 obtain⟨f,-,h⟩:=List.mem_flatMap.1 hu
 simp[fibE] at h
 rcases h with rfl | rfl | rfl | rfl <;> rfl
theorem wpList_catG {P:Program} {ops:Array Oper} {rest:List Oper} {o:Oper} {a:Act} {Q:Exit→Act→World→Prop} {w:World} (hgd:o.guard=none) (s x:Operand) (T e:TypeId)
 (ho:o.op= .call {callee:= .builtin .append,args:=#[s,x],argTypes:=#[T,T]}) (ht:P.underlying T=some (.slice e)) (z:Value) (size bytes:Nat)
 (hinfo:(P.info? e).map (fun i=>(i.zero,i.size,i.bytes))=some (some z,size,bytes)) (hzs:z.cells.size=size) (hsz:0<size)
 (base:Nat) (v:Value) (n:Nat) (xs:List Value) (hs:a.eval s=v) (hown:w.ownsRow base e size v n xs)
 (ao:Option Addr) (m c:Nat) (ys:List Value) (hx:a.eval x= .slice ao m c) (hm:ys.length=m*size) (hy:ao=none→m=0∧c=0) (hc:∀ad,ao=some ad→ ∀j u,ys[j]?= some u→w.cell? (ad.add j)=some u) (h1:∀u∈ys,u.oneCell'=true) (hn:n+m≤maxLen) (hby:(n+m)*bytes≤140737488355328) (hbase:base≤w.heap.size)
 (h:∀v' w',w'.ownsRow base e size v' (n+m) (xs++ys)→w.grownBy w' v.ownBlock→(v'.ownBlock=v.ownBlock∨v'.ownBlock=some w.heap.size)→wpList P ops Q rest (a.put o.dst v') w'):
 wpList P ops Q (o::rest) a w:=by
 obtain⟨i0,hi,hz0,hz1,hz2⟩:=info_parts hinfo
 rcases ao with _ | ad
 · obtain⟨rfl,rfl⟩:=hy rfl
   have:ys=[]:=List.eq_nil_of_length_eq_zero (by simpa using hm)
   subst this
   refine wpList_append_own_none hgd s x T ho base e i0 size ht hi v n xs hs hown hx ?_
   exact h v w (by simpa using hown) ⟨rfl,rfl,rfl,ξr _,fun _ _ _=>rfl⟩ (.inl rfl)
 · refine wpList_append_own_at _ hgd s x T ho base e i0 z size bytes ht hi hz0 hz1 hz2 hzs hsz v n xs hs hown ad m c ys hx hm (hc ad rfl) h1 hn hby hbase ?_
   intro v' w' g1 g2 _ g4
   exact h v' w' g1 g2 g4
theorem addr_add (b off j:Nat):(⟨b,off,none⟩:Addr).add j=⟨b,off+j,none⟩:=by unfold Addr.add;split <;> simp_all
section
variable {w : World} {X Y : Obj} {T : TypeId} {m : Nat}
theorem row_made1:(w.drew.alloc (.cells #[] T)).ownsRow w.heap.size T m (.slice (some ⟨w.heap.size,0,none⟩) 0 0) 0 []:=World.ownsRow_made w.drew #[] 0 (ξr _) (ξu _) (by simp)
theorem row_made2:((w.drew.alloc (.cells #[] T)).alloc X).ownsRow w.heap.size T m (.slice (some ⟨w.heap.size,0,none⟩) 0 0) 0 []:=row_made1.alloc _
theorem row_made3:((w.drew.alloc X).alloc (.cells #[] T)).ownsRow w.heap.size T m (.slice (some ⟨w.heap.size+1,0,none⟩) 0 0) 0 []:=by
 have:=World.ownsRow_made (base:=w.heap.size) (e:=T) (size:=m) (w.drew.alloc X) #[] 0 (by simp) (ξu _) (by simp)
 simpa using this
end
theorem row_kept0 {w w':World} {base:Nat} {e:TypeId} {size:Nat} {v:Value} {n:Nat} {xs:List Value} (h:w.ownsRow base e size v n xs) (hk:∀g,v.ownBlock=some g→w'.heap[g]?= w.heap[g]?):w'.ownsRow base e size v n xs:=by
 refine⟨h.1,?_⟩
 rcases h.2 with q | ⟨g,cap,cur,rfl,q1,q2,q3⟩
 · exact .inl q
 · exact .inr ⟨g,cap,cur,rfl,q1,by rw[hk g rfl];exact q2,q3⟩
theorem row_form0 {w:World} {base n:Nat} {T:TypeId} {v:Value} {us:List Value} {m:Nat} (h:w.ownsRow base T m v n us):∃a c,v= .slice a n c:=by
 rcases h.2 with ⟨h,h2⟩ | ⟨g,cap,cur,h,_⟩
 · exact⟨none,0,by rw[h,h2]⟩
 · exact⟨_,_,h⟩
def Apt (u v:Value):Prop:=∀q,u.ownBlock=some q→v.ownBlock≠some q
theorem Tryz.infoStrD:(Tryz.prog.info? 9).map (fun i=>(i.zero,i.size,i.bytes))=some (some (.string ⟨#[]⟩),1,16):=by kernel_rfl
section
variable {W w5 : World} {X : Obj} {T : TypeId} {m : Nat}
theorem mk_kept3 (g:((W.drew.alloc X).alloc (.cells #[] T)).grownBy w5 (some W.heap.size)):w5.ownsRow W.heap.size T m (.slice (some ⟨W.heap.size+1,0,none⟩) 0 0) 0 []:=
 row_kept0 row_made3 fun q hq=>g.block q (World.ownsRow.lt (row_made3 (X:=X) (T:=T) (m:=m)) q hq).2 fun e=>by
  have h1:W.heap.size+1=q:=ξo hq
  have h2:=ξo e
  omega
theorem mk_kept2 (g:((W.drew.alloc (.cells #[] T)).alloc X).grownBy w5 (some (W.heap.size+1))):w5.ownsRow W.heap.size T m (.slice (some ⟨W.heap.size,0,none⟩) 0 0) 0 []:=
 row_kept0 row_made2 fun q hq=>g.block q (World.ownsRow.lt (row_made2 (X:=X) (T:=T) (m:=m)) q hq).2 fun e=>by
  have h1:W.heap.size=q:=ξo hq
  have h2:=ξo e
  omega
end
theorem two_rows {w5 wA w10:World} {base s3 b3 b7 m1 n1:Nat} {T1:TypeId} {us1:List Value} {v5 v10:Value} (o5:w5.ownsRow base T1 m1 v5 n1 us1) (hA:Below w5.heap.size w5 wA) (g10:wA.grownBy w10 (some b7)) (l10:v10.ownBlock=some b7∨v10.ownBlock=some wA.heap.size) (l5:v5.ownBlock=some b3∨v5.ownBlock=some s3) (hd:(b3≠b7∧s3≠b7)∨w5.heap.size≤b7):w10.ownsRow base T1 m1 v5 n1 us1∧Apt v5 v10:=by
 have hlt:=fun q hq=>(World.ownsRow.lt o5 q hq).2
 have hne:∀q,v5.ownBlock=some q→q≠b7:=fun q hq=>by
  have h1:=hlt q hq
  rcases hd with ⟨h2,h3⟩ | h2
  · rcases l5 with l | l
    · rw[l] at hq;have:=ξo hq;omega
    · rw[l] at hq;have:=ξo hq;omega
  · omega
 refine⟨row_kept0 o5 fun q hq=>(g10.block q (ξq (hlt q hq) hA.size) fun e=>hne q hq (ξo e)).trans (hA.block q (hlt q hq)),fun q hq e=> ?_⟩
 rcases l10 with l | l
 · rw[l] at e;exact hne q hq (ξo e).symm
 · rw[l] at e
   have h1:=ξo e
   have h2:=hlt q hq
   have h3:=hA.size
   omega
end Cpy
end Go.Proofs.YtofcicomhnkocaaGreat
