import Derived.Test.YtofcicomhnkocaaGreatBx27
set_option linter.unusedVariables false
namespace Go.Proofs.YtofcicomhnkocaaGreat
set_option maxHeartbeats 200000
open Go.RowKit Go.Sort
set_option maxRecDepth 100000
def ξa0 (n:Net) (fs:List Fmt) (gs:List Gro):Bool:=(ξR n fs gs).isSome
def ξai (n:Net) (fs:List Fmt) (gs:List Gro):List Int:=match ξR n fs gs with
 | none=>[]
 | some (_,r)=>ust r.bl
theorem ξau {n:Net} {fs:List Fmt} {gs:List Gro} {ps:List (List Lgt)} {r:PRun} (h:ξR n fs gs=some (ps,r)):fmOk fs=true∧ξL n=true∧GrsP n gs∧runP n fs gs 8=some (ps,r):=by
 unfold ξR at h
 split at h
 · rename_i hc
   rw[Bool.and_eq_true] at hc
   obtain⟨h1,h2⟩:=ξaN hc.2
   exact⟨hc.1,h1,h2,h⟩
 · cases h
theorem ξaf {n:Net} {fs:List Fmt} {gs:List Gro} {ps:List (List Lgt)} {r:PRun} (h:ξR n fs gs=some (ps,r)):ξai n fs gs=ust r.bl∧srt r.bl=ust r.bl∧ξa0 n fs gs=true:=by
 obtain⟨-,-,h3,h4⟩:=ξau h
 refine⟨by unfold ξai;rw[h],srt_ust (runP_nd h3 h4),by unfold ξa0;rw[h];rfl⟩
def PlsR (n:Net) (fs:List Fmt) (gs:List Gro) (base:Nat) (w':World) (s b:Value):Prop:=∀ps r,ξR n fs gs=some (ps,r)→
 GrwX w' base 75 3 s 8 ((ps.map (Pln.mk n)).flatMap plnD) (fun k=>b.ownBlock=some k)∧Own w' base b (ξai n fs gs)∧ ∀g,s.ownBlock=some g→b.ownBlock≠some g
def PldN (n:Net) (fs:List Fmt) (gs:List Gro) (w:World) (e:Ending) (w':World):Prop:=Below w.heap.size w w'∧ ∃aw ms cs a m c,e= .returned (.tuple #[.slice aw ms cs,.slice a m c,.bool (ξa0 n fs gs)])∧PlsR n fs gs w.heap.size w' (.slice aw ms cs) (.slice a m c)∧(ξa0 n fs gs=false→(.slice a m c:Value)= .slice none 0 0)
def PleN (n:Net) (fs:List Fmt) (gs:List Gro) (w:World) (e:Ending) (w':World):Prop:=Below w.heap.size w w'∧ ∃aw ms cs a m c,e= .returned (.tuple #[.agg #[.slice aw ms cs,.slice a m c],.bool (ξa0 n fs gs)])∧PlsR n fs gs w.heap.size w' (.slice aw ms cs) (.slice a m c)
theorem ξaZ (v vf vg:Value) (n:Net) (fs:List Fmt) (gs:List Gro) (w:World) (h:NetR w v n) (hf:Rdt w (flt 2 fmE fs) vf) (hg:Rdt w (flt 6 groE gs) vg):
 Calls Tryz.prog 64 #[v,vf,vg] w (PldN n fs gs w):=by
 refine(planned_any v vf vg n fs gs w h hf hg).mono ?_
 intro e w' hp
 obtain⟨hb,hp⟩:=hp
 refine⟨hb,?_⟩
 cases hO:ξR n fs gs with
 | none=>
   rw[hO] at hp
   exact⟨_,_,_,_,_,_,by rw[show ξa0 n fs gs=false by unfold ξa0;rw[hO];rfl];exact hp,(fun ps r e=>by rw[hO] at e;cases e),fun _=>rfl⟩
 | some x=>
   obtain⟨ps,r⟩:=x
   rw[hO] at hp
   obtain⟨s,b,he,h1,h2,h3⟩:=hp
   obtain⟨k1,k2,k3⟩:=ξaf hO
   obtain⟨-,a1,c1,rfl⟩:=h1.grw.form
   obtain⟨a2,m2,c2,rfl⟩:=ξag h2
   refine⟨_,_,_,_,_,_,by rw[k3];exact he,(fun ps' r' e=> ?_),fun e=>by rw[k3] at e;cases e⟩
   rw[hO] at e
   cases e
   exact⟨h1,by rw[k1,←k2];exact h2,h3⟩
theorem ξbN (v vf vg:Value) (n:Net) (fs:List Fmt) (gs:List Gro) (w:World) (h:NetR w v n) (hf:Rdt w (flt 2 fmE fs) vf) (hg:Rdt w (flt 6 groE gs) vg):
 Calls Tryz.prog 58 #[v,vf,vg] w (PleN n fs gs w):=by
 refine(l26Plan_any v vf vg n fs gs w h hf hg).mono ?_
 intro e w' hp
 obtain⟨hb,hp⟩:=hp
 refine⟨hb,?_⟩
 cases hO:ξR n fs gs with
 | none=>
   rw[hO] at hp
   obtain⟨a1,m1,c1,a2,m2,c2,he⟩:=hp
   exact⟨_,_,_,_,_,_,by rw[show ξa0 n fs gs=false by unfold ξa0;rw[hO];rfl];exact he,(fun ps r e=>by rw[hO] at e;cases e)⟩
 | some x=>
   obtain⟨ps,r⟩:=x
   rw[hO] at hp
   obtain⟨s,b,he,h1,h2,h3⟩:=hp
   obtain⟨k1,k2,k3⟩:=ξaf hO
   obtain⟨-,a1,c1,rfl⟩:=h1.grw.form
   obtain⟨a2,m2,c2,rfl⟩:=ξag h2
   refine⟨_,_,_,_,_,_,by rw[k3];exact he,(fun ps' r' e=> ?_)⟩
   rw[hO] at e
   cases e
   exact⟨h1,by rw[k1];exact h2,h3⟩
theorem ξap {n:Net} {fs:List Fmt} {gs:List Gro} (h:ξR n fs gs=none):ξai n fs gs=[]∧ξa0 n fs gs=false:=by
 unfold ξai ξa0;rw[h];exact⟨rfl,rfl⟩
theorem tb8 {a:Nat} (y:Nat) (ha:a<256) (j:Nat):(a+256*y).testBit j=if j<8 then a.testBit j else y.testBit (j-8):=by
 have:=Nat.testBit_two_pow_mul_add y (show a<2 ^ 8 from ha) j
 rw[←this,Nat.add_comm]
theorem and8 {a m:Nat} (y M:Nat) (ha:a<256) (hm:m<256):(a+256*y) &&& (m+256*M)=(a &&& m)+256*(y &&& M):=by
 apply Nat.eq_of_testBit_eq
 intro i
 rw[Nat.testBit_and,tb8 y ha,tb8 M hm,tb8 _ (show a &&& m<256 from Nat.and_lt_two_pow (n:=8) _ hm)]
 split <;> rw[Nat.testBit_and]
def q1 (a:Nat):Nat:=(a/2 &&& 85)+(a &&& 85)
def q2 (a:Nat):Nat:=(a/4 &&& 51)+(a &&& 51)
def q3 (a:Nat):Nat:=(a/16+a) &&& 15
theorem e1:∀a:Fin 256,∀e:Fin 2,(a.val/2+128*e.val) &&& 85=a.val/2 &&& 85:=by decide +kernel
theorem e2:∀a:Fin 256,∀e:Fin 4,(a.val/4+64*e.val) &&& 51=a.val/4 &&& 51:=by decide +kernel
theorem e3:∀a:Fin 256,∀e:Fin 8,a.val≤102→(a.val/16+16*e.val+a.val) &&& 15=(a.val/16+a.val) &&& 15:=by decide +kernel
abbrev by3 (a b c:Nat):Nat:=a+256*(b+256*c)
theorem and3 {a b c m:Nat} (M:Nat) (ha:a<256) (hb:b<256) (hc:c<256) (hm:m<256):by3 a b c &&& (m+256*(m+256*(m+256*M)))=by3 (a &&& m) (b &&& m) (c &&& m):=by
 have h:=and8 0 M hc hm
 rw[Nat.mul_zero,Nat.add_zero,Nat.zero_and,Nat.mul_zero,Nat.add_zero] at h
 unfold by3
 rw[and8 _ _ ha hm,and8 _ _ hb hm,h]
theorem st1 {a b c:Nat} (ha:a<256) (hb:b<256) (hc:c<256):(by3 a b c/2 &&& 6148914691236517205)+(by3 a b c &&& 6148914691236517205)=by3 (q1 a) (q1 b) (q1 c):=by
 have x1:=e1 ⟨a,ha⟩ ⟨b%2,by omega⟩
 have x2:=e1 ⟨b,hb⟩ ⟨c%2,by omega⟩
 simp only at x1 x2
 rw[show by3 a b c/2=by3 (a/2+128*(b%2)) (b/2+128*(c%2)) (c/2) by unfold by3;omega,
  show(6148914691236517205:Nat)=85+256*(85+256*(85+256*366503875925)) by omega]
 rw[and3 _ (by omega) (by omega) (by omega) (by omega),and3 _ ha hb hc (by omega),x1,x2]
 unfold by3 q1
 omega
theorem st2 {a b c:Nat} (ha:a≤170) (hb:b≤170) (hc:c≤170):(by3 a b c/4 &&& 3689348814741910323)+(by3 a b c &&& 3689348814741910323)=by3 (q2 a) (q2 b) (q2 c):=by
 have x1:=e2 ⟨a,by omega⟩ ⟨b%4,by omega⟩
 have x2:=e2 ⟨b,by omega⟩ ⟨c%4,by omega⟩
 simp only at x1 x2
 rw[show by3 a b c/4=by3 (a/4+64*(b%4)) (b/4+64*(c%4)) (c/4) by unfold by3;omega,
  show(3689348814741910323:Nat)=51+256*(51+256*(51+256*219902325555)) by omega]
 rw[and3 _ (by omega) (by omega) (by omega) (by omega),and3 _ (by omega) (by omega) (by omega) (by omega),x1,x2]
 unfold by3 q2
 omega
open Go.RowKit
def RawB (w:World) (a:Option Addr) (len cap:Nat) (zs:List Int):Prop:=
 (a=none∧len=0∧cap=0∧zs=[])∨
 ∃x,a=some x∧len≤cap∧cap≤maxLen∧zs.length=cap∧(∀i,i<zs.length→w.cell? (x.add i)=some (.int .u8 (zs.getD i 0)))∧ ∀n∈zs,(Lit.int .u8 n).wf=true
theorem RawB.rd {w:World} {a:Option Addr} {len cap:Nat} {zs:List Int} (h:RawB w a len cap zs) (hl:len≤281474976710656):RdB w (.slice a len cap):=by
 rcases h with ⟨rfl,rfl,rfl,rfl⟩ | ⟨x,rfl,h1,h2,h3,h4,h5⟩
 · exact⟨none,0,0,rfl,by omega,by omega,by omega⟩
 · refine⟨some x,len,cap,rfl,h1,hl,fun hp=> ?_⟩
   obtain⟨b,off,spot⟩:=x
   have hc:=h4 0 (by omega)
   have hspot:spot=none:=by simpa[Addr.add] using World.cell?_spot hc
   subst hspot
   refine⟨b,off,rfl,World.block_lt_of_cell? w _ (show w.cell? ⟨b,off,none⟩=some (.int .u8 (zs.getD 0 0)) by simpa[Addr.add] using hc),fun j hj=> ?_⟩
   have hj2:j<zs.length:=by omega
   have hw:=h5 (zs.getD j 0) (by simp[List.getD,hj2])
   have hb:=bounds_u8 hw
   refine⟨zs.getD j 0,hb.1,by omega,?_⟩
   have:=h4 j hj2
   rw[←this]
   by_cases h0:j=0 <;> simp[Addr.add,h0]
theorem ξb8 (a:Option Addr) (len cap:Nat) (w:World):
 Calls Tryz.prog 23 #[.slice a len cap] w fun e w'=>e= .returned (.bool (decide (65536<(len:Int))))∧w=w':=by
 go_enter Tryz.func23,Tryz.ntmps23
 go_wp2
 go_ret
 exact⟨rfl,rfl⟩
theorem RdB.behind {w w':World} {v:Value} (h:RdB w v) (hb:Below w.heap.size w w'):RdB w' v:=h.kept hb.size (fun j hj=>hb.block j (h.lt j hj))
def putA (cur:Array Value) (o:Nat):List Value→Array Value
 | []=>cur
 | u::us=>putA (cur.setIfInBounds o u) (o+1) us
theorem putA_size (us:List Value):∀(cur:Array Value) (o:Nat),(putA cur o us).size=cur.size:=by
 induction us with
 | nil=>intro cur o;rfl
 | cons u us ih=>intro cur o;rw[putA,ih];simp
theorem blk_put {b:Nat} {T:TypeId} (us:List Value):∀{w:World} {cur:Array Value} (o:Nat),w.heap[b]?= some (.cells cur T (0,0))→(w.setCells b o us).heap[b]?= some (.cells (putA cur o us) T (0,0)):=by
 induction us with
 | nil=>intro w cur o h;exact h
 | cons u us ih=>intro w cur o h;exact ih (o+1) (heap_setCell_same w b o cur T u h)
def Apt (u v:Value):Prop:=∀q,u.ownBlock=some q→v.ownBlock≠some q
/-! ### Counting, as the reference does -/
end Go.Proofs.YtofcicomhnkocaaGreat
