/- Joined: XPlnP XMsk XRtsP XStaP XBstP XPlgP XPlgQ XPlgR XPlgS. -/
import Derived.Test.YtofcicomhnkocaaGreatAls
import Derived.Test.YtofcicomhnkocaaGreatBq02
import Derived.Test.YtofcicomhnkocaaGreatBq04
import Derived.WalkKit
import Derived.Lib.ItoaNum
import Derived.Lib.Join
set_option linter.unusedVariables false
namespace Go.Proofs.YtofcicomhnkocaaGreat
set_option maxHeartbeats 200000
open Go.RowKit
/-! ### Routes -/
structure Rou where
 st:Int
 fb:List Int
def othE (f:Fib) (node:Int):Int:=if node=f.a then f.b else if node=f.b then f.a else -1
def wlk (n:Net):List Int→Int→List Int→Option (List Int)
 | out,_,[]=>some out
 | out,t,i::is=>if inB i 0 ((n.fs.length:Int)-1) then(if othE (fbA n i.toNat) t<0∨othE (fbA n i.toNat) t∈out then none else wlk n (out++[othE (fbA n i.toNat) t]) (othE (fbA n i.toNat) t) is) else none
def rouN (n:Net) (r:Rou):Option (List Int):=if inB r.st 0 ((n.ns.length:Int)-1) && !r.fb.isEmpty then wlk n [r.st] r.st r.fb else none
def rouOk (n:Net) (r:Rou):Bool:=(rouN n r).isSome
/-! ### Blocks -/
def blkOk (f c:Int):Bool:=decide (0≤f)&&(inB c 1 24&&decide (f≤24-c))
theorem blkOk_bd {f c:Int} (h:blkOk f c=true):0≤f∧1≤c∧f+c≤24:=by
 unfold blkOk at h
 simp only[Bool.and_eq_true,decide_eq_true_eq] at h
 have:=inB_true h.2.1
 omega
def mskN (f c:Nat):Nat:=(2 ^ c-1)*2 ^ f
def msk (f c:Int):Int:=(mskN f.toNat c.toNat:Int)
/-! ### Lights -/
structure Lgt where
 id:Int
 st:Int
 fb:List Int
 fi:Int
 ct:Int
def nilL:Lgt:=⟨0,0,[],0,0⟩
def lgtD (x:Lgt):List Dt:=[.leaf (.int .i64 x.id),.leaf (.int .i64 x.st),inD x.fb,.leaf (.int .i64 x.fi),.leaf (.int .i64 x.ct)]
def lgtOk (n:Net) (x:Lgt):Bool:=rouOk n ⟨x.st,x.fb⟩&&inB x.id 1 999&&blkOk x.fi x.ct
def meets (xs ys:List Int):Bool:=xs.any fun x=>ys.contains x
def hitB (x y:Lgt):Bool:=decide (x.fi<y.fi+y.ct∧y.fi<x.fi+x.ct)
def collB (x y:Lgt):Bool:=hitB x y&&meets x.fb y.fb
/-! ### Plans -/
structure Pln where
 n:Net
 ls:List Lgt
abbrev lgA (p:Pln) (i:Nat):Lgt:=p.ls[i]?.getD nilL
def PlnR (w:World) (v:Value) (p:Pln):Prop:=∃u1 u2 u3,v= .agg #[u1,u2,u3]∧Rdt w (flt 1 strE p.n.ns) u1∧Rdt w (flt 4 fibE p.n.fs) u2∧Rdt w (rws 5 lgtD p.ls) u3∧ ∀i:Nat,(nmA p.n i).size≤1048576
theorem PlnR.behind {w w':World} {v:Value} {p:Pln} (h:PlnR w v p) (hb:Below w.heap.size w w'):PlnR w' v p:=by
 obtain⟨u1,u2,u3,e,h1,h2,h3,h4⟩:=h;exact⟨u1,u2,u3,e,h1.behind hb,h2.behind hb,h3.behind hb,h4⟩
open Go.RowKit Go.Sort
set_option maxRecDepth 100000
theorem mskN_bit (f c i:Nat):(mskN f c).testBit i=(decide (f≤i)&&decide (i<f+c)):=by
 unfold mskN
 rw[Nat.testBit_mul_two_pow,Nat.testBit_two_pow_sub_one]
 by_cases h:f≤i
 · simp only[h,decide_true,Bool.true_and]
   rw[decide_eq_decide];omega
 · simp[h]
theorem mskN_meet (f c g d:Nat) (hc:0<c) (hd:0<d):(mskN f c &&& mskN g d=0)↔ ¬(f<g+d∧g<f+c):=by
 constructor
 · intro h ⟨h1,h2⟩
   have:=congrArg (fun x=>x.testBit (max f g)) h
   simp only[Nat.testBit_and,mskN_bit,Nat.zero_testBit,Bool.and_eq_false_iff,decide_eq_false_iff_not] at this
   omega
 · intro h
   apply Nat.eq_of_testBit_eq
   intro i
   simp only[Nat.testBit_and,mskN_bit,Nat.zero_testBit,Bool.and_eq_false_iff,decide_eq_false_iff_not]
   omega
theorem mskN_lt (f c:Nat) (h:f+c≤24):mskN f c<16777216:=by
 unfold mskN
 have h1:2 ^ c*2 ^ f≤2 ^ 24:=by rw[←Nat.pow_add];exact Nat.pow_le_pow_right (by omega) (by omega)
 have h2:(2 ^ c-1)*2 ^ f+2 ^ f=2 ^ c*2 ^ f:=by
  have:0<2 ^ c:=Nat.two_pow_pos c
  rw[Nat.sub_mul,Nat.one_mul]
  exact Nat.sub_add_cancel (Nat.le_mul_of_pos_left _ this)
 have h3:0<2 ^ f:=Nat.two_pow_pos f
 omega
theorem msk_val {f c:Nat} (h:f+c≤24):wrap64 (wrap64 (wrap64 ((2:Int) ^ c)-1)*(2:Int) ^ f)=(mskN f c:Int):=by
 have hm:=mskN_lt f c h
 have hc:2 ^ c≤2 ^ 24:=Nat.pow_le_pow_right (by omega) (by omega)
 have hc0:0<2 ^ c:=Nat.two_pow_pos c
 have e1:(2:Int) ^ c=((2 ^ c:Nat):Int):=by simp
 have e2:(2:Int) ^ f=((2 ^ f:Nat):Int):=by simp
 rw[e1,e2]
 have w1:wrap64 ((2 ^ c:Nat):Int)=((2 ^ c:Nat):Int):=ξw _ (by omega)
 have e3:(((2 ^ c:Nat):Int)-1)=((2 ^ c-1:Nat):Int):=by omega
 have w2:wrap64 ((2 ^ c-1:Nat):Int)=((2 ^ c-1:Nat):Int):=ξw _ (by omega)
 rw[w1,e3,w2,←Int.natCast_mul]
 show wrap64 ((mskN f c:Nat):Int)=_
 exact ξw _ (by omega)
theorem maskOf_any (f c:Nat) (w:World) (h:f+c≤24):
 Calls Tryz.prog 142 #[.agg #[.int .i64 f,.int .i64 c]] w fun e w'=>e= .returned (.int .i64 (mskN f c))∧Below w.heap.size w w':=by
 obtain⟨bx,bc,-,-⟩:=box_facts w #[.int .i64 f,.int .i64 c] 84
 have q0:=bc 0 _ rfl
 have q1:=bc 1 _ rfl
 have HBX:=ξh bx
 have HVV:=ξh (msk_val h)
 clear bc bx
 go_enter Tryz.func142,Tryz.ntmps142
 go_wp2
 go_quiet (fail)
 go_wp2
 go_ret
 exact⟨by rw[←HVV.out];rfl,⟨HBX.out.os,HBX.out.tape,HBX.out.output,HBX.out.size,HBX.out.block⟩⟩
theorem l8Bits_any (f c:Nat) (w:World) (h:f+c≤24):
 Calls Tryz.prog 132 #[.agg #[.int .i64 f,.int .i64 c]] w fun e w'=>e= .returned (.int .i64 (mskN f c))∧Below w.heap.size w w':=by
 obtain⟨bx,bc,-,-⟩:=box_facts w #[.int .i64 f,.int .i64 c] 84
 have q0:=bc 0 _ rfl
 have q1:=bc 1 _ rfl
 have HBX:=ξh bx
 have HVV:=ξh (msk_val h)
 clear bc bx
 go_enter Tryz.func132,Tryz.ntmps132
 go_wp2
 go_ret
 exact⟨by rw[←HVV.out];rfl,HBX.out⟩
theorem bits_and {a b:Nat} (ha:a<16777216) (hb:b<16777216):bits .and .i64 (a:Int) (b:Int)=((a &&& b:Nat):Int):=by
 have hab:a &&& b≤a:=Nat.and_le_left
 have e:(BitVec.ofInt 64 (a:Int) &&& BitVec.ofInt 64 (b:Int)).toNat=a &&& b:=by
  rw[BitVec.toNat_and,BitVec.ofInt_natCast,BitVec.ofInt_natCast,BitVec.toNat_ofNat,BitVec.toNat_ofNat,Nat.mod_eq_of_lt (by omega),Nat.mod_eq_of_lt (by omega)]
 unfold bits
 show IntKind.i64.wrap (((BitVec.ofInt 64 (a:Int) &&& BitVec.ofInt 64 (b:Int)).toNat:Nat):Int)=_
 rw[e,ξi _ (by omega)]
/-! ### The order of routes with the same start -/
def lenR (n:Net) (fs:List Int):Int:=(fs.map fun i=>(fbA n i.toNat).l).sum
def sgnI (x:Int):Int:=if x<0 then -1 else if 0<x then 1 else 0
def lexI:List Int→List Int→Int
 | [],[]=>0
 | [],_::_=> -1
 | _::_,[]=>1
 | a::ar,b::br=>if a<b then -1 else if b<a then 1 else lexI ar br
def cmpR (n:Net) (a b:List Int):Int:=
 if lenR n a=lenR n b then(if a.length=b.length then lexI a b else sgnI ((a.length:Int)-b.length)) else sgnI (lenR n a-lenR n b)
theorem sgnI_neg {x:Int} :sgnI x<0↔x<0:=by
 unfold sgnI;split
 · omega
 · split <;> omega
theorem lexI_self (a:List Int):lexI a a=0:=by
 induction a with
 | nil=>rfl
 | cons x a ih=>rw[lexI,if_neg (by omega),if_neg (by omega),ih]
theorem lexI_eq:∀{a b:List Int},lexI a b=0→a=b
 | [],[],_=>rfl
 | [],_::_,h=>by simp[lexI] at h
 | _::_,[],h=>by simp[lexI] at h
 | a::ar,b::br,h=>by
   rw[lexI] at h
   split at h
   · omega
   · split at h
     · omega
     · rw[lexI_eq h,show a=b by omega]
theorem lexI_flip:∀(a b:List Int),lexI b a= - lexI a b
 | [],[]=>rfl
 | [],_::_=>rfl
 | _::_,[]=>rfl
 | a::ar,b::br=>by
   rw[lexI,lexI]
   by_cases h:a<b
   · rw[if_pos h,if_neg (by omega),if_pos h];rfl
   · rw[if_neg h]
     by_cases h2:b<a
     · rw[if_pos h2,if_pos h2,if_neg h]
     · rw[if_neg h2,if_neg h2,if_neg h];exact lexI_flip ar br
theorem lexI_trans:∀{a b c:List Int},lexI a b<0→lexI b c<0→lexI a c<0
 | [],[],_,h,_=>by simp[lexI] at h
 | [],_::_,[],_,h=>by simp[lexI] at h
 | [],_::_,_::_,_,_=>by simp[lexI]
 | _::_,[],_,h,_=>by simp[lexI] at h
 | _::_,_::_,[],_,h=>by simp[lexI] at h
 | a::ar,b::br,c::cr,h1,h2=>by
   rw[lexI] at h1 h2 ⊢
   by_cases x1:a<b
   · by_cases x2:b<c
     · rw[if_pos (by omega)];omega
     · rw[if_neg x2] at h2
       by_cases x3:c<b
       · rw[if_pos x3] at h2;omega
       · rw[if_pos (by omega)];omega
   · rw[if_neg x1] at h1
     by_cases x3:b<a
     · rw[if_pos x3] at h1;omega
     · rw[if_neg x3] at h1
       obtain rfl:a=b:=by omega
       by_cases x2:a<c
       · rw[if_pos x2];omega
       · rw[if_neg x2] at h2 ⊢
         by_cases x4:c<a
         · rw[if_pos x4] at h2;omega
         · rw[if_neg x4] at h2 ⊢
           exact lexI_trans h1 h2
theorem cmpR_self (n:Net) (a:List Int):cmpR n a a=0:=by unfold cmpR;rw[if_pos rfl,if_pos rfl,lexI_self]
theorem cmpR_eq {n:Net} {a b:List Int} (h:cmpR n a b=0):a=b:=by
 unfold cmpR at h
 split at h
 · split at h
   · exact lexI_eq h
   · unfold sgnI at h;split at h
     · omega
     · split at h <;> omega
 · unfold sgnI at h;split at h
   · omega
   · split at h <;> omega
theorem cmpR_tot {n:Net} {a b:List Int} (h:¬cmpR n a b<0) (hne:a≠b):cmpR n b a<0:=by
 have h0:cmpR n a b≠0:=fun e=>hne (cmpR_eq e)
 unfold cmpR at h h0 ⊢
 by_cases e1:lenR n a=lenR n b
 · rw[if_pos e1] at h h0;rw[if_pos e1.symm]
   by_cases e2:a.length=b.length
   · rw[if_pos e2] at h h0;rw[if_pos e2.symm,lexI_flip a b];omega
   · rw[if_neg e2] at h h0;rw[if_neg (fun e=>e2 e.symm)]
     rw[sgnI_neg] at h ⊢;omega
 · rw[if_neg e1] at h h0;rw[if_neg (fun e=>e1 e.symm)]
   rw[sgnI_neg] at h ⊢;omega
theorem cmpR_asym {n:Net} {a b:List Int} (h:cmpR n a b<0):¬cmpR n b a<0:=by
 intro h2
 unfold cmpR at h h2
 by_cases e1:lenR n a=lenR n b
 · rw[if_pos e1] at h;rw[if_pos e1.symm] at h2
   by_cases e2:a.length=b.length
   · rw[if_pos e2] at h;rw[if_pos e2.symm,lexI_flip a b] at h2;omega
   · rw[if_neg e2,sgnI_neg] at h;rw[if_neg (fun e=>e2 e.symm),sgnI_neg] at h2;omega
 · rw[if_neg e1,sgnI_neg] at h;rw[if_neg (fun e=>e1 e.symm),sgnI_neg] at h2;omega
theorem cmpR_trans {n:Net} {a b c:List Int} (h1:cmpR n a b<0) (h2:cmpR n b c<0):cmpR n a c<0:=by
 unfold cmpR at h1 h2 ⊢
 by_cases e1:lenR n a=lenR n b
 · rw[if_pos e1] at h1
   by_cases e2:lenR n b=lenR n c
   · rw[if_pos e2] at h2;rw[if_pos (e1.trans e2)]
     by_cases l1:a.length=b.length
     · rw[if_pos l1] at h1
       by_cases l2:b.length=c.length
       · rw[if_pos l2] at h2;rw[if_pos (l1.trans l2)];exact lexI_trans h1 h2
       · rw[if_neg l2,sgnI_neg] at h2;rw[if_neg (by omega),sgnI_neg];omega
     · rw[if_neg l1,sgnI_neg] at h1
       by_cases l2:b.length=c.length
       · rw[if_neg (by omega),sgnI_neg];omega
       · rw[if_neg l2,sgnI_neg] at h2;rw[if_neg (by omega),sgnI_neg];omega
   · rw[if_neg e2,sgnI_neg] at h2;rw[if_neg (by omega),sgnI_neg];omega
 · rw[if_neg e1,sgnI_neg] at h1
   by_cases e2:lenR n b=lenR n c
   · rw[if_neg (by omega),sgnI_neg];omega
   · rw[if_neg e2,sgnI_neg] at h2;rw[if_neg (by omega),sgnI_neg];omega
/-! ### A route inserted at its place -/
def plcR (n:Net) (r:List Int) (L:List (List Int)):Nat→Nat
 | 0=>0
 | i+1=>if cmpR n r (L[i]?.getD [])<0 then plcR n r L i else i+1
def insR (n:Net) (L:List (List Int)) (r:List Int):List (List Int):=L.take (plcR n r L L.length)++r::L.drop (plcR n r L L.length)
theorem plcR_le (n:Net) (r:List Int) (L:List (List Int)):∀i,plcR n r L i≤i
 | 0=>ξr _
 | i+1=>by
   rw[plcR];split
   · exact Nat.le_succ_of_le (plcR_le n r L i)
   · exact ξr _
theorem plcR_hi {n:Net} {r:List Int} {L:List (List Int)} :∀{i k:Nat},plcR n r L i≤k→k<i→cmpR n r (L[k]?.getD [])<0
 | 0,_,_,h=>by omega
 | i+1,k,h1,h2=>by
   rw[plcR] at h1
   split at h1
   · rename_i hc
     by_cases e:k=i
     · rw[e];exact hc
     · exact plcR_hi h1 (by omega)
   · omega
theorem plcR_lo {n:Net} {r:List Int} {L:List (List Int)} :∀{i:Nat},0<plcR n r L i→ ¬cmpR n r (L[plcR n r L i-1]?.getD [])<0
 | 0,h=>by simp[plcR] at h
 | i+1,h=>by
   rw[plcR] at h ⊢
   split at h
   · rename_i hc
     rw[if_pos hc];exact plcR_lo h
   · rename_i hc
     rw[if_neg hc];exact hc
def srtR (n:Net) (L:List (List Int)):Prop:=L.Pairwise fun a b=>cmpR n a b<0
theorem insR_perm (n:Net) (L:List (List Int)) (r:List Int):(insR n L r).Perm (r::L):=by
 unfold insR
 have:=List.perm_middle (a:=r) (l₁:=L.take (plcR n r L L.length)) (l₂:=L.drop (plcR n r L L.length))
 rwa [List.take_append_drop] at this
theorem insR_len (n:Net) (L:List (List Int)) (r:List Int):(insR n L r).length=L.length+1:=by
 rw[(insR_perm n L r).length_eq];rfl
theorem insR_srt {n:Net} {L:List (List Int)} {r:List Int} (h:srtR n L) (hr:r ∉ L):srtR n (insR n L r):=by
 unfold insR srtR
 have hp:=plcR_le n r L L.length
 have hhi:=fun k h1 h2=>@plcR_hi n r L L.length k h1 h2
 have hlo:=@plcR_lo n r L L.length
 generalize plcR n r L L.length=p at *
 have h':(L.take p++L.drop p).Pairwise fun a b=>cmpR n a b<0:=by rw[List.take_append_drop];exact h
 obtain⟨ha,hb,hab⟩:=List.pairwise_append.1 h'
 refine List.pairwise_append.2 ⟨ha,List.pairwise_cons.2 ⟨fun y hy=> ?_,hb⟩,fun x hx y hy=> ?_⟩
 · obtain⟨k,hk,e⟩:=List.getElem_of_mem hy
   rw[List.length_drop] at hk
   have:=hhi (p+k) (by omega) (by omega)
   rw[ξg (by omega)] at this
   rw[List.getElem_drop] at e
   rw[←e];exact this
 · rcases List.mem_cons.1 hy with rfl | hy
   · have hp0:0<p:=by
      rcases Nat.eq_zero_or_pos p with e | e
      · rw[e] at hx;simp at hx
      · exact e
     have h1:=hlo hp0
     have hpl:p-1<L.length:=by omega
     rw[ξg hpl] at h1
     have h2:cmpR n L[p-1] y<0:=cmpR_tot h1 (fun e=>hr (by rw[e];exact List.getElem_mem hpl))
     obtain⟨k,hk,e⟩:=List.getElem_of_mem hx
     rw[List.length_take] at hk
     rw[List.getElem_take] at e
     by_cases hkp:k=p-1
     · subst hkp;rw[←e];exact h2
     · have:=List.pairwise_iff_getElem.1 h k (p-1) (by omega) hpl (by omega)
       rw[e] at this
       exact cmpR_trans this h2
   · exact hab x hx y hy
theorem srtR_one {n:Net} {L M:List (List Int)} (h1:srtR n L) (h2:srtR n M) (hp:L.Perm M):L=M:=
 List.Perm.eq_of_pairwise (le:=fun a b=>cmpR n a b<0) (fun _ _ _ _ x y=>absurd y (cmpR_asym x)) h1 h2 hp
theorem insAll {n:Net} :∀{M L:List (List Int)},srtR n L→(L++M).Nodup→srtR n (M.foldl (insR n) L)∧(M.foldl (insR n) L).Perm (L++M)
 | [],L,h,_=>by simp;exact h
 | r::M,L,h,hn=>by
   have hr:r ∉ L:=fun hr=>by
    have:=(List.nodup_append.1 hn).2.2 r hr r (by simp)
    exact this rfl
   have hp:(insR n L r++M).Perm (L++r::M):=((insR_perm n L r).append_right M).trans List.perm_middle.symm
   obtain⟨a,b⟩:=insAll (M:=M) (insR_srt h hr) (hp.nodup_iff.2 hn)
   exact⟨a,b.trans hp⟩
/-! ### The search -/
def extR (n:Net) (tt:Int):Nat→Int→List Int→List Int→List (List Int)
 | 0,_,_,_=>[]
 | f+1,t,seen,fb=>if t=tt then[fb] else(List.range n.fs.length).flatMap fun i=>if 0≤othE (fbA n i) t∧othE (fbA n i) t ∉ seen then extR n tt f (othE (fbA n i) t) (seen++[othE (fbA n i) t]) (fb++[(i:Int)]) else[]
theorem extR_pre {n:Net} {tt:Int} :∀{f:Nat} {t:Int} {seen fb r:List Int},r∈extR n tt f t seen fb→fb <+:r
 | 0,_,_,_,_,h=>by simp[extR] at h
 | f+1,t,seen,fb,r,h=>by
   rw[extR] at h
   split at h
   · simp at h;subst h;exact List.prefix_rfl
   · obtain⟨i,-,hi⟩:=List.mem_flatMap.1 h
     split at hi
     · exact(List.prefix_append fb _).trans (extR_pre hi)
     · cases hi
theorem extR_nodup {n:Net} {tt:Int} :∀{f:Nat} {t:Int} {seen fb:List Int},(extR n tt f t seen fb).Nodup
 | 0,_,_,_=>by simp[extR]
 | f+1,t,seen,fb=>by
   rw[extR]
   split
   · simp
   · refine List.pairwise_flatMap.2 ⟨fun i _=> ?_,List.nodup_range.imp fun {i j} hij x hx y hy e=> ?_⟩
     · split
       · exact extR_nodup
       · simp
     · subst e
       split at hx
       · split at hy
         · obtain⟨u,hu⟩:=extR_pre hx
           obtain⟨v,hv⟩:=extR_pre hy
           rw[←hu] at hv
           simp only[List.append_assoc,List.append_cancel_left_eq] at hv
           simp at hv
           exact hij (by have:=hv.1;omega)
         · cases hy
       · cases hx
def feedR (n:Net) (L M:List (List Int)):List (List Int):=(M.take (201-L.length)).foldl (insR n) L
theorem fold_len (n:Net):∀(M L:List (List Int)),(M.foldl (insR n) L).length=L.length+M.length
 | [],L=>by simp
 | r::M,L=>by rw[List.foldl_cons,fold_len n M,insR_len,List.length_cons];omega
theorem feedR_len {n:Net} {L M:List (List Int)} (h:L.length≤201):(feedR n L M).length=min 201 (L.length+M.length):=by
 unfold feedR;rw[fold_len,List.length_take];omega
theorem feedR_nil (n:Net) (L:List (List Int)):feedR n L []=L:=by simp[feedR]
theorem feedR_full {n:Net} {L M:List (List Int)} (h:201≤L.length):feedR n L M=L:=by
 unfold feedR;rw[show 201-L.length=0 by omega];simp
theorem feedR_one {n:Net} {L:List (List Int)} {r:List Int} (h:L.length≤200):feedR n L [r]=insR n L r:=by
 unfold feedR;rw[List.take_of_length_le (by simp;omega)];rfl
theorem feedR_app {n:Net} {L A B:List (List Int)} (h:L.length≤201):feedR n (feedR n L A) B=feedR n L (A++B):=by
 have hl:=feedR_len (n:=n) (M:=A) h
 unfold feedR at hl ⊢
 rw[hl,List.take_append,List.foldl_append]
 congr 2
 omega
def allR (n:Net) (from_ tt:Int):List (List Int):=feedR n [] (extR n tt (n.ns.length+1) from_ [from_] [])
theorem allR_srt (n:Net) (from_ tt:Int) (h:(extR n tt (n.ns.length+1) from_ [from_] []).length≤200):srtR n (allR n from_ tt)∧(allR n from_ tt).Perm (extR n tt (n.ns.length+1) from_ [from_] []):=by
 unfold allR feedR
 rw[List.take_of_length_le (by simp;omega)]
 have:=insAll (n:=n) (L:=[]) (M:=extR n tt (n.ns.length+1) from_ [from_] []) List.Pairwise.nil (by simpa using extR_nodup)
 simpa using this
theorem allR_len (n:Net) (from_ tt:Int):(allR n from_ tt).length=min 201 (extR n tt (n.ns.length+1) from_ [from_] []).length:=by
 unfold allR;rw[feedR_len (by simp)];simp
theorem allR_one {n:Net} {from_ tt:Int} {L:List (List Int)} (h:(extR n tt (n.ns.length+1) from_ [from_] []).length≤200) (hs:L.Pairwise fun a b=>¬cmpR n b a<0) (hp:L.Perm (extR n tt (n.ns.length+1) from_ [from_] [])):L=allR n from_ tt:=by
 obtain⟨h1,h2⟩:=allR_srt n from_ tt h
 have hn:L.Nodup:=hp.nodup_iff.2 extR_nodup
 refine srtR_one ?_ h1 (hp.trans h2.symm)
 exact(List.Pairwise.and hs hn).imp fun {a b} ⟨x,y⟩=>cmpR_tot x (fun e=>y e.symm)
section
variable {α : Type} {k : α → Int}
def ltS (k:α→Int) (x y:α × Nat):Prop:=k x.1<k y.1∨(k x.1=k y.1∧x.2<y.2)
theorem ltS_asym {x y:α × Nat} (h:ltS k x y):¬ltS k y x:=fun h2=>by unfold ltS at h h2;omega
theorem ltS_trans {x y z:α × Nat} (h:ltS k x y) (h2:ltS k y z):ltS k x z:=by unfold ltS at h h2 ⊢;omega
theorem ltS_cross {x y:α × Nat} (h:x.2<y.2):ltS k y x↔k y.1<k x.1:=by unfold ltS;omega
theorem ltS_cross' {x y:α × Nat} (h:x.2<y.2):ltS k x y↔ ¬k y.1<k x.1:=by unfold ltS;omega
def srtS (k:α→Int) (L:List (α × Nat)):Prop:=L.Pairwise (ltS k)
def crsS (X Y:List (α × Nat)):Prop:=∀x∈X,∀y∈Y,x.2<y.2
theorem srtS_at {L:List (α × Nat)} (h:srtS k L) {i j:Nat} (hij:i<j) (hj:j<L.length):ltS k L[i] L[j]:=List.pairwise_iff_getElem.1 h i j (by omega) hj hij
theorem srtS_join {L R:List (α × Nat)} (h1:srtS k L) (h2:srtS k R) (h:∀x∈L,∀y∈R,ltS k x y):srtS k (L++R):=List.pairwise_append.2 ⟨h1,h2,h⟩
theorem srtS_ins {L:List (α × Nat)} {x:α × Nat} {i:Nat} (h:srtS k L) (hi:i≤L.length) (h1:∀hi0:0<i,ltS k (L[i-1]'(by omega)) x) (h2:∀hl:i<L.length,ltS k x L[i]):srtS k (L.take i++x::L.drop i):=by
 refine srtS_join (List.Pairwise.sublist (List.take_sublist i L) h) (List.pairwise_cons.2 ⟨fun y hy=> ?_,List.Pairwise.sublist (List.drop_sublist i L) h⟩) fun a ha b hb=> ?_
 · obtain⟨j,hj,e⟩:=List.getElem_of_mem hy
   rw[List.length_drop] at hj
   rw[List.getElem_drop] at e
   rw[←e]
   have hx:=h2 (by omega)
   rcases Nat.eq_zero_or_pos j with rfl | hj0
   · exact hx
   · exact ltS_trans hx (srtS_at h (by omega) (by omega))
 · obtain⟨j,hj,e⟩:=List.getElem_of_mem ha
   rw[List.length_take] at hj
   rw[List.getElem_take] at e
   have hax:ltS k a x:=by
    rw[←e]
    have hx:=h1 (by omega)
    by_cases hji:j=i-1
    · subst hji;exact hx
    · exact ltS_trans (srtS_at h (by omega) (by omega)) hx
   rcases List.mem_cons.1 hb with rfl | hb
   · exact hax
   · obtain⟨j2,hj2,e2⟩:=List.getElem_of_mem hb
     rw[List.length_drop] at hj2
     rw[List.getElem_drop] at e2
     rw[←e,←e2]
     exact srtS_at h (by omega) (by omega)
theorem cutS {X Y:List (α × Nat)} (hx:srtS k X) (hy:srtS k Y) {s e:Nat} (hs:s≤X.length) (he:e≤Y.length)
 (c1:∀(h1:0<s) (h2:e<Y.length),ltS k (X[s-1]'(by omega)) Y[e]) (c2:∀(h1:0<e) (h2:s<X.length),ltS k (Y[e-1]'(by omega)) X[s]):
 ∀x∈X.take s++Y.take e,∀y∈X.drop s++Y.drop e,ltS k x y:=by
 intro x hx1 y hy1
 rcases List.mem_append.1 hx1 with h | h
 · obtain⟨i,hi,ei⟩:=List.getElem_of_mem h
   rw[List.length_take] at hi
   rw[List.getElem_take] at ei
   rcases List.mem_append.1 hy1 with g | g
   · obtain⟨j,hj,ej⟩:=List.getElem_of_mem g
     rw[List.length_drop] at hj
     rw[List.getElem_drop] at ej
     rw[←ei,←ej];exact srtS_at hx (by omega) (by omega)
   · obtain⟨j,hj,ej⟩:=List.getElem_of_mem g
     rw[List.length_drop] at hj
     rw[List.getElem_drop] at ej
     have hc:=c1 (by omega) (by omega)
     have h1:X[i]=X[s-1]∨ltS k X[i] X[s-1]:=by
      by_cases e1:i=s-1
      · subst e1;exact .inl rfl
      · exact .inr (srtS_at hx (by omega) (by omega))
     have h2:Y[e+j]=Y[e]∨ltS k Y[e] Y[e+j]:=by
      rcases Nat.eq_zero_or_pos j with rfl | hj0
      · exact .inl rfl
      · exact .inr (srtS_at hy (by omega) (by omega))
     rw[←ei,←ej]
     have h3:ltS k X[i] Y[e]:=by
      rcases h1 with h1 | h1
      · rw[h1];exact hc
      · exact ltS_trans h1 hc
     rcases h2 with h2 | h2
     · rw[h2];exact h3
     · exact ltS_trans h3 h2
 · obtain⟨i,hi,ei⟩:=List.getElem_of_mem h
   rw[List.length_take] at hi
   rw[List.getElem_take] at ei
   rcases List.mem_append.1 hy1 with g | g
   · obtain⟨j,hj,ej⟩:=List.getElem_of_mem g
     rw[List.length_drop] at hj
     rw[List.getElem_drop] at ej
     have hc:=c2 (by omega) (by omega)
     have h1:Y[i]=Y[e-1]∨ltS k Y[i] Y[e-1]:=by
      by_cases e1:i=e-1
      · subst e1;exact .inl rfl
      · exact .inr (srtS_at hy (by omega) (by omega))
     have h2:X[s+j]=X[s]∨ltS k X[s] X[s+j]:=by
      rcases Nat.eq_zero_or_pos j with rfl | hj0
      · exact .inl rfl
      · exact .inr (srtS_at hx (by omega) (by omega))
     rw[←ei,←ej]
     have h3:ltS k Y[i] X[s]:=by
      rcases h1 with h1 | h1
      · rw[h1];exact hc
      · exact ltS_trans h1 hc
     rcases h2 with h2 | h2
     · rw[h2];exact h3
     · exact ltS_trans h3 h2
   · obtain⟨j,hj,ej⟩:=List.getElem_of_mem g
     rw[List.length_drop] at hj
     rw[List.getElem_drop] at ej
     rw[←ei,←ej];exact srtS_at hy (by omega) (by omega)
theorem mrgS {X Y L R:List (α × Nat)} (hx:srtS k X) (hy:srtS k Y) {s e:Nat} (hs:s≤X.length) (he:e≤Y.length)
 (c1:∀(h1:0<s) (h2:e<Y.length),ltS k (X[s-1]'(by omega)) Y[e]) (c2:∀(h1:0<e) (h2:s<X.length),ltS k (Y[e-1]'(by omega)) X[s])
 (hL:srtS k L) (hLp:L.Perm (X.take s++Y.take e)) (hR:srtS k R) (hRp:R.Perm (X.drop s++Y.drop e)):srtS k (L++R)∧(L++R).Perm (X++Y):=by
 refine⟨srtS_join hL hR fun x h1 y h2=>cutS hx hy hs he c1 c2 x (hLp.mem_iff.1 h1) y (hRp.mem_iff.1 h2),?_⟩
 have h1:(L++R).Perm ((X.take s++Y.take e)++(X.drop s++Y.drop e)):=hLp.append hRp
 have h2:((X.take s++Y.take e)++(X.drop s++Y.drop e)).Perm ((X.take s++X.drop s)++(Y.take e++Y.drop e)):=by
  rw[List.append_assoc,List.append_assoc]
  refine List.Perm.append_left _ ?_
  rw[←List.append_assoc,←List.append_assoc]
  exact List.Perm.append_right _ List.perm_append_comm
 rw[List.take_append_drop,List.take_append_drop] at h2
 exact h1.trans h2
def tagS (zs:List α):List (α × Nat):=zs.zipIdx
theorem tagS_fst (zs:List α):(tagS zs).map Prod.fst=zs:=by unfold tagS;simp
end
section
variable {α : Type} {k : α → Int} {p : α → Bool}
def isBest (k:α→Int) (p:α→Bool) (L:List (α × Nat)) (x:α × Nat):Prop:=x∈L∧p x.1=true∧ ∀y∈L,p y.1=true→y=x∨ltS k x y
theorem isBest_one {L:List (α × Nat)} {x y:α × Nat} (hx:isBest k p L x) (hy:isBest k p L y):x=y:=by
 rcases hx.2.2 y hy.1 hy.2.1 with h | h
 · exact h.symm
 · rcases hy.2.2 x hx.1 hx.2.1 with g | g
   · exact g
   · exact absurd g (ltS_asym h)
theorem head_best {S L:List (α × Nat)} (hs:srtS k S) (hp:S.Perm L) {x:α × Nat} {T:List (α × Nat)} (h:S.filter (fun y=>p y.1)=x::T):isBest k p L x:=by
 have hx:x∈S.filter (fun y=>p y.1):=by rw[h];exact List.mem_cons_self
 obtain⟨h1,h2⟩:=List.mem_filter.1 hx
 refine⟨hp.mem_iff.1 h1,h2,fun y hy hpy=> ?_⟩
 have hy2:y∈S.filter (fun y=>p y.1):=List.mem_filter.2 ⟨hp.mem_iff.2 hy,hpy⟩
 rw[h] at hy2
 rcases List.mem_cons.1 hy2 with e | e
 · exact .inl e
 · have hs2:srtS k (x::T):=by rw[←h];exact List.Pairwise.sublist List.filter_sublist hs
   exact .inr ((List.pairwise_cons.1 hs2).1 y e)
theorem head_none {S L:List (α × Nat)} (hp:S.Perm L) (h:S.filter (fun y=>p y.1)=[]):∀y∈L,p y.1=false:=fun y hy=>by
 have:=List.filter_eq_nil_iff.1 h y (hp.mem_iff.2 hy)
 simpa using this
def scanS (k:α→Int) (p:α→Bool) (zs:List α):Nat→Option (α × Nat)
 | 0=>none
 | i+1=>match zs[i]?,scanS k p zs i with
   | none,o=>o
   | some z,none=>if p z then some (z,i) else none
   | some z,some b=>if p z&&decide (k z<k b.1) then some (z,i) else some b
theorem tag_take {zs:List α} {i:Nat} {x:α × Nat} :x∈(tagS zs).take i↔x.2<i∧zs[x.2]?= some x.1:=by
 constructor
 · intro h
   obtain⟨j,hj,e⟩:=List.getElem_of_mem h
   rw[List.length_take] at hj
   rw[List.getElem_take] at e
   unfold tagS at e hj
   rw[List.length_zipIdx] at hj
   rw[List.getElem_zipIdx] at e
   subst e
   refine⟨by simp;omega,?_⟩
   simp only[Nat.zero_add]
   exact ξg (by omega)
 · rintro⟨h1,h2⟩
   obtain⟨hl,e⟩:=ξl h2
   refine List.mem_of_getElem? (i:=x.2) ?_
   rw[List.getElem?_take_of_lt h1]
   unfold tagS
   rw[List.getElem?_zipIdx,h2]
   simp
theorem scanS_step {zs:List α} {i:Nat} {z:α} (hz:zs[i]?= some z):scanS k p zs (i+1)=match scanS k p zs i with
 | none=>if p z then some (z,i) else none
 | some b=>if p z&&decide (k z<k b.1) then some (z,i) else some b:=by
 rw[scanS,hz]
 cases scanS k p zs i <;> rfl
theorem scanS_some {zs:List α} :∀{i:Nat} {x:α × Nat},i≤zs.length→scanS k p zs i=some x→isBest k p ((tagS zs).take i) x
 | 0,x,_,h=>by simp[scanS] at h
 | i+1,x,hi,h=>by
   have hz:zs[i]?= some zs[i]:=ξg (by omega)
   have hmem:∀y:α × Nat,y∈(tagS zs).take (i+1)↔y∈(tagS zs).take i∨y=(zs[i],i):=fun y=>by
    rw[tag_take,tag_take]
    constructor
    · rintro⟨h1,h2⟩
      by_cases e:y.2=i
      · right
        rw[e,hz] at h2
        exact Prod.ext (ξo h2).symm e
      · exact .inl ⟨by omega,h2⟩
    · rintro(⟨h1,h2⟩ | rfl)
      · exact⟨by omega,h2⟩
      · exact⟨by simp,hz⟩
   rw[scanS_step hz] at h
   cases ho:scanS k p zs i with
   | none=>
     rw[ho] at h
     simp only at h
     split at h
     · rename_i hpz
       cases h
       refine⟨(hmem _).2 (.inr rfl),hpz,fun y hy hpy=> ?_⟩
       rcases(hmem y).1 hy with e | e
       · exact absurd hpy (by rw[scanS_none (by omega) ho y e];simp)
       · exact .inl e
     · cases h
   | some b=>
     rw[ho] at h
     simp only at h
     have hb:=scanS_some (by omega) ho
     have hbi:=(tag_take.1 hb.1).1
     split at h
     · rename_i hc
       simp only[Bool.and_eq_true,decide_eq_true_eq] at hc
       cases h
       refine⟨(hmem _).2 (.inr rfl),hc.1,fun y hy hpy=> ?_⟩
       rcases(hmem y).1 hy with e | e
       · right
         have hlt:ltS k (zs[i],i) b:= .inl hc.2
         rcases hb.2.2 y e hpy with e2 | e2
         · rw[e2];exact hlt
         · exact ltS_trans hlt e2
       · exact .inl e
     · rename_i hc
       cases h
       refine⟨(hmem _).2 (.inl hb.1),hb.2.1,fun y hy hpy=> ?_⟩
       rcases(hmem y).1 hy with e | e
       · exact hb.2.2 y e hpy
       · right
         subst e
         simp only at hpy
         rw[hpy] at hc
         simp only[Bool.true_and,decide_eq_true_eq] at hc
         exact(ltS_cross' (y:=(zs[i],i)) hbi).2 hc
where
 scanS_none {zs:List α} :∀{i:Nat},i≤zs.length→scanS k p zs i=none→ ∀y∈(tagS zs).take i,p y.1=false
 | 0,_,_,y,hy=>by simp at hy
 | i+1,hi,h,y,hy=>by
   have hz:zs[i]?= some zs[i]:=ξg (by omega)
   rw[scanS_step hz] at h
   cases ho:scanS k p zs i with
   | none=>
     rw[ho] at h
     simp only at h
     obtain⟨h1,h2⟩:=tag_take.1 hy
     by_cases e:y.2=i
     · rw[e,hz] at h2
       rw[←ξo h2]
       cases hp:p zs[i]
       · rfl
       · rw[hp] at h;simp at h
     · exact scanS_none (by omega) ho y (tag_take.2 ⟨by omega,h2⟩)
   | some b=>
     rw[ho] at h
     simp only at h
     split at h <;> cases h
end
/-! ### Slots that a route needs -/
def bstI (fs:List Fmt) (len:Int):Nat→Int
 | 0=> -1
 | k+1=>if len≤(fs[k]?.getD nilFm).c then(k:Int) else bstI fs len k
theorem bstI_rng (fs:List Fmt) (len:Int):∀k:Nat,-1≤bstI fs len k∧bstI fs len k<k
 | 0=>by simp[bstI]
 | k+1=>by
   have:=bstI_rng fs len k
   rw[bstI];split <;> omega
def slI (fs:List Fmt) (len rate:Int):Int:=
 if bstI fs len fs.length<0 then 0 else
  if 24<(rate+(fs[(bstI fs len fs.length).toNat]?.getD nilFm).r-1)/(fs[(bstI fs len fs.length).toNat]?.getD nilFm).r then 0
  else(rate+(fs[(bstI fs len fs.length).toNat]?.getD nilFm).r-1)/(fs[(bstI fs len fs.length).toNat]?.getD nilFm).r
theorem slI_le (fs:List Fmt) (len rate:Int):slI fs len rate≤24:=by
 unfold slI;split
 · omega
 · split <;> omega
/-! ### What lights occupy -/
def usedN (ls:List Lgt) (i:Int):Nat:=ls.foldl (fun m x=>if x.fb.contains i then m ||| mskN x.fi.toNat x.ct.toNat else m) 0
def alongN (ls:List Lgt) (fb:List Int):Nat:=fb.foldl (fun m i=>m ||| usedN ls i) 0
def fitsN (m c:Nat):List Nat:=(List.range (25-c)).filter fun s=>m &&& mskN s c==0
theorem used_bit (i:Int) (b:Nat):∀(ls:List Lgt) (m:Nat),(ls.foldl (fun m x=>if x.fb.contains i then m ||| mskN x.fi.toNat x.ct.toNat else m) m).testBit b=(m.testBit b || ls.any fun x=>x.fb.contains i&&(mskN x.fi.toNat x.ct.toNat).testBit b)
 | [],m=>by simp
 | x::ls,m=>by
   rw[List.foldl_cons,used_bit i b ls,List.any_cons]
   cases h:x.fb.contains i
   · simp
   · simp[Nat.testBit_or,Bool.or_assoc]
theorem usedN_bit (ls:List Lgt) (i:Int) (b:Nat):(usedN ls i).testBit b=ls.any fun x=>x.fb.contains i&&(mskN x.fi.toNat x.ct.toNat).testBit b:=by
 unfold usedN;rw[used_bit];simp
theorem along_bit (ls:List Lgt) (b:Nat):∀(fb:List Int) (m:Nat),(fb.foldl (fun m i=>m ||| usedN ls i) m).testBit b=(m.testBit b || fb.any fun i=>(usedN ls i).testBit b)
 | [],m=>by simp
 | i::fb,m=>by rw[List.foldl_cons,along_bit ls b fb,List.any_cons,Nat.testBit_or,Bool.or_assoc]
theorem alongN_bit (ls:List Lgt) (fb:List Int) (b:Nat):(alongN ls fb).testBit b=fb.any fun i=>(usedN ls i).testBit b:=by
 unfold alongN;rw[along_bit];simp
theorem fits_apart {ls:List Lgt} {fb:List Int} {s c:Nat} (h:alongN ls fb &&& mskN s c=0) {x:Lgt} (hx:x∈ls) (hm:meets x.fb fb=true):mskN x.fi.toNat x.ct.toNat &&& mskN s c=0:=by
 apply Nat.eq_of_testBit_eq
 intro b
 have hb:=congrArg (fun n=>n.testBit b) h
 simp only[Nat.testBit_and,Nat.zero_testBit] at hb ⊢
 cases h1:(mskN s c).testBit b
 · simp
 · rw[h1,Bool.and_true] at hb
   rw[Bool.and_true]
   cases h2:(mskN x.fi.toNat x.ct.toNat).testBit b
   · rfl
   · exfalso
     unfold meets at hm
     obtain⟨i,hi,hi2⟩:=List.any_eq_true.1 hm
     have h3:(alongN ls fb).testBit b=true:=by
      rw[alongN_bit]
      refine List.any_eq_true.2 ⟨i,by simpa using hi2,?_⟩
      rw[usedN_bit]
      exact List.any_eq_true.2 ⟨x,hx,by simp[hi,h2]⟩
     rw[h3] at hb;cases hb
/-! ### Choosing -/
def usaR (n:Net) (fs:List Fmt) (d:Dem):List (List Int × Int):=(allR n d.a d.b).filterMap fun fb=>if 0<slI fs (lenR n fb) d.r then some (fb,slI fs (lenR n fb) d.r) else none
def costU (u:List Int × Int):Int:=u.2*(u.1.length:Int)
def fitU (ls:List Lgt) (u:List Int × Int):List Nat:=fitsN (alongN ls u.1) u.2.toNat
def okU (ls:List Lgt) (u:List Int × Int):Bool:=!(fitU ls u).isEmpty
def pickU (n:Net) (fs:List Fmt) (d:Dem) (ls:List Lgt):Option ((List Int × Int) × Nat):=scanS costU (okU ls) (usaR n fs d) (usaR n fs d).length
def lgtU (ls:List Lgt) (id st:Int) (u:List Int × Int):Lgt:=⟨id,st,u.1,((fitU ls u).headD 0:Nat),u.2⟩
def failU (n:Net) (d:Dem):Bool:=decide (200<(allR n d.a d.b).length)
/-! ### The run -/
structure PRun where
 ls:List Lgt
 bl:List Int
def putL (ls:List Lgt) (x:Lgt):List Lgt:=ls.takeWhile (fun y=>decide (y.id<x.id))++x::ls.dropWhile (fun y=>decide (y.id<x.id))
def delP (gs:List Gro) (t:Int) (ls:List Lgt) (i:Nat):List Lgt:=if(gs[i]?.getD nilG).e=t-1 then ls.eraseP (fun x=>decide (x.id=(i:Int)+1)) else ls
def addP (n:Net) (fs:List Fmt) (gs:List Gro) (t:Int) (o:Option PRun) (i:Nat):Option PRun:=
 match o with
 | none=>none
 | some r=>
   if(gs[i]?.getD nilG).s≠t then some r
   else if failU n (gs[i]?.getD nilG).d then none
   else match pickU n fs (gs[i]?.getD nilG).d r.ls with
    | some u=>some ⟨putL r.ls (lgtU r.ls ((i:Int)+1) (gs[i]?.getD nilG).d.a u.1),r.bl⟩
    | none=>some ⟨r.ls,r.bl++[(i:Int)]⟩
def delA (gs:List Gro) (t:Int) (ls:List Lgt) (k:Nat):List Lgt:=(List.range k).foldl (delP gs t) ls
def addA (n:Net) (fs:List Fmt) (gs:List Gro) (t:Int) (o:Option PRun) (k:Nat):Option PRun:=(List.range k).foldl (addP n fs gs t) o
def perP (n:Net) (fs:List Fmt) (gs:List Gro) (t:Nat) (r:PRun):Option PRun:=addA n fs gs t (some ⟨delA gs t r.ls gs.length,r.bl⟩) gs.length
def runP (n:Net) (fs:List Fmt) (gs:List Gro):Nat→Option (List (List Lgt) × PRun)
 | 0=>some ([],⟨[],[]⟩)
 | k+1=>match runP n fs gs k with
   | none=>none
   | some (ps,r)=>match perP n fs gs k r with
     | none=>none
     | some r2=>some (ps++[r2.ls],r2)
theorem delA_step (gs:List Gro) (t:Int) (ls:List Lgt) (k:Nat):delA gs t ls (k+1)=delP gs t (delA gs t ls k) k:=by
 unfold delA;rw[List.range_succ,List.foldl_append];rfl
theorem addA_step (n:Net) (fs:List Fmt) (gs:List Gro) (t:Int) (o:Option PRun) (k:Nat):addA n fs gs t o (k+1)=addP n fs gs t (addA n fs gs t o k) k:=by
 unfold addA;rw[List.range_succ,List.foldl_append];rfl
theorem addA_fail (n:Net) (fs:List Fmt) (gs:List Gro) (t:Int) {o:Option PRun} {j k:Nat} (h:addA n fs gs t o j=none) (hj:j≤k):addA n fs gs t o k=none:=by
 induction k with
 | zero=>obtain rfl:j=0:=by omega
         exact h
 | succ k ih=>
   by_cases e:j=k+1
   · subst e;exact h
   · rw[addA_step,ih (by omega)];rfl
theorem runP_len {n:Net} {fs:List Fmt} {gs:List Gro} :∀{k:Nat} {ps:List (List Lgt)} {r:PRun},runP n fs gs k=some (ps,r)→ps.length=k
 | 0,ps,r,h=>by simp[runP] at h;rw[h.1];rfl
 | k+1,ps,r,h=>by
   rw[runP] at h
   split at h
   · cases h
   · rename_i ps0 r0 h0
     split at h
     · cases h
     · rename_i r2 h2
       cases h
       rw[List.length_append,runP_len h0];rfl
theorem runP_fail {n:Net} {fs:List Fmt} {gs:List Gro} {j k:Nat} (h:runP n fs gs j=none) (hj:j≤k):runP n fs gs k=none:=by
 induction k with
 | zero=>obtain rfl:j=0:=by omega
         exact h
 | succ k ih=>
   by_cases e:j=k+1
   · subst e;exact h
   · rw[runP,ih (by omega)]
theorem demOk_parts {d:Dem} {m:Nat} (h:demOk d m=true):inB d.a 0 ((m:Int)-1)=true∧d.a≠d.b:=by
 unfold demOk at h
 simp only[Bool.and_eq_true,bne_iff_ne,ne_eq] at h
 exact⟨h.1.1.1.1,h.1.1.2⟩
/-! ### The routes of the search are routes -/
theorem extR_wlk {n:Net} {tt:Int} :∀{f:Nat} {t:Int} {seen fb r:List Int},r∈extR n tt f t seen fb→ ∃tl,r=fb++tl∧(wlk n seen t tl).isSome=true∧(tl=[]→t=tt)
 | 0,_,_,_,_,h=>by simp[extR] at h
 | f+1,t,seen,fb,r,h=>by
   rw[extR] at h
   split at h
   · rename_i ht
     simp at h
     exact⟨[],by simp[h],rfl,fun _=>ht⟩
   · obtain⟨i,hi,hm⟩:=List.mem_flatMap.1 h
     have hi:=List.mem_range.1 hi
     split at hm
     · rename_i hc
       obtain⟨tl,e,hw,-⟩:=extR_wlk hm
       refine⟨(i:Int)::tl,by rw[e];simp,?_,fun e=>by cases e⟩
       have hin:inB (i:Int) 0 ((n.fs.length:Int)-1)=true:=inB_mk (by omega) (by omega)
       rw[wlk,if_pos hin,Int.toNat_natCast,if_neg (fun hh=>hh.elim (fun x=>by omega) hc.2)]
       exact hw
     · cases hm
theorem allR_mem {n:Net} {a b:Int} {r:List Int} (h:r∈allR n a b):r∈extR n b (n.ns.length+1) a [a] []:=by
 unfold allR feedR at h
 have key:∀(M L:List (List Int)),r∈M.foldl (insR n) L→r∈L∨r∈M:=by
  intro M
  induction M with
  | nil=>intro L h;exact .inl h
  | cons m M ih=>
    intro L h
    rcases ih _ h with h | h
    · rcases List.mem_cons.1 ((insR_perm n L m).mem_iff.1 h) with e | e
      · exact .inr (by simp[e])
      · exact .inl e
    · exact .inr (by simp[h])
 rcases key _ _ h with h | h
 · cases h
 · exact List.mem_of_mem_take h
theorem allR_rou {n:Net} {a b:Int} {r:List Int} (h:r∈allR n a b) (ha:inB a 0 ((n.ns.length:Int)-1)=true) (hab:a≠b):rouOk n ⟨a,r⟩=true:=by
 obtain⟨tl,e,hw,ht⟩:=extR_wlk (allR_mem h)
 rw[List.nil_append] at e
 subst e
 have hne:r≠[]:=fun e=>hab (ht e)
 unfold rouOk rouN
 have:r.isEmpty=false:=by simpa using hne
 rw[ha,this]
 exact hw
theorem usaR_mem {n:Net} {fs:List Fmt} {d:Dem} {u:List Int × Int} (h:u∈usaR n fs d):u.1∈allR n d.a d.b∧1≤u.2∧u.2≤24:=by
 unfold usaR at h
 obtain⟨fb,h1,h2⟩:=List.mem_filterMap.1 h
 split at h2
 · rename_i hc
   cases h2
   exact⟨h1,by omega,slI_le _ _ _⟩
 · cases h2
theorem pick_in {n:Net} {fs:List Fmt} {d:Dem} {ls:List Lgt} {u:(List Int × Int) × Nat} (h:pickU n fs d ls=some u):u.1∈usaR n fs d∧okU ls u.1=true:=by
 have hb:=scanS_some (ξr _) h
 exact⟨List.mem_of_getElem? (tag_take.1 hb.1).2,hb.2.1⟩
theorem meets_comm (xs ys:List Int):meets xs ys=meets ys xs:=by
 have key:∀xs ys:List Int,meets xs ys=true→meets ys xs=true:=fun xs ys h=>by
  unfold meets at h ⊢
  obtain⟨i,h1,h2⟩:=List.any_eq_true.1 h
  exact List.any_eq_true.2 ⟨i,by simpa using h2,by simpa using h1⟩
 cases h1:meets xs ys
 · cases h2:meets ys xs
   · rfl
   · rw[key _ _ h2] at h1;cases h1
 · rw[key _ _ h1]
theorem collB_comm (x y:Lgt):collB x y=collB y x:=by
 unfold collB hitB
 rw[meets_comm]
 congr 1
 exact decide_eq_decide.2 ⟨fun h=>⟨h.2,h.1⟩,fun h=>⟨h.2,h.1⟩⟩
theorem new_ok {n:Net} {fs:List Fmt} {d:Dem} {ls:List Lgt} {u:(List Int × Int) × Nat} {id:Int} (h:pickU n fs d ls=some u) (hd:demOk d n.ns.length=true) (hid:1≤id∧id≤999) (hls:∀x∈ls,lgtOk n x=true):
 lgtOk n (lgtU ls id d.a u.1)=true∧ ∀x∈ls,collB x (lgtU ls id d.a u.1)=false:=by
 obtain⟨hu,ho⟩:=pick_in h
 obtain⟨h1,h2,h3⟩:=usaR_mem hu
 have hdp:=demOk_parts hd
 obtain⟨c,hc⟩:=Int.eq_ofNat_of_zero_le (show 0≤u.1.2 by omega)
 have hne:fitU ls u.1≠[]:=by
  unfold okU at ho
  simpa using ho
 obtain⟨f,T,hf⟩:∃f T,fitU ls u.1=f::T:=by
  cases hq:fitU ls u.1 with
  | nil=>exact absurd hq hne
  | cons f T=>exact⟨f,T,rfl⟩
 have hfm:f∈fitU ls u.1:=by rw[hf];exact List.mem_cons_self
 unfold fitU fitsN at hfm
 obtain⟨hfr,hfz⟩:=List.mem_filter.1 hfm
 have hfr:=List.mem_range.1 hfr
 have hfz:alongN ls u.1.1 &&& mskN f u.1.2.toNat=0:=by simpa using hfz
 have hct:u.1.2.toNat=c:=by rw[hc];rfl
 rw[hct] at hfz hfr
 have e:lgtU ls id d.a u.1=⟨id,d.a,u.1.1,f,c⟩:=by unfold lgtU;rw[hf,hc];rfl
 rw[e]
 refine⟨?_,fun x hx=> ?_⟩
 · unfold lgtOk blkOk
   rw[allR_rou h1 hdp.1 hdp.2,inB_mk hid.1 hid.2,inB_mk (show(1:Int)≤c by omega) (show(c:Int)≤24 by omega)]
   rw[ξt (show(0:Int)≤(f:Int) by omega),ξt (show(f:Int)≤24-(c:Int) by omega)]
   rfl
 · unfold collB
   cases hm:meets x.fb u.1.1
   · simp
   · have h0:=fits_apart hfz hx hm
     have hxo:=hls x hx
     unfold lgtOk at hxo
     simp only[Bool.and_eq_true] at hxo
     have hb:=blkOk_bd hxo.2
     have:=(mskN_meet x.fi.toNat x.ct.toNat f c (by omega) (by omega)).1 h0
     rw[Bool.and_true]
     unfold hitB
     exact ξf fun hh=>this ⟨by have:=hh.1;simp only at this;omega,by have:=hh.2;simp only at this;omega⟩
abbrev gwA (gs:List Gro) (j:Nat):Gro:=gs[j]?.getD nilG
def began (gs:List Gro) (t:Int) (i j:Nat):Prop:=(gwA gs j).s<t∨((gwA gs j).s=t∧j<i)
structure RunOk (n:Net) (gs:List Gro) (t:Int) (i:Nat) (r:PRun):Prop where
 srt:r.ls.Pairwise fun x y=>x.id<y.id
 apt:r.ls.Pairwise fun x y=>collB x y=false
 ok:∀x∈r.ls,lgtOk n x=true
 ids:∀x∈r.ls,∃j:Nat,j<gs.length∧x.id=(j:Int)+1∧(j:Int) ∉ r.bl∧t≤(gwA gs j).e∧began gs t i j
 all:∀j:Nat,j<gs.length→began gs t i j→t≤(gwA gs j).e→(j:Int) ∉ r.bl→ ∃x∈r.ls,x.id=(j:Int)+1
 bls:∀b∈r.bl,∃j:Nat,j<gs.length∧b=(j:Int)∧began gs t i j
def GrsP (n:Net) (gs:List Gro):Prop:=gs.length≤12∧ ∀j,j<gs.length→demOk (gwA gs j).d n.ns.length=true∧0≤(gwA gs j).s∧(gwA gs j).s≤(gwA gs j).e∧(gwA gs j).e<8
theorem grsOk_parts {n:Net} {gs:List Gro} (h:grsOk n gs=true):netOk n=true∧GrsP n gs:=by
 unfold grsOk at h
 simp only[Bool.and_eq_true,decide_eq_true_eq,Bool.not_eq_true',List.any_eq_false] at h
 refine⟨h.1.1,h.1.2,fun j hj=> ?_⟩
 have:=h.2 gs[j] (List.getElem_mem hj)
 unfold gwA
 rw[ξg hj,Option.getD_some]
 unfold groOk at this
 simp only[Bool.not_eq_false,Bool.and_eq_true,decide_eq_true_eq] at this
 have hb:=inB_true this.1.2
 exact⟨this.1.1,hb.1,hb.2,this.2⟩
theorem RunOk.start {n:Net} {gs:List Gro} (hg:GrsP n gs):RunOk n gs 0 0 ⟨[],[]⟩:=
 ⟨List.Pairwise.nil,List.Pairwise.nil,(fun x hx=>by cases hx),(fun x hx=>by cases hx),(fun j hj hb=>by
  have:=hg.2 j hj
  unfold began at hb;omega),(fun b hb=>by cases hb)⟩
/-! ### A light is taken out -/
theorem eraseP_mem {ls:List Lgt} (h:ls.Pairwise fun x y=>x.id<y.id) (c:Int) {x:Lgt} :x∈ls.eraseP (fun x=>decide (x.id=c))↔x∈ls∧x.id≠c:=by
 induction ls with
 | nil=>simp
 | cons y ls ih=>
   obtain⟨h1,h2⟩:=List.pairwise_cons.1 h
   by_cases e:y.id=c
   · rw[List.eraseP_cons_of_pos (by simp[e])]
     constructor
     · intro hx;exact⟨by simp[hx],by have:=h1 x hx;omega⟩
     · rintro⟨hx,hne⟩
       rcases List.mem_cons.1 hx with rfl | hx
       · exact absurd e hne
       · exact hx
   · rw[List.eraseP_cons_of_neg (by simp[e]),List.mem_cons,ih h2]
     constructor
     · rintro(rfl | ⟨hx,hne⟩)
       · exact⟨by simp,e⟩
       · exact⟨by simp[hx],hne⟩
     · rintro⟨hx,hne⟩
       rcases List.mem_cons.1 hx with rfl | hx
       · exact .inl rfl
       · exact .inr ⟨hx,hne⟩
theorem delA_sub (gs:List Gro) (t:Int) (ls:List Lgt):∀k,List.Sublist (delA gs t ls k) ls
 | 0=>by simp[delA]
 | k+1=>by
   rw[delA_step,delP]
   split
   · exact List.Sublist.trans List.eraseP_sublist (delA_sub gs t ls k)
   · exact delA_sub gs t ls k
theorem delA_mem {gs:List Gro} {t:Int} {ls:List Lgt} (h:ls.Pairwise fun x y=>x.id<y.id) {x:Lgt} :∀{k:Nat},x∈delA gs t ls k↔x∈ls∧ ∀j,j<k→ ¬(x.id=(j:Int)+1∧(gwA gs j).e=t-1)
 | 0=>by simp[delA]
 | k+1=>by
   rw[delA_step,delP]
   have ih:=delA_mem (gs:=gs) (t:=t) h (x:=x) (k:=k)
   have hs:=List.Pairwise.sublist (delA_sub gs t ls k) h
   split
   · rename_i he
     rw[eraseP_mem hs,ih]
     constructor
     · rintro⟨⟨a,b⟩,c⟩
       refine⟨a,fun j hj=> ?_⟩
       by_cases e:j=k
       · subst e;exact fun hh=>c hh.1
       · exact b j (by omega)
     · rintro⟨a,b⟩
       exact⟨⟨a,fun j hj=>b j (by omega)⟩,fun hh=>b k (by omega) ⟨hh,he⟩⟩
   · rename_i he
     rw[ih]
     constructor
     · rintro⟨a,b⟩
       refine⟨a,fun j hj=> ?_⟩
       by_cases e:j=k
       · subst e;exact fun hh=>he hh.2
       · exact b j (by omega)
     · rintro⟨a,b⟩
       exact⟨a,fun j hj=>b j (by omega)⟩
theorem RunOk.next {n:Net} {gs:List Gro} {t:Int} {r:PRun} (h:RunOk n gs t gs.length r):RunOk n gs (t+1) 0 ⟨delA gs (t+1) r.ls gs.length,r.bl⟩:=by
 have hsub:=delA_sub gs (t+1) r.ls gs.length
 have hmem:=fun x=>@delA_mem gs (t+1) r.ls h.srt x gs.length
 refine⟨List.Pairwise.sublist hsub h.srt,List.Pairwise.sublist hsub h.apt,fun x hx=>h.ok x (hsub.subset hx),fun x hx=> ?_,fun j hj hb he hn=> ?_,fun b hb=> ?_⟩
 · obtain⟨hx1,hx2⟩:=(hmem x).1 hx
   obtain⟨j,hj,e,hn,he,hb⟩:=h.ids x hx1
   have:=hx2 j hj
   refine⟨j,hj,e,hn,?_,?_⟩
   · have:¬(gwA gs j).e=t:=fun hh=>this ⟨e,by omega⟩
     omega
   · unfold began at hb ⊢;omega
 · have hb2:began gs t gs.length j:=by unfold began at hb ⊢;omega
   obtain⟨x,hx,e⟩:=h.all j hj hb2 (by omega) hn
   refine⟨x,(hmem x).2 ⟨hx,fun i hi hh=> ?_⟩,e⟩
   have:i=j:=by omega
   subst this
   omega
 · obtain⟨j,hj,e,hb2⟩:=h.bls b hb
   exact⟨j,hj,e,by unfold began at hb2 ⊢;omega⟩
/-! ### A light is put in -/
theorem putL_perm (ls:List Lgt) (x:Lgt):(putL ls x).Perm (x::ls):=by
 unfold putL
 have:=List.perm_middle (a:=x) (l₁:=ls.takeWhile (fun y=>decide (y.id<x.id))) (l₂:=ls.dropWhile (fun y=>decide (y.id<x.id)))
 rwa [List.takeWhile_append_dropWhile] at this
theorem drop_ge {ls:List Lgt} (h:ls.Pairwise fun x y=>x.id<y.id) (c:Int):∀y∈ls.dropWhile (fun y=>decide (y.id<c)),c≤y.id:=by
 induction ls with
 | nil=>intro y hy;cases hy
 | cons z ls ih=>
   obtain⟨h1,h2⟩:=List.pairwise_cons.1 h
   intro y hy
   by_cases e:z.id<c
   · rw[List.dropWhile_cons_of_pos (by simp[e])] at hy
     exact ih h2 y hy
   · rw[List.dropWhile_cons_of_neg (by simp[e])] at hy
     rcases List.mem_cons.1 hy with rfl | hy
     · omega
     · have:=h1 y hy;omega
theorem take_lt (ls:List Lgt) (c:Int):∀y∈ls.takeWhile (fun y=>decide (y.id<c)),y.id<c:=by
 induction ls with
 | nil=>intro y hy;cases hy
 | cons z ls ih=>
   intro y hy
   by_cases e:z.id<c
   · rw[List.takeWhile_cons_of_pos (by simp[e])] at hy
     rcases List.mem_cons.1 hy with rfl | hy
     · exact e
     · exact ih y hy
   · rw[List.takeWhile_cons_of_neg (by simp[e])] at hy
     cases hy
theorem putL_srt {ls:List Lgt} {x:Lgt} (h:ls.Pairwise fun x y=>x.id<y.id) (hx:∀y∈ls,y.id≠x.id):(putL ls x).Pairwise fun x y=>x.id<y.id:=by
 unfold putL
 have hd:=drop_ge h x.id
 have ht:=take_lt ls x.id
 have hdm:∀y∈ls.dropWhile (fun y=>decide (y.id<x.id)),x.id<y.id:=fun y hy=>by
  have h1:=hd y hy
  have h2:=hx y ((List.dropWhile_sublist _).subset hy)
  omega
 refine List.pairwise_append.2 ⟨List.Pairwise.sublist (List.takeWhile_sublist _) h,List.pairwise_cons.2 ⟨hdm,List.Pairwise.sublist (List.dropWhile_sublist _) h⟩,fun a ha b hb=> ?_⟩
 have h1:=ht a ha
 rcases List.mem_cons.1 hb with rfl | hb
 · exact h1
 · have:=hdm b hb;omega
theorem RunOk.step {n:Net} {fs:List Fmt} {gs:List Gro} (hg:GrsP n gs) {t:Int} {i:Nat} {r r2:PRun} (hi:i<gs.length) (h:RunOk n gs t i r) (ht:addP n fs gs t (some r) i=some r2):RunOk n gs t (i+1) r2:=by
 have hgi:=hg.2 i hi
 have hg12:=hg.1
 unfold addP at ht
 simp only at ht
 have up:∀j,began gs t i j→began gs t (i+1) j:=fun j hb=>by unfold began at hb ⊢;omega
 have nb:∀j,began gs t i j→(gwA gs i).s=t→j≠i:=fun j hb hs e=>by subst e;unfold began at hb;omega
 split at ht
 · rename_i hs
   cases ht
   have dn:∀j,began gs t (i+1) j→began gs t i j:=fun j hb=>by
    unfold began at hb ⊢
    by_cases e:j=i
    · subst e;exact .inl (by have:=hs;unfold gwA at hb ⊢;omega)
    · omega
   exact⟨h.srt,h.apt,h.ok,fun x hx=>by obtain⟨j,a,b,c,d,e⟩:=h.ids x hx;exact⟨j,a,b,c,d,up j e⟩,fun j hj hb=>h.all j hj (dn j hb),fun b hb=>by obtain⟨j,a,e,c⟩:=h.bls b hb;exact⟨j,a,e,up j c⟩⟩
 · rename_i hs
   have hs:(gwA gs i).s=t:=Classical.not_not.1 hs
   split at ht
   · cases ht
   · split at ht
     · rename_i u hu
       cases ht
       obtain⟨k1,k2⟩:=new_ok (id:=(i:Int)+1) hu hgi.1 (by omega) h.ok
       have hp:=putL_perm r.ls (lgtU r.ls ((i:Int)+1) (gwA gs i).d.a u.1)
       have hid:(lgtU r.ls ((i:Int)+1) (gwA gs i).d.a u.1).id=(i:Int)+1:=rfl
       generalize lgtU r.ls ((i:Int)+1) (gwA gs i).d.a u.1=x at *
       have hne:∀y∈r.ls,y.id≠x.id:=fun y hy e=>by
        obtain⟨j,hj,ej,_,_,hb⟩:=h.ids y hy
        exact nb j hb hs (by omega)
       have hib:(i:Int) ∉ r.bl:=fun hb=>by
        obtain⟨j,hj,ej,hb2⟩:=h.bls _ hb
        exact nb j hb2 hs (by omega)
       have hbi:began gs t (i+1) i:= .inr ⟨hs,by omega⟩
       refine⟨putL_srt h.srt hne,?_,fun y hy=> ?_,fun y hy=> ?_,fun j hj hb he hn=> ?_,fun b hb=> ?_⟩
       · refine(List.Perm.pairwise_iff (fun {a b} hh=>by rw[collB_comm];exact hh) hp).2 (List.pairwise_cons.2 ⟨fun y hy=> ?_,h.apt⟩)
         rw[collB_comm];exact k2 y hy
       · rcases List.mem_cons.1 (hp.mem_iff.1 hy) with rfl | hy
         · exact k1
         · exact h.ok y hy
       · rcases List.mem_cons.1 (hp.mem_iff.1 hy) with rfl | hy
         · exact⟨i,hi,hid,hib,by omega,hbi⟩
         · obtain⟨j,a,b,c,d,e⟩:=h.ids y hy
           exact⟨j,a,b,c,d,up j e⟩
       · by_cases e:j=i
         · subst e;exact⟨x,hp.mem_iff.2 (by simp),hid⟩
         · obtain⟨y,hy,ey⟩:=h.all j hj (by unfold began at hb ⊢;omega) he hn
           exact⟨y,hp.mem_iff.2 (by simp[hy]),ey⟩
       · obtain⟨j,a,e,c⟩:=h.bls b hb
         exact⟨j,a,e,up j c⟩
     · cases ht
       refine⟨h.srt,h.apt,h.ok,fun y hy=> ?_,fun j hj hb he hn=> ?_,fun b hb=> ?_⟩
       · obtain⟨j,a,b,c,d,e⟩:=h.ids y hy
         have:=nb j e hs
         exact⟨j,a,b,by simp[c];omega,d,up j e⟩
       · simp only[List.mem_append,List.mem_singleton,not_or] at hn
         exact h.all j hj (by unfold began at hb ⊢;omega) he hn.1
       · rcases List.mem_append.1 hb with hb | hb
         · obtain⟨j,a,e,c⟩:=h.bls b hb
           exact⟨j,a,e,up j c⟩
         · simp at hb
           exact⟨i,hi,hb,.inr ⟨hs,by omega⟩⟩
theorem addP_bl {n:Net} {fs:List Fmt} {gs:List Gro} {t:Int} {i:Nat} {r r2:PRun} (h:addP n fs gs t (some r) i=some r2):r2.bl=r.bl∨(r2.bl=r.bl++[(i:Int)]∧(gwA gs i).s=t):=by
 unfold addP at h
 simp only at h
 split at h
 · cases h;exact .inl rfl
 · rename_i hs
   split at h
   · cases h
   · split at h
     · cases h;exact .inl rfl
     · cases h;exact .inr ⟨rfl,Classical.not_not.1 hs⟩
theorem addA_ok {n:Net} {fs:List Fmt} {gs:List Gro} (hg:GrsP n gs) {t:Int} {r:PRun} (h0:RunOk n gs t 0 r):∀{i:Nat} {r2:PRun},i≤gs.length→addA n fs gs t (some r) i=some r2→RunOk n gs t i r2∧ ∃tl,r2.bl=r.bl++tl∧ ∀b∈tl,∃j:Nat,j<gs.length∧b=(j:Int)∧(gwA gs j).s=t
 | 0,r2,_,h=>by
   unfold addA at h
   simp at h
   subst h
   exact⟨h0,[],by simp,fun b hb=>by cases hb⟩
 | i+1,r2,hi,h=>by
   rw[addA_step] at h
   cases h1:addA n fs gs t (some r) i with
   | none=>rw[h1] at h;cases h
   | some r1=>
     rw[h1] at h
     obtain⟨a,tl,e,hb⟩:=addA_ok hg h0 (by omega) h1
     refine⟨RunOk.step hg (by omega) a h,?_⟩
     rcases addP_bl h with e2 | ⟨e2,hs⟩
     · exact⟨tl,by rw[e2,e],hb⟩
     · refine⟨tl++[(i:Int)],by rw[e2,e,List.append_assoc],fun b hbm=> ?_⟩
       rcases List.mem_append.1 hbm with hbm | hbm
       · exact hb b hbm
       · simp at hbm
         exact⟨i,by omega,hbm,hs⟩
theorem runP_all {n:Net} {fs:List Fmt} {gs:List Gro} (hg:GrsP n gs):∀{k:Nat} {ps:List (List Lgt)} {r:PRun},runP n fs gs k=some (ps,r)→
 RunOk n gs k 0 ⟨delA gs k r.ls gs.length,r.bl⟩∧ ∀t:Nat,t<k→ ∃rt:PRun,ps[t]?= some rt.ls∧RunOk n gs t gs.length rt∧ ∃tl,r.bl=rt.bl++tl∧ ∀b∈tl,∃j:Nat,j<gs.length∧b=(j:Int)∧(t:Int)<(gwA gs j).s
 | 0,ps,r,h=>by
   rw[runP] at h
   cases h
   refine⟨?_,fun t ht=>by omega⟩
   have e:delA gs ((0:Nat):Int) [] gs.length=[]:=List.eq_nil_of_sublist_nil (delA_sub gs _ [] gs.length)
   simp only
   rw[e]
   exact RunOk.start hg
 | k+1,ps,r,h=>by
   rw[runP] at h
   split at h
   · cases h
   · rename_i ps0 r0 h0
     split at h
     · cases h
     · rename_i r2 h2
       cases h
       obtain⟨a,b⟩:=runP_all hg h0
       unfold perP at h2
       obtain⟨c,tl,e,hb⟩:=addA_ok hg a (ξr _) h2
       have hl:=runP_len h0
       refine⟨by have:=RunOk.next c;push_cast;exact this,fun t ht=> ?_⟩
       by_cases hk:t=k
       · subst hk
         exact⟨r,by rw[List.getElem?_append_right (by omega),hl];simp,c,[],by simp,fun b hb=>by cases hb⟩
       · obtain⟨rt,x1,x2,tl2,x3,x4⟩:=b t (by omega)
         refine⟨rt,by rw[List.getElem?_append_left (by omega)];exact x1,x2,tl2++tl,by rw[e];simp only;rw[x3,List.append_assoc],fun b hbm=> ?_⟩
         rcases List.mem_append.1 hbm with hbm | hbm
         · exact x4 b hbm
         · obtain⟨j,y1,y2,y3⟩:=hb b hbm
           exact⟨j,y1,y2,by omega⟩
theorem asc_len:∀{xs:List Int} {lo m:Int},xs.Pairwise (· < ·)→(∀x∈xs,lo≤x∧x≤m)→lo≤m+1→(xs.length:Int)≤m-lo+1
 | [],lo,m,_,_,h=>by simp;omega
 | x::xs,lo,m,h,hb,hm=>by
   obtain⟨h1,h2⟩:=List.pairwise_cons.1 h
   have hx:=hb x (by simp)
   have:=asc_len (lo:=x+1) (m:=m) h2 (fun y hy=>⟨by have:=h1 y hy;omega,(hb y (by simp[hy])).2⟩) (by omega)
   simp only[List.length_cons];push_cast;omega
theorem RunOk.len {n:Net} {gs:List Gro} {t:Int} {i:Nat} {r:PRun} (hg:GrsP n gs) (h:RunOk n gs t i r):r.ls.length≤12:=by
 have hp:(r.ls.map (·.id)).Pairwise (· < ·):=List.pairwise_map.2 h.srt
 have:=asc_len (lo:=1) (m:=gs.length) hp (fun x hx=>by
  obtain⟨y,hy,rfl⟩:=List.mem_map.1 hx
  obtain⟨j,hj,e,_⟩:=h.ids y hy
  omega) (by omega)
 rw[List.length_map] at this
 have:=hg.1
 omega
end Go.Proofs.YtofcicomhnkocaaGreat
