/- Walk: the stable sort's merge (at the type of usable routes). -/
import Derived.Test.YtofcicomhnkocaaGreatBx15
set_option linter.unusedVariables false
namespace Go.Proofs.YtofcicomhnkocaaGreat
set_option maxHeartbeats 6400000
open Go.RowKit Go.Sort Go.Shelf
set_option maxRecDepth 100000
section
variable {α : Type}
theorem srtS_take {key:α→Int} {L:List (α × Nat)} (h:srtS key L) (n:Nat):srtS key (L.take n):=List.Pairwise.sublist (List.take_sublist n L) h
theorem srtS_drop {key:α→Int} {L:List (α × Nat)} (h:srtS key L) (n:Nat):srtS key (L.drop n):=List.Pairwise.sublist (List.drop_sublist n L) h
variable [Inhabited α]
def InvM (key:α→Int) (dk:Array (α × Nat)) (p s0 r0 i j:Nat):Prop:=(s0<i→ ¬key (dk[p-(i-1)]!).1<key (dk[i-1]!).1)∧(j<r0→key (dk[p-j]!).1<key (dk[j]!).1)
def CutK (na m b mid s0 r0:Nat):Prop:=(mid<m∧s0+b=mid+m∧r0=mid)∨(m≤mid∧s0=na∧r0=m)
end
structure SymT (P:Program) (rot sym:FuncId) (sv fv:Value) (na m b mid start en:Nat) (W:World) (S1 S2 S3:World→Prop):Prop where
 r1:start<m→m<en→Calls P rot #[sv,.int .i64 start,.int .i64 m,.int .i64 en,fv] W fun e w'=>e= .returned (.tuple #[])∧S1 w'
 n1:¬(start<m∧m<en)→S1 W
 r2:∀w,S1 w→na<start→start<mid→Calls P sym #[sv,.int .i64 na,.int .i64 start,.int .i64 mid,fv] w fun e w'=>e= .returned (.tuple #[])∧S2 w'
 n2:∀w,S1 w→ ¬(na<start∧start<mid)→S2 w
 r3:∀w,S2 w→mid<en→en<b→Calls P sym #[sv,.int .i64 mid,.int .i64 en,.int .i64 b,fv] w fun e w'=>e= .returned (.tuple #[])∧S3 w'
 n3:∀w,S2 w→ ¬(mid<en∧en<b)→S3 w
def SymIH {α:Type} [Inhabited α] (key:α→Int) (enc:α × Nat→List Value) (k:Nat) (w0:World) (blk off cap:Nat) (fv:Value) (N n:Nat):Prop:=
 ∀(A X Y B:List (α × Nat)) (d:Array (α × Nat)) (W:World),X.length+Y.length<n→SWK enc k w0 blk off d W→d.toList=A++(X++(Y++B))→d.size=N→0<X.length→0<Y.length→srtS key X→srtS key Y→crsS X Y→
  Calls Tryz.prog 244 #[.slice (some ⟨blk,off,none⟩) N cap,.int .i64 A.length,.int .i64 ((A.length+X.length:Nat):Int),.int .i64 ((A.length+X.length+Y.length:Nat):Int),fv] W (MrgQ key enc k w0 blk off A X Y B)
theorem symTail {α:Type} [Inhabited α] {key:α→Int} {enc:α × Nat→List Value} {w0:World} {blk off:Nat} {d0:Array (α × Nat)} {k:Nat} (hk3:k=3) (R:RowK enc k w0 blk off d0) (hsz:d0.size<1000000) (cap:Nat) (fv:Value) {A X Y B:List (α × Nat)} {dk:Array (α × Nat)}
 (hd:dk.toList=A++(X++(Y++B))) (hs:dk.size=d0.size) (hx:srtS key X) (hy:srtS key Y) (hc:crsS X Y) (hX:2≤X.length) (hY:2≤Y.length) (IH:SymIH key enc k w0 blk off cap fv d0.size (X.length+Y.length))
 {m b mid start en s0 r0:Nat} (hm:m=A.length+X.length) (hb:b=m+Y.length) (hmid:mid=(A.length+b)/2) (hK:CutK A.length m b mid s0 r0) (h1:s0≤start) (h2:start≤r0) (hen:en+start=mid+m) (hi:InvM key dk (mid+m-1) s0 r0 start start) (W:World) (hW:SWK enc k w0 blk off dk W):
 ∃S1 S2 S3:World→Prop,SymT Tryz.prog 252 244 (.slice (some ⟨blk,off,none⟩) d0.size cap) fv A.length m b mid start en W S1 S2 S3∧ ∀w,S3 w→MrgQ key enc k w0 blk off A X Y B (.returned (.tuple #[])) w:=by
 have hgx:∀i (hi:i<X.length),dk[A.length+i]! = X[i]:=fun i hi=>get_part hd hi
 have hgy:∀i (hi:i<Y.length),dk[m+i]! = Y[i]:=fun i hi=>by
  have h2:dk.toList=(A++X)++(Y++B):=by rw[hd];simp
  have:=get_part h2 hi
  rw[ξk] at this
  rw[hm];exact this
 have hsx:A.length≤start∧start≤m∧start≤mid∧en≤b:=by unfold CutK at hK;omega
 obtain⟨s,hss⟩:∃s,start=A.length+s:=⟨start-A.length,by omega⟩
 obtain⟨e,hee⟩:∃e,en=m+e:=⟨en-m,by omega⟩
 have hme:mid=start+e:=by omega
 have hsl:s≤X.length:=by omega
 have hel:e≤Y.length:=by omega
 -- the cut
 have c1:∀(z1:0<s) (z2:e<Y.length),ltS key (X[s-1]'(by omega)) Y[e]:=fun z1 z2=>by
  have hs0:s0<start:=by unfold CutK at hK;omega
  have:=hi.1 hs0
  rw[show mid+m-1-(start-1)=m+e by omega,show start-1=A.length+(s-1) by omega,hgy e z2,hgx (s-1) (by omega)] at this
  exact(ξb0 (hc _ (ξj _) _ (ξj _))).2 this
 have c2:∀(z1:0<e) (z2:s<X.length),ltS key (Y[e-1]'(by omega)) X[s]:=fun z1 z2=>by
  have hr0:start<r0:=by unfold CutK at hK;omega
  have:=hi.2 hr0
  have g2:dk[start]! = X[s]:=by rw[hss];exact hgx s z2
  rw[show mid+m-1-start=m+(e-1) by omega,hgy (e-1) (by omega),g2] at this
  exact(ltS_cross (hc _ (ξj _) _ (ξj _))).2 this
 have hmrg:=fun L Rr=>@mrgS _ key X Y L Rr hx hy s e hsl hel c1 c2
 have hX1:=srtS_take hx s
 have hX2:=srtS_drop hx s
 have hY1:=srtS_take hy e
 have hY2:=srtS_drop hy e
 have hc1:crsS (X.take s) (Y.take e):=fun x hx y hy=>hc x (List.mem_of_mem_take hx) y (List.mem_of_mem_take hy)
 have hc2:crsS (X.drop s) (Y.drop e):=fun x hx y hy=>hc x (List.mem_of_mem_drop hx) y (List.mem_of_mem_drop hy)
 have hd':dk.toList=A++(X.take s++(X.drop s++(Y.take e++(Y.drop e++B)))):=by
  rw[hd]
  conv=>lhs;rw[←List.take_append_drop s X,←List.take_append_drop e Y]
  simp only[List.append_assoc]
 have q1:(X.take s).length=s:=by rw[List.length_take];omega
 have q2:(X.drop s).length=X.length-s:=by rw[List.length_drop]
 have q3:(Y.take e).length=e:=by rw[List.length_take];omega
 have q4:(Y.drop e).length=Y.length-e:=by rw[List.length_drop]
 have hN:=ξbE hd' hs
 simp only[ξk] at hN
 generalize X.take s=X1 at *
 generalize X.drop s=X2 at *
 generalize Y.take e=Y1 at *
 generalize Y.drop e=Y2 at *
 have hsize:∀(d:Array (α × Nat)) (L:List (α × Nat)),d.toList=L→L.length=d0.size→d.size=d0.size:=fun d L h h2=>by rw[←Array.length_toList,h,h2]
 refine⟨fun w=>∃d,SWK enc k w0 blk off d w∧d.toList=A++(X1++(Y1++(X2++(Y2++B)))),
  fun w=>∃d L,SWK enc k w0 blk off d w∧d.toList=A++(L++(X2++(Y2++B)))∧L.Perm (X1++Y1)∧srtS key L,
  fun w=>∃d L Rr,SWK enc k w0 blk off d w∧d.toList=A++(L++(Rr++B))∧L.Perm (X1++Y1)∧srtS key L∧Rr.Perm (X2++Y2)∧srtS key Rr,⟨fun z1 z2=> ?_,fun z=> ?_,fun w hw z1 z2=> ?_,fun w hw z=> ?_,fun w hw z1 z2=> ?_,fun w hw z=> ?_⟩,fun w hw=> ?_⟩
 · have:=rotate_any hk3 R hsz fv cap (A:=A++X1) (X:=X2) (Y:=Y1) (B:=Y2++B) W hW (by rw[hd'];simp) hs (by omega) (by omega)
   rw[ξk,show A.length+X1.length=start by omega,show start+X2.length=m by omega,show m+Y1.length=en by omega] at this
   refine this.mono ?_
   rintro e' w' ⟨r,d',x1,x2⟩
   exact⟨r,d',x1,by rw[x2];simp⟩
 · refine⟨dk,hW,?_⟩
   rw[hd']
   by_cases z1:start<m
   · have:Y1=[]:=List.length_eq_zero_iff.1 (by omega)
     rw[this];rfl
   · have:X2=[]:=List.length_eq_zero_iff.1 (by omega)
     rw[this];rfl
 · obtain⟨d,x1,x2⟩:=hw
   have:=IH A X1 Y1 (X2++(Y2++B)) d w (by omega) x1 x2 (hsize d _ x2 (by simp only[ξk];omega)) (by omega) (by omega) hX1 hY1 hc1
   rw[show A.length+X1.length=start by omega,show start+Y1.length=mid by omega] at this
   refine this.mono ?_
   rintro e' w' ⟨r,d',Z,x1,x2,x3,x4⟩
   exact⟨r,d',Z,x1,x2,x3,x4⟩
 · obtain⟨d,x1,x2⟩:=hw
   refine⟨d,X1++Y1,x1,by rw[x2];simp,List.Perm.refl _,?_⟩
   by_cases z1:A.length<start
   · have:Y1=[]:=List.length_eq_zero_iff.1 (by omega)
     rw[this,List.append_nil];exact hX1
   · have:X1=[]:=List.length_eq_zero_iff.1 (by omega)
     rw[this,List.nil_append];exact hY1
 · obtain⟨d,L,x1,x2,x3,x4⟩:=hw
   have hL:L.length=X1.length+Y1.length:=by rw[x3.length_eq,ξk]
   have:=IH (A++L) X2 Y2 B d w (by omega) x1 (by rw[x2];simp) (hsize d _ x2 (by simp only[ξk];omega)) (by omega) (by omega) hX2 hY2 hc2
   rw[ξk,show A.length+L.length=mid by omega,show mid+X2.length=en by omega,show en+Y2.length=b by omega] at this
   refine this.mono ?_
   rintro e' w' ⟨r,d',Z,y1,y2,y3,y4⟩
   exact⟨r,d',L,Z,y1,by rw[y2];simp,x3,x4,y3,y4⟩
 · obtain⟨d,L,x1,x2,x3,x4⟩:=hw
   refine⟨d,L,X2++Y2,x1,by rw[x2];simp,x3,x4,List.Perm.refl _,?_⟩
   by_cases z1:mid<en
   · have:Y2=[]:=List.length_eq_zero_iff.1 (by omega)
     rw[this,List.append_nil];exact hX2
   · have:X2=[]:=List.length_eq_zero_iff.1 (by omega)
     rw[this,List.nil_append];exact hY2
 · obtain⟨d,L,Rr,x1,x2,x3,x4,x5,x6⟩:=hw
   obtain⟨u1,u2⟩:=hmrg L Rr x4 x3 x6 x5
   exact⟨rfl,d,L++Rr,x1,by rw[x2];simp,u2,u1⟩
theorem symRec_any {α:Type} [Inhabited α] {key:α→Int} {enc:α × Nat→List Value} {w0:World} {blk off:Nat} {d0:Array (α × Nat)} {k:Nat} (hk3:k=3) (R:RowK enc k w0 blk off d0) (hsz:d0.size<1000000) (g:Nat) (cb:Array Value) (cap:Nat)
 (eg:∀args w,(callFunc g args).run Tryz.prog w= .ok (.enter g args) w) (hC:CmpLays Tryz.prog g cb enc k (cfS key) blk off d0.size w0) {A X Y B:List (α × Nat)} {dk:Array (α × Nat)} (W:World) (h:SWK enc k w0 blk off dk W)
 (hd:dk.toList=A++(X++(Y++B))) (hs:dk.size=d0.size) (hx:srtS key X) (hy:srtS key Y) (hc:crsS X Y) (hX:2≤X.length) (hY:2≤Y.length) (IH:SymIH key enc k w0 blk off cap (.func (.func g) #[] cb) d0.size (X.length+Y.length)):
 Calls Tryz.prog 244 #[.slice (some ⟨blk,off,none⟩) d0.size cap,.int .i64 A.length,.int .i64 ((A.length+X.length:Nat):Int),.int .i64 ((A.length+X.length+Y.length:Nat):Int),.func (.func g) #[] cb] W (MrgQ key enc k w0 blk off A X Y B):=by
 have hlen:d0.size=A.length+X.length+Y.length+B.length:=by rw[ξbE hd hs];simp;omega
 obtain⟨na,hna⟩:∃na,na=A.length:=⟨_,rfl⟩
 obtain⟨m,hm⟩:∃m,m=A.length+X.length:=⟨_,rfl⟩
 obtain⟨b,hb⟩:∃b,b=m+Y.length:=⟨_,rfl⟩
 obtain⟨N,hN⟩:∃N,N=d0.size:=⟨_,rfl⟩
 obtain⟨mid,hmid⟩:∃mid,mid=(A.length+b)/2:=⟨_,rfl⟩
 obtain⟨n,hn⟩:∃n,n=mid+m:=⟨_,rfl⟩
 have HT:=ξh (fun(start en s0 r0:Nat) (hK:CutK A.length m b mid s0 r0) (h1:s0≤start) (h2:start≤r0) (hen:en+start=mid+m) (hi:InvM key dk (mid+m-1) s0 r0 start start) (wx:World) (hW:SWK enc k w0 blk off dk wx)=>
  symTail hk3 R hsz cap (.func (.func g) #[] cb) hd hs hx hy hc hX hY IH hm hb hmid hK h1 h2 hen hi wx hW)
 have k1:na+2≤m:=by omega
 have k2:m+2≤b:=by omega
 have k3:b≤N:=by omega
 have k4:N<1000000:=by omega
 have k5:na<mid∧mid<b∧(mid=(na+b)/2):=by omega
 rw[←hn,←hna,←hN] at HT
 rw[←hm,←hb,←hna,←hN]
 rw[←hN] at hs hC
 have HS:=ξh hs
 have HR:=ξh R
 have HW:=ξh h
 have HC:=ξh hC
 have HNE:=ξh hN
 have HN2:=ξh hn
 have HM:=ξh (show m≤b∧n≤2*N by omega)
 clear R h hd hs hlen hm hb hN hsz hy hc hC hx hX hY IH hna hmid hn
 have F:=Tryz.func244
 have mixed:Tryz.prog.follows .mixedOrders=true:=by kernel_rfl
 have t0:=Tryz.underlying3;have a0:=Tryz.isAgg3;have z0:=Tryz.sizeOf3;have v0:=Tryz.zeroValue3
 have t1:=Tryz.underlying4;have a1:=Tryz.isAgg4;have z1:=Tryz.sizeOf4;have v1:=Tryz.zeroValue4
 have t2:=Tryz.underlying164;have a2:=Tryz.isAgg164;have z2:=Tryz.sizeOf164;have v2:=Tryz.zeroValue164
 have t3:=Tryz.underlying184;have a3:=Tryz.isAgg184;have z3:=Tryz.sizeOf184;have v3:=Tryz.zeroValue184
 have t4:=Tryz.underlying189;have a4:=Tryz.isAgg189;have z4:=Tryz.sizeOf189;have v4:=Tryz.zeroValue189
 rw[←hk3] at z4
 have HK3:=ξh hk3
 clear hk3
 have F2:∀args w,(callFunc 252 args).run Tryz.prog w= .ok (.enter 252 args) w:=enters_of Tryz.func252 (by kernel_rfl) rfl
 have F3:∀args w,(callFunc 244 args).run Tryz.prog w= .ok (.enter 244 args) w:=enters_of Tryz.func244 (by kernel_rfl) rfl
 generalize Tryz.prog=P at *
 obtain⟨d1,hd1⟩:∃d,d+na=m:=⟨m-na,by omega⟩
 obtain⟨d2,hd2⟩:∃d,d+m=b:=⟨b-m,by omega⟩
 have hw0:IntKind.i64.wrap ((m:Int)-(na:Int))=(d1:Int):=by rw[ξi _ (by omega)];omega
 have hw1:IntKind.i64.wrap ((b:Int)-(m:Int))=(d2:Int):=by rw[ξi _ (by omega)];omega
 have hb0:((d1:Int)==1)=false:=by rw[beq_eq_false_iff_ne];omega
 have hb1:((d2:Int)==1)=false:=by rw[beq_eq_false_iff_ne];omega
 have hw2:((na:Int)+(b:Int))/2=(mid:Int):=by omega
 have hw3:(mid:Int)+(m:Int)=(n:Int):=by have:=HN2.out;omega
 obtain⟨pp,hpp⟩:∃pp,pp=n-1:=⟨_,rfl⟩
 have HPP:=ξh hpp
 have hw4:(n:Int)-1=(pp:Int):=by have:=HN2.out;omega
 have K5:=ξh k5
 obtain⟨s0,r0,hK,hsr⟩:∃s0 r0,CutK na m b mid s0 r0∧(mid<m→(n:Int)-(b:Int)=(s0:Int)):=by
  by_cases hg:mid<m
  · refine⟨mid+m-b,mid,.inl ⟨hg,by omega,rfl⟩,fun _=> ?_⟩
    have:=HN2.out
    omega
  · exact⟨na,m,.inr ⟨by omega,rfl,rfl⟩,fun h=>absurd h hg⟩
 have HK:=ξh hK
 clear hd1 hd2 k5 hpp
 have HSI:=ξh (show s0≤r0∧r0≤mid∧r0≤m∧n≤s0+b∧na≤s0 from by have hk:=HK.out;have:=K5.out;have:=HN2.out;unfold CutK at hk;omega)
 by_cases hg:mid<m
 · have hgI:(m:Int)>(mid:Int):=by omega
   have hw5:=hsr hg
   obtain rfl:mid=r0:=by have:=HK.out;unfold CutK at this;omega
   clear hsr hg
   go_enter F,Tryz.ntmps244
   go_wp2
   clear hb0 hb1 hw0 hw1 hw2 hw3 hw4 hgI hw5
   go_loopw [20,21,23] (fun vi vj _ wr=>∃i j:Nat,s0≤i∧i≤j∧j≤mid∧vi= .int .i64 i∧vj= .int .i64 j∧Hid (InvM key dk pp s0 mid i j)∧Hid (SWK enc k w0 blk off dk wr)) (fun vi vj _ _=>(intOf vj).toNat-(intOf vi).toNat)
   case atStart=>exact⟨s0,mid,ξr _,by have:=HSI.out;omega,ξr _,rfl,rfl,(show InvM key dk pp s0 mid s0 mid from⟨fun h=>absurd h (by omega),fun h=>absurd h (by omega)⟩),HW⟩
   case round=>
    obtain⟨i,j,hmi,hij,hjb,rfl,rfl,HI,HD⟩:=hrel
    by_cases hlt:i<j
    · have hltI:(i:Int)<(j:Int):=by omega
      obtain⟨c,hc⟩:∃c,c=(i+j)/2:=⟨_,rfl⟩
      have hci:i≤c:=by omega
      have hcj:c<j:=by omega
      have hc2:((i:Int)+(j:Int))/2=(c:Int):=by omega
      clear hc
      obtain⟨q,hq⟩:∃q,q=pp-c:=⟨_,rfl⟩
      have hqc:q+c=pp∧q<N:=by have:=HSI.out;have:=HN2.out;have:=HPP.out;omega
      have hqs:IntKind.i64.wrap ((pp:Int)-(c:Int))=(q:Int):=by rw[ξi _ (by omega)];omega
      have hcN:(c:Int)<(N:Int):=by have:=HSI.out;omega
      have hnN:(q:Int)<(N:Int):=by omega
      have l1:=fun n' os'=>HD.ld HR.out (by rw[HS.out,HNE.out]) P c (by rw[HS.out];omega) n' os'
      have l2:=fun n' os'=>HD.ld HR.out (by rw[HS.out,HNE.out]) P q (by rw[HS.out];omega) n' os'
      have hcg:=fun n' os'=>HD.cmp HC.out HS.out dk[q]! dk[c]! n' os'
      have HLT:=ξh (cfS_neg key dk[q]! dk[c]!)
      generalize cfS key dk[q]! dk[c]! = cv at *
      have HQ:=ξh hq
      clear hq hqc
      by_cases hlv:cv<0
      · go_wp2_with fail
        go_quiet_grown (first | (go_at_fn g;refine Calls.grown_of (hcg _ _)))
        clear l1 l2 hcg hc2 hltI hqs
        have HD2:=ξh (HD.grown nq osq)
        generalize grow (wr.drewN nq) osq=wq at *
        go_wp2
        go_roundw
        case rel=>exact⟨i,c,hmi,hci,by omega,by go_num,rfl,(show InvM key dk pp s0 mid i c from⟨HI.1,fun _=>by have:=HLT.1 hlv;rwa [HQ.out] at this⟩),HD2⟩
        case measure=>simp[intOf];omega
      · have HNL:Hid (¬cv<0):=hlv
        have hcd:decide (cv<0)=false:=ξf hlv
        have hcd2:decide (0≤cv)=true:=ξt (by omega)
        go_wp2_with fail
        go_quiet_grown (first | (go_at_fn g;refine Calls.grown_of (hcg _ _)))
        clear l1 l2 hcg hc2 hltI hqs
        have HD2:=ξh (HD.grown nq osq)
        generalize grow (wr.drewN nq) osq=wq at *
        go_wp2
        go_roundw
        case rel=>exact⟨c+1,j,by omega,by omega,hjb,by go_num,rfl,(show InvM key dk pp s0 mid (c+1) j from⟨fun _ h=>by have h2:=HLT.2 (by rw[HQ.out];exact h);have:=HNL.out;omega,HI.2⟩),HD2⟩
        case measure=>simp[intOf];omega
    · obtain rfl:i=j:=by omega
      obtain⟨en,hen⟩:∃en,en=n-i:=⟨_,rfl⟩
      have hen2:en+i=n∧en≤b:=by have:=HSI.out;have:=HN2.out;omega
      have hwe:(n:Int)-(i:Int)=(en:Int):=by omega
      obtain⟨S1,S2,S3,hT,hF⟩:=HT.out i en s0 mid HK.out hmi hjb (by have:=HN2.out;omega) (by have:=HI.out;rwa [HPP.out] at this) wr HD.out
      have HTT:=ξh hT
      have HF:=ξh hF
      clear hT hF hen hlt hmi hij hjb HI HD
      have hen3:en+i=mid+m:=by rw[hen2.1,HN2.out]
      have henN:en≤N:=by omega
      by_cases hp1:i<m
      · by_cases hp2:m<en
        · by_cases hp3:na<i
          · by_cases hp6:en<b
            · have hp4:i<mid:=by omega
              have hp5:mid<en:=by omega
              have hI1:(i:Int)<(m:Int):=by omega
              have hI2:(m:Int)<(en:Int):=by omega
              have hI3:(na:Int)<(i:Int):=by omega
              have hI4:(i:Int)<(mid:Int):=by omega
              have hI5:(mid:Int)<(en:Int):=by omega
              have hI6:(en:Int)<(b:Int):=by omega
              clear hen3 hen2
              go_wp2_with (first | (go_at_fn 252;refine(HTT.out.r1 (by omega) (by omega)).mono ?_;rintro e w1 ⟨rfl,q1⟩;have G1:=ξh q1;clear q1) | (go_at_fn 244;(with_reducible refine(HTT.out.r2 _ G1.out (by omega) (by omega)).mono ?_);rintro e w2 ⟨rfl,q2⟩;have G2:=ξh q2;clear q2) | (go_at_fn 244;(with_reducible refine(HTT.out.r3 _ G2.out (by omega) (by omega)).mono ?_);rintro e w3 ⟨rfl,q3⟩;have G3:=ξh q3;clear q3))
              first | exact HF.out _ G3.out | (go_end0;exact HF.out _ G3.out)
            · have hp4:i<mid:=by omega
              have hp5:mid<en:=by omega
              have hI1:(i:Int)<(m:Int):=by omega
              have hI2:(m:Int)<(en:Int):=by omega
              have hI3:(na:Int)<(i:Int):=by omega
              have hI4:(i:Int)<(mid:Int):=by omega
              have hI5:(mid:Int)<(en:Int):=by omega
              have hI6:¬(en:Int)<(b:Int):=by omega
              clear hen3 hen2
              go_wp2_with (first | (go_at_fn 252;refine(HTT.out.r1 (by omega) (by omega)).mono ?_;rintro e w1 ⟨rfl,q1⟩;have G1:=ξh q1;clear q1) | (go_at_fn 244;(with_reducible refine(HTT.out.r2 _ G1.out (by omega) (by omega)).mono ?_);rintro e w2 ⟨rfl,q2⟩;have G2:=ξh q2;clear q2))
              first | exact HF.out _ (HTT.n3 _ G2.out (by omega)) | (go_end0;exact HF.out _ (HTT.n3 _ G2.out (by omega)))
          · by_cases hp6:en<b
            · have hp4:i<mid:=by omega
              have hp5:mid<en:=by omega
              have hI1:(i:Int)<(m:Int):=by omega
              have hI2:(m:Int)<(en:Int):=by omega
              have hI3:¬(na:Int)<(i:Int):=by omega
              have hI4:(i:Int)<(mid:Int):=by omega
              have hI5:(mid:Int)<(en:Int):=by omega
              have hI6:(en:Int)<(b:Int):=by omega
              clear hen3 hen2
              go_wp2_with (first | (go_at_fn 252;refine(HTT.out.r1 (by omega) (by omega)).mono ?_;rintro e w1 ⟨rfl,q1⟩;have G1:=ξh q1;clear q1) | (go_at_fn 244;(with_reducible refine(HTT.out.r3 _ (HTT.out.n2 _ G1.out (by omega)) (by omega) (by omega)).mono ?_);rintro e w3 ⟨rfl,q3⟩;have G3:=ξh q3;clear q3))
              first | exact HF.out _ G3.out | (go_end0;exact HF.out _ G3.out)
            · have hp4:i<mid:=by omega
              have hp5:mid<en:=by omega
              have hI1:(i:Int)<(m:Int):=by omega
              have hI2:(m:Int)<(en:Int):=by omega
              have hI3:¬(na:Int)<(i:Int):=by omega
              have hI4:(i:Int)<(mid:Int):=by omega
              have hI5:(mid:Int)<(en:Int):=by omega
              have hI6:¬(en:Int)<(b:Int):=by omega
              clear hen3 hen2
              go_wp2_with (first | (go_at_fn 252;refine(HTT.r1 (by omega) (by omega)).mono ?_;rintro e w1 ⟨rfl,q1⟩;have G1:=ξh q1;clear q1))
              first | exact HF.out _ (HTT.n3 _ (HTT.n2 _ G1.out (by omega)) (by omega)) | (go_end0;exact HF.out _ (HTT.n3 _ (HTT.n2 _ G1.out (by omega)) (by omega)))
        · by_cases hp3:na<i
          · by_cases hp6:en<b
            · have hp4:¬i<mid:=by omega
              have hp5:mid<en:=by omega
              have hI1:(i:Int)<(m:Int):=by omega
              have hI2:¬(m:Int)<(en:Int):=by omega
              have hI3:(na:Int)<(i:Int):=by omega
              have hI4:¬(i:Int)<(mid:Int):=by omega
              have hI5:(mid:Int)<(en:Int):=by omega
              have hI6:(en:Int)<(b:Int):=by omega
              clear hen3 hen2
              go_wp2_with (first | (go_at_fn 244;(with_reducible refine(HTT.out.r3 _ (HTT.out.n2 _ (HTT.out.n1 (by omega)) (by omega)) (by omega) (by omega)).mono ?_);rintro e w3 ⟨rfl,q3⟩;have G3:=ξh q3;clear q3))
              first | exact HF.out _ G3.out | (go_end0;exact HF.out _ G3.out)
            · have hp4:¬i<mid:=by omega
              have hp5:mid<en:=by omega
              have hI1:(i:Int)<(m:Int):=by omega
              have hI2:¬(m:Int)<(en:Int):=by omega
              have hI3:(na:Int)<(i:Int):=by omega
              have hI4:¬(i:Int)<(mid:Int):=by omega
              have hI5:(mid:Int)<(en:Int):=by omega
              have hI6:¬(en:Int)<(b:Int):=by omega
              clear hen3 hen2
              go_wp2
              first | exact HF.out _ (HTT.n3 _ (HTT.n2 _ (HTT.n1 (by omega)) (by omega)) (by omega)) | (go_end0;exact HF.out _ (HTT.n3 _ (HTT.n2 _ (HTT.n1 (by omega)) (by omega)) (by omega)))
          · by_cases hp6:en<b
            · have hp4:¬i<mid:=by omega
              have hp5:mid<en:=by omega
              have hI1:(i:Int)<(m:Int):=by omega
              have hI2:¬(m:Int)<(en:Int):=by omega
              have hI3:¬(na:Int)<(i:Int):=by omega
              have hI4:¬(i:Int)<(mid:Int):=by omega
              have hI5:(mid:Int)<(en:Int):=by omega
              have hI6:(en:Int)<(b:Int):=by omega
              clear hen3 hen2
              go_wp2_with (first | (go_at_fn 244;(with_reducible refine(HTT.out.r3 _ (HTT.out.n2 _ (HTT.out.n1 (by omega)) (by omega)) (by omega) (by omega)).mono ?_);rintro e w3 ⟨rfl,q3⟩;have G3:=ξh q3;clear q3))
              first | exact HF.out _ G3.out | (go_end0;exact HF.out _ G3.out)
            · have hp4:¬i<mid:=by omega
              have hp5:mid<en:=by omega
              have hI1:(i:Int)<(m:Int):=by omega
              have hI2:¬(m:Int)<(en:Int):=by omega
              have hI3:¬(na:Int)<(i:Int):=by omega
              have hI4:¬(i:Int)<(mid:Int):=by omega
              have hI5:(mid:Int)<(en:Int):=by omega
              have hI6:¬(en:Int)<(b:Int):=by omega
              clear hen3 hen2
              go_wp2
              first | exact HF.out _ (HTT.n3 _ (HTT.n2 _ (HTT.n1 (by omega)) (by omega)) (by omega)) | (go_end0;exact HF.out _ (HTT.n3 _ (HTT.n2 _ (HTT.n1 (by omega)) (by omega)) (by omega)))
      · by_cases hp2:m<en
        · by_cases hp3:na<i
          · by_cases hp6:en<b
            · have hp4:i<mid:=by omega
              have hp5:¬mid<en:=by omega
              have hI1:¬(i:Int)<(m:Int):=by omega
              have hI2:(m:Int)<(en:Int):=by omega
              have hI3:(na:Int)<(i:Int):=by omega
              have hI4:(i:Int)<(mid:Int):=by omega
              have hI5:¬(mid:Int)<(en:Int):=by omega
              have hI6:(en:Int)<(b:Int):=by omega
              clear hen3 hen2
              go_wp2_with (first | (go_at_fn 244;(with_reducible refine(HTT.out.r2 _ (HTT.out.n1 (by omega)) (by omega) (by omega)).mono ?_);rintro e w2 ⟨rfl,q2⟩;have G2:=ξh q2;clear q2))
              first | exact HF.out _ (HTT.n3 _ G2.out (by omega)) | (go_end0;exact HF.out _ (HTT.n3 _ G2.out (by omega)))
            · have hp4:i<mid:=by omega
              have hp5:¬mid<en:=by omega
              have hI1:¬(i:Int)<(m:Int):=by omega
              have hI2:(m:Int)<(en:Int):=by omega
              have hI3:(na:Int)<(i:Int):=by omega
              have hI4:(i:Int)<(mid:Int):=by omega
              have hI5:¬(mid:Int)<(en:Int):=by omega
              have hI6:¬(en:Int)<(b:Int):=by omega
              clear hen3 hen2
              go_wp2_with (first | (go_at_fn 244;(with_reducible refine(HTT.out.r2 _ (HTT.out.n1 (by omega)) (by omega) (by omega)).mono ?_);rintro e w2 ⟨rfl,q2⟩;have G2:=ξh q2;clear q2))
              first | exact HF.out _ (HTT.n3 _ G2.out (by omega)) | (go_end0;exact HF.out _ (HTT.n3 _ G2.out (by omega)))
          · by_cases hp6:en<b
            · have hp4:i<mid:=by omega
              have hp5:¬mid<en:=by omega
              have hI1:¬(i:Int)<(m:Int):=by omega
              have hI2:(m:Int)<(en:Int):=by omega
              have hI3:¬(na:Int)<(i:Int):=by omega
              have hI4:(i:Int)<(mid:Int):=by omega
              have hI5:¬(mid:Int)<(en:Int):=by omega
              have hI6:(en:Int)<(b:Int):=by omega
              clear hen3 hen2
              go_wp2
              first | exact HF.out _ (HTT.n3 _ (HTT.n2 _ (HTT.n1 (by omega)) (by omega)) (by omega)) | (go_end0;exact HF.out _ (HTT.n3 _ (HTT.n2 _ (HTT.n1 (by omega)) (by omega)) (by omega)))
            · have hp4:i<mid:=by omega
              have hp5:¬mid<en:=by omega
              have hI1:¬(i:Int)<(m:Int):=by omega
              have hI2:(m:Int)<(en:Int):=by omega
              have hI3:¬(na:Int)<(i:Int):=by omega
              have hI4:(i:Int)<(mid:Int):=by omega
              have hI5:¬(mid:Int)<(en:Int):=by omega
              have hI6:¬(en:Int)<(b:Int):=by omega
              clear hen3 hen2
              go_wp2
              first | exact HF.out _ (HTT.n3 _ (HTT.n2 _ (HTT.n1 (by omega)) (by omega)) (by omega)) | (go_end0;exact HF.out _ (HTT.n3 _ (HTT.n2 _ (HTT.n1 (by omega)) (by omega)) (by omega)))
        · by_cases hp3:na<i
          · by_cases hp6:en<b
            · have hp4:¬i<mid:=by omega
              have hp5:¬mid<en:=by omega
              have hI1:¬(i:Int)<(m:Int):=by omega
              have hI2:¬(m:Int)<(en:Int):=by omega
              have hI3:(na:Int)<(i:Int):=by omega
              have hI4:¬(i:Int)<(mid:Int):=by omega
              have hI5:¬(mid:Int)<(en:Int):=by omega
              have hI6:(en:Int)<(b:Int):=by omega
              clear hen3 hen2
              go_wp2
              first | exact HF.out _ (HTT.n3 _ (HTT.n2 _ (HTT.n1 (by omega)) (by omega)) (by omega)) | (go_end0;exact HF.out _ (HTT.n3 _ (HTT.n2 _ (HTT.n1 (by omega)) (by omega)) (by omega)))
            · have hp4:¬i<mid:=by omega
              have hp5:¬mid<en:=by omega
              have hI1:¬(i:Int)<(m:Int):=by omega
              have hI2:¬(m:Int)<(en:Int):=by omega
              have hI3:(na:Int)<(i:Int):=by omega
              have hI4:¬(i:Int)<(mid:Int):=by omega
              have hI5:¬(mid:Int)<(en:Int):=by omega
              have hI6:¬(en:Int)<(b:Int):=by omega
              clear hen3 hen2
              go_wp2
              first | exact HF.out _ (HTT.n3 _ (HTT.n2 _ (HTT.n1 (by omega)) (by omega)) (by omega)) | (go_end0;exact HF.out _ (HTT.n3 _ (HTT.n2 _ (HTT.n1 (by omega)) (by omega)) (by omega)))
          · by_cases hp6:en<b
            · have hp4:¬i<mid:=by omega
              have hp5:¬mid<en:=by omega
              have hI1:¬(i:Int)<(m:Int):=by omega
              have hI2:¬(m:Int)<(en:Int):=by omega
              have hI3:¬(na:Int)<(i:Int):=by omega
              have hI4:¬(i:Int)<(mid:Int):=by omega
              have hI5:¬(mid:Int)<(en:Int):=by omega
              have hI6:(en:Int)<(b:Int):=by omega
              clear hen3 hen2
              go_wp2
              first | exact HF.out _ (HTT.n3 _ (HTT.n2 _ (HTT.n1 (by omega)) (by omega)) (by omega)) | (go_end0;exact HF.out _ (HTT.n3 _ (HTT.n2 _ (HTT.n1 (by omega)) (by omega)) (by omega)))
            · have hp4:¬i<mid:=by omega
              have hp5:¬mid<en:=by omega
              have hI1:¬(i:Int)<(m:Int):=by omega
              have hI2:¬(m:Int)<(en:Int):=by omega
              have hI3:¬(na:Int)<(i:Int):=by omega
              have hI4:¬(i:Int)<(mid:Int):=by omega
              have hI5:¬(mid:Int)<(en:Int):=by omega
              have hI6:¬(en:Int)<(b:Int):=by omega
              clear hen3 hen2
              go_wp2
              first | exact HF.out _ (HTT.n3 _ (HTT.n2 _ (HTT.n1 (by omega)) (by omega)) (by omega)) | (go_end0;exact HF.out _ (HTT.n3 _ (HTT.n2 _ (HTT.n1 (by omega)) (by omega)) (by omega)))
 · have hgI:¬(m:Int)>(mid:Int):=by omega
   have hr0:m=r0∧na=s0:=by have:=HK.out;unfold CutK at this;omega
   obtain⟨rfl,rfl⟩:=hr0
   clear hsr hg
   go_enter F,Tryz.ntmps244
   go_wp2
   clear hb0 hb1 hw0 hw1 hw2 hw3 hw4 hgI
   go_loopw [20,21,23] (fun vi vj _ wr=>∃i j:Nat,na≤i∧i≤j∧j≤m∧vi= .int .i64 i∧vj= .int .i64 j∧Hid (InvM key dk pp na m i j)∧Hid (SWK enc k w0 blk off dk wr)) (fun vi vj _ _=>(intOf vj).toNat-(intOf vi).toNat)
   case atStart=>exact⟨na,m,ξr _,by have:=HSI.out;omega,ξr _,rfl,rfl,(show InvM key dk pp na m na m from⟨fun h=>absurd h (by omega),fun h=>absurd h (by omega)⟩),HW⟩
   case round=>
    obtain⟨i,j,hmi,hij,hjb,rfl,rfl,HI,HD⟩:=hrel
    by_cases hlt:i<j
    · have hltI:(i:Int)<(j:Int):=by omega
      obtain⟨c,hc⟩:∃c,c=(i+j)/2:=⟨_,rfl⟩
      have hci:i≤c:=by omega
      have hcj:c<j:=by omega
      have hc2:((i:Int)+(j:Int))/2=(c:Int):=by omega
      clear hc
      obtain⟨q,hq⟩:∃q,q=pp-c:=⟨_,rfl⟩
      have hqc:q+c=pp∧q<N:=by have:=HSI.out;have:=HN2.out;have:=HPP.out;omega
      have hqs:IntKind.i64.wrap ((pp:Int)-(c:Int))=(q:Int):=by rw[ξi _ (by omega)];omega
      have hcN:(c:Int)<(N:Int):=by have:=HSI.out;omega
      have hnN:(q:Int)<(N:Int):=by omega
      have l1:=fun n' os'=>HD.ld HR.out (by rw[HS.out,HNE.out]) P c (by rw[HS.out];omega) n' os'
      have l2:=fun n' os'=>HD.ld HR.out (by rw[HS.out,HNE.out]) P q (by rw[HS.out];omega) n' os'
      have hcg:=fun n' os'=>HD.cmp HC.out HS.out dk[q]! dk[c]! n' os'
      have HLT:=ξh (cfS_neg key dk[q]! dk[c]!)
      generalize cfS key dk[q]! dk[c]! = cv at *
      have HQ:=ξh hq
      clear hq hqc
      by_cases hlv:cv<0
      · go_wp2_with fail
        go_quiet_grown (first | (go_at_fn g;refine Calls.grown_of (hcg _ _)))
        clear l1 l2 hcg hc2 hltI hqs
        have HD2:=ξh (HD.grown nq osq)
        generalize grow (wr.drewN nq) osq=wq at *
        go_wp2
        go_roundw
        case rel=>exact⟨i,c,hmi,hci,by omega,by go_num,rfl,(show InvM key dk pp na m i c from⟨HI.1,fun _=>by have:=HLT.1 hlv;rwa [HQ.out] at this⟩),HD2⟩
        case measure=>simp[intOf];omega
      · have HNL:Hid (¬cv<0):=hlv
        have hcd:decide (cv<0)=false:=ξf hlv
        have hcd2:decide (0≤cv)=true:=ξt (by omega)
        go_wp2_with fail
        go_quiet_grown (first | (go_at_fn g;refine Calls.grown_of (hcg _ _)))
        clear l1 l2 hcg hc2 hltI hqs
        have HD2:=ξh (HD.grown nq osq)
        generalize grow (wr.drewN nq) osq=wq at *
        go_wp2
        go_roundw
        case rel=>exact⟨c+1,j,by omega,by omega,hjb,by go_num,rfl,(show InvM key dk pp na m (c+1) j from⟨fun _ h=>by have h2:=HLT.2 (by rw[HQ.out];exact h);have:=HNL.out;omega,HI.2⟩),HD2⟩
        case measure=>simp[intOf];omega
    · obtain rfl:i=j:=by omega
      obtain⟨en,hen⟩:∃en,en=n-i:=⟨_,rfl⟩
      have hen2:en+i=n∧en≤b:=by have:=HSI.out;have:=HN2.out;omega
      have hwe:(n:Int)-(i:Int)=(en:Int):=by omega
      obtain⟨S1,S2,S3,hT,hF⟩:=HT.out i en na m HK.out hmi hjb (by have:=HN2.out;omega) (by have:=HI.out;rwa [HPP.out] at this) wr HD.out
      have HTT:=ξh hT
      have HF:=ξh hF
      clear hT hF hen hlt hmi hij hjb HI HD
      have hen3:en+i=mid+m:=by rw[hen2.1,HN2.out]
      have henN:en≤N:=by omega
      by_cases hp1:i<m
      · by_cases hp2:m<en
        · by_cases hp3:na<i
          · by_cases hp6:en<b
            · have hp4:i<mid:=by omega
              have hp5:mid<en:=by omega
              have hI1:(i:Int)<(m:Int):=by omega
              have hI2:(m:Int)<(en:Int):=by omega
              have hI3:(na:Int)<(i:Int):=by omega
              have hI4:(i:Int)<(mid:Int):=by omega
              have hI5:(mid:Int)<(en:Int):=by omega
              have hI6:(en:Int)<(b:Int):=by omega
              clear hen3 hen2
              go_wp2_with (first | (go_at_fn 252;refine(HTT.out.r1 (by omega) (by omega)).mono ?_;rintro e w1 ⟨rfl,q1⟩;have G1:=ξh q1;clear q1) | (go_at_fn 244;(with_reducible refine(HTT.out.r2 _ G1.out (by omega) (by omega)).mono ?_);rintro e w2 ⟨rfl,q2⟩;have G2:=ξh q2;clear q2) | (go_at_fn 244;(with_reducible refine(HTT.out.r3 _ G2.out (by omega) (by omega)).mono ?_);rintro e w3 ⟨rfl,q3⟩;have G3:=ξh q3;clear q3))
              first | exact HF.out _ G3.out | (go_end0;exact HF.out _ G3.out)
            · have hp4:i<mid:=by omega
              have hp5:mid<en:=by omega
              have hI1:(i:Int)<(m:Int):=by omega
              have hI2:(m:Int)<(en:Int):=by omega
              have hI3:(na:Int)<(i:Int):=by omega
              have hI4:(i:Int)<(mid:Int):=by omega
              have hI5:(mid:Int)<(en:Int):=by omega
              have hI6:¬(en:Int)<(b:Int):=by omega
              clear hen3 hen2
              go_wp2_with (first | (go_at_fn 252;refine(HTT.out.r1 (by omega) (by omega)).mono ?_;rintro e w1 ⟨rfl,q1⟩;have G1:=ξh q1;clear q1) | (go_at_fn 244;(with_reducible refine(HTT.out.r2 _ G1.out (by omega) (by omega)).mono ?_);rintro e w2 ⟨rfl,q2⟩;have G2:=ξh q2;clear q2))
              first | exact HF.out _ (HTT.n3 _ G2.out (by omega)) | (go_end0;exact HF.out _ (HTT.n3 _ G2.out (by omega)))
          · by_cases hp6:en<b
            · have hp4:i<mid:=by omega
              have hp5:mid<en:=by omega
              have hI1:(i:Int)<(m:Int):=by omega
              have hI2:(m:Int)<(en:Int):=by omega
              have hI3:¬(na:Int)<(i:Int):=by omega
              have hI4:(i:Int)<(mid:Int):=by omega
              have hI5:(mid:Int)<(en:Int):=by omega
              have hI6:(en:Int)<(b:Int):=by omega
              clear hen3 hen2
              go_wp2_with (first | (go_at_fn 252;refine(HTT.out.r1 (by omega) (by omega)).mono ?_;rintro e w1 ⟨rfl,q1⟩;have G1:=ξh q1;clear q1) | (go_at_fn 244;(with_reducible refine(HTT.out.r3 _ (HTT.out.n2 _ G1.out (by omega)) (by omega) (by omega)).mono ?_);rintro e w3 ⟨rfl,q3⟩;have G3:=ξh q3;clear q3))
              first | exact HF.out _ G3.out | (go_end0;exact HF.out _ G3.out)
            · have hp4:i<mid:=by omega
              have hp5:mid<en:=by omega
              have hI1:(i:Int)<(m:Int):=by omega
              have hI2:(m:Int)<(en:Int):=by omega
              have hI3:¬(na:Int)<(i:Int):=by omega
              have hI4:(i:Int)<(mid:Int):=by omega
              have hI5:(mid:Int)<(en:Int):=by omega
              have hI6:¬(en:Int)<(b:Int):=by omega
              clear hen3 hen2
              go_wp2_with (first | (go_at_fn 252;refine(HTT.r1 (by omega) (by omega)).mono ?_;rintro e w1 ⟨rfl,q1⟩;have G1:=ξh q1;clear q1))
              first | exact HF.out _ (HTT.n3 _ (HTT.n2 _ G1.out (by omega)) (by omega)) | (go_end0;exact HF.out _ (HTT.n3 _ (HTT.n2 _ G1.out (by omega)) (by omega)))
        · by_cases hp3:na<i
          · by_cases hp6:en<b
            · have hp4:¬i<mid:=by omega
              have hp5:mid<en:=by omega
              have hI1:(i:Int)<(m:Int):=by omega
              have hI2:¬(m:Int)<(en:Int):=by omega
              have hI3:(na:Int)<(i:Int):=by omega
              have hI4:¬(i:Int)<(mid:Int):=by omega
              have hI5:(mid:Int)<(en:Int):=by omega
              have hI6:(en:Int)<(b:Int):=by omega
              clear hen3 hen2
              go_wp2_with (first | (go_at_fn 244;(with_reducible refine(HTT.out.r3 _ (HTT.out.n2 _ (HTT.out.n1 (by omega)) (by omega)) (by omega) (by omega)).mono ?_);rintro e w3 ⟨rfl,q3⟩;have G3:=ξh q3;clear q3))
              first | exact HF.out _ G3.out | (go_end0;exact HF.out _ G3.out)
            · have hp4:¬i<mid:=by omega
              have hp5:mid<en:=by omega
              have hI1:(i:Int)<(m:Int):=by omega
              have hI2:¬(m:Int)<(en:Int):=by omega
              have hI3:(na:Int)<(i:Int):=by omega
              have hI4:¬(i:Int)<(mid:Int):=by omega
              have hI5:(mid:Int)<(en:Int):=by omega
              have hI6:¬(en:Int)<(b:Int):=by omega
              clear hen3 hen2
              go_wp2
              first | exact HF.out _ (HTT.n3 _ (HTT.n2 _ (HTT.n1 (by omega)) (by omega)) (by omega)) | (go_end0;exact HF.out _ (HTT.n3 _ (HTT.n2 _ (HTT.n1 (by omega)) (by omega)) (by omega)))
          · by_cases hp6:en<b
            · have hp4:¬i<mid:=by omega
              have hp5:mid<en:=by omega
              have hI1:(i:Int)<(m:Int):=by omega
              have hI2:¬(m:Int)<(en:Int):=by omega
              have hI3:¬(na:Int)<(i:Int):=by omega
              have hI4:¬(i:Int)<(mid:Int):=by omega
              have hI5:(mid:Int)<(en:Int):=by omega
              have hI6:(en:Int)<(b:Int):=by omega
              clear hen3 hen2
              go_wp2_with (first | (go_at_fn 244;(with_reducible refine(HTT.out.r3 _ (HTT.out.n2 _ (HTT.out.n1 (by omega)) (by omega)) (by omega) (by omega)).mono ?_);rintro e w3 ⟨rfl,q3⟩;have G3:=ξh q3;clear q3))
              first | exact HF.out _ G3.out | (go_end0;exact HF.out _ G3.out)
            · have hp4:¬i<mid:=by omega
              have hp5:mid<en:=by omega
              have hI1:(i:Int)<(m:Int):=by omega
              have hI2:¬(m:Int)<(en:Int):=by omega
              have hI3:¬(na:Int)<(i:Int):=by omega
              have hI4:¬(i:Int)<(mid:Int):=by omega
              have hI5:(mid:Int)<(en:Int):=by omega
              have hI6:¬(en:Int)<(b:Int):=by omega
              clear hen3 hen2
              go_wp2
              first | exact HF.out _ (HTT.n3 _ (HTT.n2 _ (HTT.n1 (by omega)) (by omega)) (by omega)) | (go_end0;exact HF.out _ (HTT.n3 _ (HTT.n2 _ (HTT.n1 (by omega)) (by omega)) (by omega)))
      · by_cases hp2:m<en
        · by_cases hp3:na<i
          · by_cases hp6:en<b
            · have hp4:i<mid:=by omega
              have hp5:¬mid<en:=by omega
              have hI1:¬(i:Int)<(m:Int):=by omega
              have hI2:(m:Int)<(en:Int):=by omega
              have hI3:(na:Int)<(i:Int):=by omega
              have hI4:(i:Int)<(mid:Int):=by omega
              have hI5:¬(mid:Int)<(en:Int):=by omega
              have hI6:(en:Int)<(b:Int):=by omega
              clear hen3 hen2
              go_wp2_with (first | (go_at_fn 244;(with_reducible refine(HTT.out.r2 _ (HTT.out.n1 (by omega)) (by omega) (by omega)).mono ?_);rintro e w2 ⟨rfl,q2⟩;have G2:=ξh q2;clear q2))
              first | exact HF.out _ (HTT.n3 _ G2.out (by omega)) | (go_end0;exact HF.out _ (HTT.n3 _ G2.out (by omega)))
            · have hp4:i<mid:=by omega
              have hp5:¬mid<en:=by omega
              have hI1:¬(i:Int)<(m:Int):=by omega
              have hI2:(m:Int)<(en:Int):=by omega
              have hI3:(na:Int)<(i:Int):=by omega
              have hI4:(i:Int)<(mid:Int):=by omega
              have hI5:¬(mid:Int)<(en:Int):=by omega
              have hI6:¬(en:Int)<(b:Int):=by omega
              clear hen3 hen2
              go_wp2_with (first | (go_at_fn 244;(with_reducible refine(HTT.out.r2 _ (HTT.out.n1 (by omega)) (by omega) (by omega)).mono ?_);rintro e w2 ⟨rfl,q2⟩;have G2:=ξh q2;clear q2))
              first | exact HF.out _ (HTT.n3 _ G2.out (by omega)) | (go_end0;exact HF.out _ (HTT.n3 _ G2.out (by omega)))
          · by_cases hp6:en<b
            · have hp4:i<mid:=by omega
              have hp5:¬mid<en:=by omega
              have hI1:¬(i:Int)<(m:Int):=by omega
              have hI2:(m:Int)<(en:Int):=by omega
              have hI3:¬(na:Int)<(i:Int):=by omega
              have hI4:(i:Int)<(mid:Int):=by omega
              have hI5:¬(mid:Int)<(en:Int):=by omega
              have hI6:(en:Int)<(b:Int):=by omega
              clear hen3 hen2
              go_wp2
              first | exact HF.out _ (HTT.n3 _ (HTT.n2 _ (HTT.n1 (by omega)) (by omega)) (by omega)) | (go_end0;exact HF.out _ (HTT.n3 _ (HTT.n2 _ (HTT.n1 (by omega)) (by omega)) (by omega)))
            · have hp4:i<mid:=by omega
              have hp5:¬mid<en:=by omega
              have hI1:¬(i:Int)<(m:Int):=by omega
              have hI2:(m:Int)<(en:Int):=by omega
              have hI3:¬(na:Int)<(i:Int):=by omega
              have hI4:(i:Int)<(mid:Int):=by omega
              have hI5:¬(mid:Int)<(en:Int):=by omega
              have hI6:¬(en:Int)<(b:Int):=by omega
              clear hen3 hen2
              go_wp2
              first | exact HF.out _ (HTT.n3 _ (HTT.n2 _ (HTT.n1 (by omega)) (by omega)) (by omega)) | (go_end0;exact HF.out _ (HTT.n3 _ (HTT.n2 _ (HTT.n1 (by omega)) (by omega)) (by omega)))
        · by_cases hp3:na<i
          · by_cases hp6:en<b
            · have hp4:¬i<mid:=by omega
              have hp5:¬mid<en:=by omega
              have hI1:¬(i:Int)<(m:Int):=by omega
              have hI2:¬(m:Int)<(en:Int):=by omega
              have hI3:(na:Int)<(i:Int):=by omega
              have hI4:¬(i:Int)<(mid:Int):=by omega
              have hI5:¬(mid:Int)<(en:Int):=by omega
              have hI6:(en:Int)<(b:Int):=by omega
              clear hen3 hen2
              go_wp2
              first | exact HF.out _ (HTT.n3 _ (HTT.n2 _ (HTT.n1 (by omega)) (by omega)) (by omega)) | (go_end0;exact HF.out _ (HTT.n3 _ (HTT.n2 _ (HTT.n1 (by omega)) (by omega)) (by omega)))
            · have hp4:¬i<mid:=by omega
              have hp5:¬mid<en:=by omega
              have hI1:¬(i:Int)<(m:Int):=by omega
              have hI2:¬(m:Int)<(en:Int):=by omega
              have hI3:(na:Int)<(i:Int):=by omega
              have hI4:¬(i:Int)<(mid:Int):=by omega
              have hI5:¬(mid:Int)<(en:Int):=by omega
              have hI6:¬(en:Int)<(b:Int):=by omega
              clear hen3 hen2
              go_wp2
              first | exact HF.out _ (HTT.n3 _ (HTT.n2 _ (HTT.n1 (by omega)) (by omega)) (by omega)) | (go_end0;exact HF.out _ (HTT.n3 _ (HTT.n2 _ (HTT.n1 (by omega)) (by omega)) (by omega)))
          · by_cases hp6:en<b
            · have hp4:¬i<mid:=by omega
              have hp5:¬mid<en:=by omega
              have hI1:¬(i:Int)<(m:Int):=by omega
              have hI2:¬(m:Int)<(en:Int):=by omega
              have hI3:¬(na:Int)<(i:Int):=by omega
              have hI4:¬(i:Int)<(mid:Int):=by omega
              have hI5:¬(mid:Int)<(en:Int):=by omega
              have hI6:(en:Int)<(b:Int):=by omega
              clear hen3 hen2
              go_wp2
              first | exact HF.out _ (HTT.n3 _ (HTT.n2 _ (HTT.n1 (by omega)) (by omega)) (by omega)) | (go_end0;exact HF.out _ (HTT.n3 _ (HTT.n2 _ (HTT.n1 (by omega)) (by omega)) (by omega)))
            · have hp4:¬i<mid:=by omega
              have hp5:¬mid<en:=by omega
              have hI1:¬(i:Int)<(m:Int):=by omega
              have hI2:¬(m:Int)<(en:Int):=by omega
              have hI3:¬(na:Int)<(i:Int):=by omega
              have hI4:¬(i:Int)<(mid:Int):=by omega
              have hI5:¬(mid:Int)<(en:Int):=by omega
              have hI6:¬(en:Int)<(b:Int):=by omega
              clear hen3 hen2
              go_wp2
              first | exact HF.out _ (HTT.n3 _ (HTT.n2 _ (HTT.n1 (by omega)) (by omega)) (by omega)) | (go_end0;exact HF.out _ (HTT.n3 _ (HTT.n2 _ (HTT.n1 (by omega)) (by omega)) (by omega)))
end Go.Proofs.YtofcicomhnkocaaGreat
