import Derived.Test.YtofcicomhnkocaaGreatBx14
set_option linter.unusedVariables false
namespace Go.Proofs.YtofcicomhnkocaaGreat
set_option maxHeartbeats 6400000
open Go.RowKit Go.Sort Go.Shelf
set_option maxRecDepth 100000
def cfS {α:Type} (key:α→Int) (x y:α × Nat):Int:=cmpI (key x.1) (key y.1)
theorem cfS_neg {α:Type} (key:α→Int) (x y:α × Nat):cfS key x y<0↔key x.1<key y.1:=by
 unfold cfS cmpI
 split
 · constructor
   · intro _;assumption
   · intro _;omega
 · split <;> constructor <;> intro _ <;> omega
theorem ltOf_cfS {α:Type} (key:α→Int) (x y:α × Nat):ltOf (cfS key) x y=decide (key x.1<key y.1):=by
 unfold ltOf
 exact decide_eq_decide.2 (cfS_neg key x y)
section
variable {β : Type} [Inhabited β]
theorem get_part {A X B:List β} {d:Array β} (h:d.toList=A++(X++B)) {i:Nat} (hi:i<X.length):d[A.length+i]! = X[i]:=by
 obtain rfl:d=(A++(X++B)).toArray:=Array.ext' h
 simp only[List.getElem!_toArray]
 rw[List.getElem!_eq_getElem?_getD,List.getElem?_append_right (by omega),show A.length+i-A.length=i by omega,List.getElem?_append_left hi,ξg hi];rfl
end
theorem up_step {β:Type} [Inhabited β] {A Y B:List β} {x:β} {d:Array β} {q:Nat} (h:d.toList=A++((Y.take q++x::Y.drop q)++B)) (hq:q<Y.length):
 (swp d (A.length+q) (A.length+q+1)).toList=A++((Y.take (q+1)++x::Y.drop (q+1))++B):=by
 have h1:d.toList=(A++Y.take q)++x::(([]:List β)++Y[q]::(Y.drop (q+1)++B)):=by
  rw[h,List.drop_eq_getElem_cons hq];simp only[List.append_assoc,List.cons_append,List.nil_append]
 have:=swp_list h1
 rw[ξk,List.length_take,Nat.min_eq_left (by omega)] at this
 simp only[List.length_nil,Nat.add_zero,List.nil_append] at this
 rw[this,List.take_add_one,ξg hq];simp only[List.append_assoc,List.cons_append,List.nil_append,Option.toList_some]
theorem down_step {β:Type} [Inhabited β] {A X B:List β} {x:β} {d:Array β} {q:Nat} (h:d.toList=A++((X.take (q+1)++x::X.drop (q+1))++B)) (hq:q<X.length):
 (swp d (A.length+q+1) (A.length+q)).toList=A++((X.take q++x::X.drop q)++B):=by
 have h1:d.toList=(A++X.take q)++X[q]::(([]:List β)++x::(X.drop (q+1)++B)):=by
  rw[h,List.take_add_one,ξg hq];simp only[List.append_assoc,List.cons_append,List.nil_append,Option.toList_some]
 have:=swp_list' h1
 rw[ξk,List.length_take,Nat.min_eq_left (by omega)] at this
 simp only[List.length_nil,Nat.add_zero,List.nil_append] at this
 rw[this,List.drop_eq_getElem_cons hq];simp only[List.append_assoc,List.cons_append]
section
variable {α : Type} [Inhabited α]
def InvL (key:α→Int) (dk:Array (α × Nat)) (x:α × Nat) (m b i j:Nat):Prop:=(m<i→key (dk[i-1]!).1<key x.1)∧(j<b→ ¬key (dk[j]!).1<key x.1)
def InvR (key:α→Int) (dk:Array (α × Nat)) (x:α × Nat) (a m i j:Nat):Prop:=(a<i→ ¬key x.1<key (dk[i-1]!).1)∧(j<m→key x.1<key (dk[j]!).1)
def MrgQ (key:α→Int) (enc:α × Nat→List Value) (k:Nat) (w0:World) (blk off:Nat) (A X Y B:List (α × Nat)) (e:Ending) (w':World):Prop:=
 e= .returned (.tuple #[])∧ ∃(d':Array (α × Nat)) (Z:List (α × Nat)),SWK enc k w0 blk off d' w'∧d'.toList=A++(Z++B)∧Z.Perm (X++Y)∧srtS key Z
theorem ξbE {β:Type} {dk d0:Array β} {L:List β} (hd:dk.toList=L) (hs:dk.size=d0.size):d0.size=L.length:=by rw[←hs,←Array.length_toList,hd]
end
theorem symLeft_any {α:Type} [Inhabited α] {key:α→Int} {enc:α × Nat→List Value} {w0:World} {blk off:Nat} {d0:Array (α × Nat)} {k:Nat} (hk3:k=3) (R:RowK enc k w0 blk off d0) (hsz:d0.size<1000000) (g:Nat) (cb:Array Value) (cap:Nat)
 (eg:∀args w,(callFunc g args).run Tryz.prog w= .ok (.enter g args) w) (hC:CmpLays Tryz.prog g cb enc k (cfS key) blk off d0.size w0) {A Y B:List (α × Nat)} {x:α × Nat} {dk:Array (α × Nat)} (W:World) (h:SWK enc k w0 blk off dk W)
 (hd:dk.toList=A++(x::(Y++B))) (hs:dk.size=d0.size) (hy:srtS key Y) (hc:crsS [x] Y):
 Calls Tryz.prog 244 #[.slice (some ⟨blk,off,none⟩) d0.size cap,.int .i64 A.length,.int .i64 ((A.length+1:Nat):Int),.int .i64 ((A.length+1+Y.length:Nat):Int),.func (.func g) #[] cb] W (MrgQ key enc k w0 blk off A [x] Y B):=by
 have hlen:d0.size=A.length+1+Y.length+B.length:=by rw[ξbE hd hs];simp;omega
 have gx:dk[A.length]! = x:=ξaY hd
 have gy:∀i (hi:i<Y.length),dk[A.length+1+i]! = Y[i]:=fun i hi=>by
  have h2:dk.toList=(A++[x])++(Y++B):=by rw[hd];simp
  have:=get_part h2 hi
  rw[ξk] at this;exact this
 -- where the search ends:the place
 have HFIN:=ξh (fun(p:Nat) (hp:p≤Y.length) (h1:0<p→key (dk[A.length+1+p-1]!).1<key x.1) (h2:p<Y.length→ ¬key (dk[A.length+1+p]!).1<key x.1)=>show srtS key (Y.take p++x::Y.drop p)∧(Y.take p++x::Y.drop p).Perm ([x]++Y) from
  one_left hy hc hp (fun h0=>by have:=h1 h0;rwa [show A.length+1+p-1=A.length+1+(p-1) by omega,gy _ (by omega)] at this) (fun h0=>by have:=h2 h0;rwa [gy _ h0] at this))
 have HUP:=ξh (fun(q:Nat) (d:Array (α × Nat)) (hq:q<Y.length) (hdl:d.toList=A++((Y.take q++x::Y.drop q)++B))=>show d.size=d0.size∧(swp d (A.length+q) (A.length+q+1)).toList=A++((Y.take (q+1)++x::Y.drop (q+1))++B) from⟨by rw[←Array.length_toList,hdl,hlen];simp;omega,up_step hdl hq⟩)
 have HST:=ξh (show dk.toList=A++((Y.take 0++x::Y.drop 0)++B) by rw[hd];simp)
 generalize hna:A.length=na at *
 obtain⟨ny,hny⟩:∃ny,ny=Y.length:=⟨_,rfl⟩
 obtain⟨m,hm⟩:∃m,m=na+1:=⟨_,rfl⟩
 obtain⟨b,hb⟩:∃b,b=m+ny:=⟨_,rfl⟩
 obtain⟨N,hN⟩:∃N,N=d0.size:=⟨_,rfl⟩
 have k1:m=na+1:=hm
 have k2:b=m+ny:=hb
 have k3:b≤N:=by omega
 have k4:N<1000000:=by omega
 rw[←hm,←hny] at HFIN
 rw[←hny,←hN] at HUP
 rw[←hm,←hny,←hb,←hN]
 rw[←hN] at hs hC
 have GX:=ξh gx
 have HS:=ξh hs
 have HR:=ξh R
 have HW:=ξh h
 have HC:=ξh hC
 have HNE:=ξh hN
 clear R h hd hs hlen hny hm hb hN hsz hy hc gy hC gx hna
 have F:=Tryz.func244
 have mixed:Tryz.prog.follows .mixedOrders=true:=by kernel_rfl
 have t0:=Tryz.underlying3;have a0:=Tryz.isAgg3;have z0:=Tryz.sizeOf3;have v0:=Tryz.zeroValue3
 have t1:=Tryz.underlying4;have a1:=Tryz.isAgg4;have z1:=Tryz.sizeOf4;have v1:=Tryz.zeroValue4
 have t2:=Tryz.underlying164;have a2:=Tryz.isAgg164;have z2:=Tryz.sizeOf164;have v2:=Tryz.zeroValue164
 have t3:=Tryz.underlying184;have a3:=Tryz.isAgg184;have z3:=Tryz.sizeOf184;have v3:=Tryz.zeroValue184
 have t4:=Tryz.underlying189;have a4:=Tryz.isAgg189;have z4:=Tryz.sizeOf189;have v4:=Tryz.zeroValue189
 rw[←hk3] at z4
 have HK3:=ξh hk3
 clear hk3
 generalize Tryz.prog=P at *
 have hw0:IntKind.i64.wrap ((m:Int)-(na:Int))=1:=by rw[ξi _ (by omega)];omega
 have K1:=ξh k1
 have K2:=ξh k2
 have kna:na<N:=by omega
 clear k1 k2
 go_enter F,Tryz.ntmps244
 go_wp2
 clear hw0
 go_loopw [10,11,12] (fun vi vj _ wr=>∃i j:Nat,m≤i∧i≤j∧j≤b∧vi= .int .i64 i∧vj= .int .i64 j∧Hid (InvL key dk x m b i j)∧Hid (SWK enc k w0 blk off dk wr)) (fun vi vj _ _=>(intOf vj).toNat-(intOf vi).toNat)
 case atStart=>exact⟨m,b,ξr _,by have:=K2.out;omega,ξr _,rfl,rfl,(show InvL key dk x m b m b from⟨fun h=>absurd h (by omega),fun h=>absurd h (by omega)⟩),HW⟩
 case round=>
  obtain⟨i,j,hmi,hij,hjb,rfl,rfl,HI,HD⟩:=hrel
  by_cases hlt:i<j
  · have hltI:(i:Int)<(j:Int):=by omega
    obtain⟨c,hc⟩:∃c,c=(i+j)/2:=⟨_,rfl⟩
    have hci:i≤c:=by omega
    have hcj:c<j:=by omega
    have hc2:((i:Int)+(j:Int))/2=(c:Int):=by omega
    clear hc
    have hcN:(c:Int)<(N:Int):=by omega
    have hnN:(na:Int)<(N:Int):=by omega
    have l1:=fun n' os'=>HD.ld HR.out (by rw[HS.out,HNE.out]) P c (by rw[HS.out];omega) n' os'
    have l2:=fun n' os'=>HD.ld HR.out (by rw[HS.out,HNE.out]) P na (by rw[HS.out];omega) n' os'
    have hcg:=fun n' os'=>HD.cmp HC.out HS.out dk[c]! dk[na]! n' os'
    rw[GX.out] at hcg l2
    have HLT:=ξh (cfS_neg key dk[c]! x)
    generalize cfS key dk[c]! x=cv at *
    by_cases hlv:cv<0
    · go_wp2_with fail
      go_quiet_grown (first | (go_at_fn g;refine Calls.grown_of (hcg _ _)))
      clear l1 l2 hcg hc2 hltI
      have HD2:=ξh (HD.grown nq osq)
      generalize grow (wr.drewN nq) osq=wq at *
      go_wp2
      go_roundw
      case rel=>exact⟨c+1,j,by omega,by omega,hjb,by go_num,rfl,(show InvL key dk x m b (c+1) j from⟨fun _=>HLT.1 hlv,HI.2⟩),HD2⟩
      case measure=>simp[intOf];omega
    · have HNL:Hid (¬cv<0):=hlv
      go_wp2_with fail
      go_quiet_grown (first | (go_at_fn g;refine Calls.grown_of (hcg _ _)))
      clear l1 l2 hcg hc2 hltI
      have HD2:=ξh (HD.grown nq osq)
      generalize grow (wr.drewN nq) osq=wq at *
      go_wp2
      go_roundw
      case rel=>exact⟨i,c,hmi,hci,by omega,by go_num,rfl,(show InvL key dk x m b i c from⟨HI.1,fun _ h=>by have:=HLT.2 h;have:=HNL.out;omega⟩),HD2⟩
      case measure=>simp[intOf];omega
  · obtain rfl:i=j:=by omega
    obtain⟨p,hp⟩:∃p,p=i-m:=⟨_,rfl⟩
    have hpy:p≤ny:=by have:=K2.out;omega
    have hip:i=m+p:=by omega
    have HPZ:=ξh (HFIN.out p hpy (fun h0=>by rw[←hip];exact HI.1 (by omega)) (fun h0=>by rw[←hip];have:=HI.2 (by have:=K2.out;omega);omega))
    obtain⟨e,he⟩:∃e,e=na+p:=⟨_,rfl⟩
    have h1p:wrap64 ((i:Int)-1)=(e:Int):=by have:=K1.out;rw[ξw _ (by omega)];omega
    have HE:=ξh he
    have heN:e<N:=by have:=K1.out;have:=K2.out;omega
    have HST2:=ξh (show∃d,SWK enc k w0 blk off d wr∧d.toList=A++((Y.take 0++x::Y.drop 0)++B) from⟨dk,HD.out,HST.out⟩)
    clear hp hip hlt hmi hij hjb HI HD he
    go_wp2
    go_loopw [13] (fun vi wr=>∃q:Nat,q≤p∧vi= .int .i64 ((na+q:Nat):Int)∧Hid (∃d,SWK enc k w0 blk off d wr∧d.toList=A++((Y.take q++x::Y.drop q)++B))) (fun vi _=>e-(intOf vi).toNat)
    case atStart=>exact⟨0,ξu _,rfl,HST2⟩
    case round=>
     obtain⟨q,hq,rfl,HD⟩:=hrel
     by_cases hlt:q<p
     · obtain⟨d,hsw,hdl⟩:=HD.out
       obtain⟨hsd,hnx⟩:=HUP.out q d (by omega) hdl
       obtain⟨s,hs⟩:∃s,s=na+q:=⟨_,rfl⟩
       rw[←hs] at hnx ⊢
       have hsI:(s:Int)<(e:Int):=by have:=HE.out;omega
       have hpN:(s:Int)<(N:Int):=by omega
       have hqN:(s:Int)+1<(N:Int):=by have:=HE.out;have:=K1.out;have:=K2.out;omega
       have hpd:s<d.size:=by rw[hsd];omega
       have hqd:s+1<d.size:=by rw[hsd];omega
       have l1:=hsw.ld1 HR.out (by rw[hsd,HNE.out]) P s hpd
       have l2:=hsw.ld1 HR.out (by rw[hsd,HNE.out]) P (s+1) hqd
       have s1:=hsw.st1 HR.out (by rw[hsd,HNE.out]) P s hpd d[s+1]!
       have s2:=hsw.st2 HR.out (by rw[hsd,HNE.out]) P s (s+1) hpd hqd d[s+1]! d[s]!
       have HNX:=ξh (show∃d',SWK enc k w0 blk off d' ((wr.drew.setCells blk (off+s*k) (enc d[s+1]!)).setCells blk (off+(s+1)*k) (enc d[s]!))∧d'.toList=A++((Y.take (q+1)++x::Y.drop (q+1))++B) from⟨_,hsw.swapped HR.out s (s+1) hpd hqd,hnx⟩)
       have hl1:(enc d[s]!).length=k:=HR.hk _
       have hl2:(enc d[s+1]!).length=k:=HR.hk _
       have HSS:=ξh hs
       clear hsw hdl hsd hnx hpd hqd hs HD
       generalize enc d[s]! = cp at *
       generalize enc d[s+1]! = cq at *
       go_wp2_with fail
       go_big_region_o
       all_goals go_wp2
       go_roundw
       case rel=>exact⟨q+1,hlt,by have:=HSS.out;go_num,HNX⟩
       case measure=>simp[intOf];omega
     · obtain rfl:q=p:=by omega
       have hnI:¬((na+q:Nat):Int)<(e:Int):=by have:=HE.out;omega
       go_wp2
       go_end0
       obtain⟨d,hsw,hdl⟩:=HD.out
       exact⟨rfl,d,_,hsw,hdl,HPZ.2,HPZ.1⟩
theorem symRight_any {α:Type} [Inhabited α] {key:α→Int} {enc:α × Nat→List Value} {w0:World} {blk off:Nat} {d0:Array (α × Nat)} {k:Nat} (hk3:k=3) (R:RowK enc k w0 blk off d0) (hsz:d0.size<1000000) (g:Nat) (cb:Array Value) (cap:Nat)
 (eg:∀args w,(callFunc g args).run Tryz.prog w= .ok (.enter g args) w) (hC:CmpLays Tryz.prog g cb enc k (cfS key) blk off d0.size w0) {A X B:List (α × Nat)} {x:α × Nat} {dk:Array (α × Nat)} (W:World) (h:SWK enc k w0 blk off dk W)
 (hd:dk.toList=A++(X++(x::B))) (hs:dk.size=d0.size) (hy:srtS key X) (hc:crsS X [x]) (hne:X.length≠1):
 Calls Tryz.prog 244 #[.slice (some ⟨blk,off,none⟩) d0.size cap,.int .i64 A.length,.int .i64 ((A.length+X.length:Nat):Int),.int .i64 ((A.length+X.length+1:Nat):Int),.func (.func g) #[] cb] W (MrgQ key enc k w0 blk off A X [x] B):=by
 have hlen:d0.size=A.length+X.length+1+B.length:=by rw[ξbE hd hs];simp;omega
 have gx:dk[A.length+X.length]! = x:=by
  have h2:dk.toList=(A++X)++x::B:=by rw[hd];simp
  have:=ξaY h2
  rwa [ξk] at this
 have gy:∀i (hi:i<X.length),dk[A.length+i]! = X[i]:=fun i hi=>get_part hd hi
 have HFIN:=ξh (fun(p:Nat) (hp:p≤X.length) (h1:0<p→ ¬key x.1<key (dk[A.length+p-1]!).1) (h2:p<X.length→key x.1<key (dk[A.length+p]!).1)=>show srtS key (X.take p++x::X.drop p)∧(X.take p++x::X.drop p).Perm (X++[x]) from
  one_right hy hc hp (fun h0=>by have:=h1 h0;rwa [show A.length+p-1=A.length+(p-1) by omega,gy _ (by omega)] at this) (fun h0=>by have:=h2 h0;rwa [gy _ h0] at this))
 have HUP:=ξh (fun(q:Nat) (d:Array (α × Nat)) (hq:q<X.length) (hdl:d.toList=A++((X.take (q+1)++x::X.drop (q+1))++B))=>show d.size=d0.size∧(swp d (A.length+q+1) (A.length+q)).toList=A++((X.take q++x::X.drop q)++B) from⟨by rw[←Array.length_toList,hdl,hlen];simp;omega,down_step hdl hq⟩)
 have HST:=ξh (show dk.toList=A++((X.take X.length++x::X.drop X.length)++B) by rw[hd];simp)
 generalize hna:A.length=na at *
 obtain⟨nx,hnx⟩:∃nx,nx=X.length:=⟨_,rfl⟩
 obtain⟨m,hm⟩:∃m,m=na+nx:=⟨_,rfl⟩
 obtain⟨b,hb⟩:∃b,b=m+1:=⟨_,rfl⟩
 obtain⟨N,hN⟩:∃N,N=d0.size:=⟨_,rfl⟩
 have k1:m=na+nx:=hm
 have k2:b=m+1:=hb
 have k3:b≤N:=by omega
 have k4:N<1000000:=by omega
 have hn1:(nx:Int)≠1:=by omega
 rw[←hnx] at HFIN HST
 rw[←hnx,←hN] at HUP
 rw[←hnx,←hm] at gx
 rw[←hnx,←hm,←hb,←hN]
 rw[←hN] at hs hC
 have GX:=ξh gx
 have HS:=ξh hs
 have HR:=ξh R
 have HW:=ξh h
 have HC:=ξh hC
 have HNE:=ξh hN
 clear R h hd hs hlen hnx hm hb hN hsz hy hc gy hC gx hna hne
 have F:=Tryz.func244
 have mixed:Tryz.prog.follows .mixedOrders=true:=by kernel_rfl
 have t0:=Tryz.underlying3;have a0:=Tryz.isAgg3;have z0:=Tryz.sizeOf3;have v0:=Tryz.zeroValue3
 have t1:=Tryz.underlying4;have a1:=Tryz.isAgg4;have z1:=Tryz.sizeOf4;have v1:=Tryz.zeroValue4
 have t2:=Tryz.underlying164;have a2:=Tryz.isAgg164;have z2:=Tryz.sizeOf164;have v2:=Tryz.zeroValue164
 have t3:=Tryz.underlying184;have a3:=Tryz.isAgg184;have z3:=Tryz.sizeOf184;have v3:=Tryz.zeroValue184
 have t4:=Tryz.underlying189;have a4:=Tryz.isAgg189;have z4:=Tryz.sizeOf189;have v4:=Tryz.zeroValue189
 rw[←hk3] at z4
 have HK3:=ξh hk3
 clear hk3
 generalize Tryz.prog=P at *
 have hw0:IntKind.i64.wrap ((m:Int)-(na:Int))=(nx:Int):=by rw[ξi _ (by omega)];omega
 have hw1:IntKind.i64.wrap ((b:Int)-(m:Int))=1:=by rw[ξi _ (by omega)];omega
 have hnb:((nx:Int)==1)=false:=by simpa using hn1
 have K1:=ξh k1
 have K2:=ξh k2
 have kna:na<N:=by omega
 have kmN:m<N:=by omega
 clear k1 k2
 go_enter F,Tryz.ntmps244
 go_wp2
 clear hw0 hw1 hnb hn1
 go_loopw [14,15,16] (fun vi vj _ wr=>∃i j:Nat,na≤i∧i≤j∧j≤m∧vi= .int .i64 i∧vj= .int .i64 j∧Hid (InvR key dk x na m i j)∧Hid (SWK enc k w0 blk off dk wr)) (fun vi vj _ _=>(intOf vj).toNat-(intOf vi).toNat)
 case atStart=>exact⟨na,m,ξr _,by have:=K1.out;omega,ξr _,rfl,rfl,(show InvR key dk x na m na m from⟨fun h=>absurd h (by omega),fun h=>absurd h (by omega)⟩),HW⟩
 case round=>
  obtain⟨i,j,hmi,hij,hjb,rfl,rfl,HI,HD⟩:=hrel
  by_cases hlt:i<j
  · have hltI:(i:Int)<(j:Int):=by omega
    obtain⟨c,hc⟩:∃c,c=(i+j)/2:=⟨_,rfl⟩
    have hci:i≤c:=by omega
    have hcj:c<j:=by omega
    have hc2:((i:Int)+(j:Int))/2=(c:Int):=by omega
    clear hc
    have hcN:(c:Int)<(N:Int):=by omega
    have hnN:(m:Int)<(N:Int):=by omega
    have l1:=fun n' os'=>HD.ld HR.out (by rw[HS.out,HNE.out]) P c (by rw[HS.out];omega) n' os'
    have l2:=fun n' os'=>HD.ld HR.out (by rw[HS.out,HNE.out]) P m (by rw[HS.out];omega) n' os'
    have hcg:=fun n' os'=>HD.cmp HC.out HS.out dk[m]! dk[c]! n' os'
    rw[GX.out] at hcg l2
    have HLT:=ξh (cfS_neg key x dk[c]!)
    generalize cfS key x dk[c]! = cv at *
    by_cases hlv:cv<0
    · go_wp2_with fail
      go_quiet_grown (first | (go_at_fn g;refine Calls.grown_of (hcg _ _)))
      clear l1 l2 hcg hc2 hltI
      have HD2:=ξh (HD.grown nq osq)
      generalize grow (wr.drewN nq) osq=wq at *
      go_wp2
      go_roundw
      case rel=>exact⟨i,c,hmi,hci,by omega,by go_num,rfl,(show InvR key dk x na m i c from⟨HI.1,fun _=>HLT.1 hlv⟩),HD2⟩
      case measure=>simp[intOf];omega
    · have HNL:Hid (¬cv<0):=hlv
      have hcd:decide (cv<0)=false:=ξf hlv
      have hcd2:decide (0≤cv)=true:=ξt (by omega)
      go_wp2_with fail
      go_quiet_grown (first | (go_at_fn g;refine Calls.grown_of (hcg _ _)))
      clear l1 l2 hcg hc2 hltI
      have HD2:=ξh (HD.grown nq osq)
      generalize grow (wr.drewN nq) osq=wq at *
      go_wp2
      go_roundw
      case rel=>exact⟨c+1,j,by omega,by omega,hjb,by go_num,rfl,(show InvR key dk x na m (c+1) j from⟨fun _ h=>by have:=HLT.2 h;have:=HNL.out;omega,HI.2⟩),HD2⟩
      case measure=>simp[intOf];omega
  · obtain rfl:i=j:=by omega
    obtain⟨p,hp⟩:∃p,p=i-na:=⟨_,rfl⟩
    have hpy:p≤nx:=by have:=K1.out;omega
    have hip:i=na+p:=by omega
    have HPZ:=ξh (HFIN.out p hpy (fun h0=>by rw[←hip];have:=HI.1 (by omega);omega) (fun h0=>by rw[←hip];exact HI.2 (by have:=K1.out;omega)))
    have HIP:=ξh hip
    have HST2:=ξh (show∃d,SWK enc k w0 blk off d wr∧d.toList=A++((X.take nx++x::X.drop nx)++B) from⟨dk,HD.out,HST.out⟩)
    clear hp hip hlt hmi hij hjb HI HD
    go_wp2
    go_loopw [17] (fun vi wr=>∃q:Nat,p≤q∧q≤nx∧vi= .int .i64 ((na+q:Nat):Int)∧Hid (∃d,SWK enc k w0 blk off d wr∧d.toList=A++((X.take q++x::X.drop q)++B))) (fun vi _=>(intOf vi).toNat)
    case atStart=>exact⟨nx,hpy,ξr _,by rw[K1.out],HST2⟩
    case round=>
     obtain⟨q,hpq,hqn,rfl,HD⟩:=hrel
     by_cases hlt:p<q
     · obtain⟨r,rfl⟩:∃r,q=r+1:=⟨q-1,by omega⟩
       obtain⟨d,hsw,hdl⟩:=HD.out
       obtain⟨hsd,hnx⟩:=HUP.out r d (by omega) hdl
       obtain⟨s,hs⟩:∃s,s=na+r:=⟨_,rfl⟩
       rw[←hs] at hnx
       rw[show na+(r+1)=s+1 by omega]
       have hsI:(i:Int)<(s:Int)+1:=by have:=HIP.out;omega
       have hpN:(s:Int)<(N:Int):=by have:=K1.out;omega
       have hqN:(s:Int)+1<(N:Int):=by have:=K1.out;omega
       have hpd:s<d.size:=by rw[hsd];omega
       have hqd:s+1<d.size:=by rw[hsd];omega
       have l1:=hsw.ld1 HR.out (by rw[hsd,HNE.out]) P s hpd
       have l2:=hsw.ld1 HR.out (by rw[hsd,HNE.out]) P (s+1) hqd
       have s1:=hsw.st1 HR.out (by rw[hsd,HNE.out]) P (s+1) hqd d[s]!
       have s2:=hsw.st2 HR.out (by rw[hsd,HNE.out]) P (s+1) s hqd hpd d[s]! d[s+1]!
       have HNX:=ξh (show∃d',SWK enc k w0 blk off d' ((wr.drew.setCells blk (off+(s+1)*k) (enc d[s]!)).setCells blk (off+s*k) (enc d[s+1]!))∧d'.toList=A++((X.take r++x::X.drop r)++B) from⟨_,hsw.swapped HR.out (s+1) s hqd hpd,hnx⟩)
       have hl1:(enc d[s]!).length=k:=HR.hk _
       have hl2:(enc d[s+1]!).length=k:=HR.hk _
       have HSS:=ξh hs
       clear hsw hdl hsd hnx hpd hqd hs HD
       generalize enc d[s]! = cp at *
       generalize enc d[s+1]! = cq at *
       go_wp2_with fail
       go_big_region_o
       all_goals go_wp2
       go_roundw
       case rel=>exact⟨r,by omega,by omega,by have:=HSS.out;go_num,HNX⟩
       case measure=>(simp[intOf];try omega)
     · obtain rfl:q=p:=by omega
       have hnI:¬((na+q:Nat):Int)>(i:Int):=by have:=HIP.out;omega
       go_wp2
       go_end0
       obtain⟨d,hsw,hdl⟩:=HD.out
       exact⟨rfl,d,_,hsw,hdl,HPZ.2,HPZ.1⟩
section
variable {α : Type}
theorem swr_at {A X M Y B:List α} {i:Nat} (hx:i<X.length) (hy:i<Y.length):A++(Y.take i++(X.drop i++(M++(X.take i++(Y.drop i++B)))))=(A++Y.take i)++X[i]::((X.drop (i+1)++M++X.take i)++Y[i]::(Y.drop (i+1)++B)):=by
 rw[List.drop_eq_getElem_cons hx,List.drop_eq_getElem_cons hy];simp only[List.append_assoc,List.cons_append]
theorem swr_next {A X M Y B:List α} {i:Nat} (hx:i<X.length) (hy:i<Y.length):(A++Y.take i)++Y[i]::((X.drop (i+1)++M++X.take i)++X[i]::(Y.drop (i+1)++B))=A++(Y.take (i+1)++(X.drop (i+1)++(M++(X.take (i+1)++(Y.drop (i+1)++B))))):=by
 rw[List.take_add_one (l:=X),List.take_add_one (l:=Y),ξg hx,ξg hy];simp only[List.append_assoc,List.cons_append,Option.toList_some,List.nil_append]
end
theorem swapRange_any {α:Type} [Inhabited α] {enc:α→List Value} {w0:World} {blk off:Nat} {d0:Array α} {k:Nat} (hk3:k=3) (R:RowK enc k w0 blk off d0) (hsz:d0.size<1000000) (fv:Value) (cap:Nat) {A X M Y B:List α} {dk:Array α} (W:World) (h:SWK enc k w0 blk off dk W)
 (hd:dk.toList=A++(X++(M++(Y++B)))) (hs:dk.size=d0.size) (hxy:X.length=Y.length):
 Calls Tryz.prog 262 #[.slice (some ⟨blk,off,none⟩) d0.size cap,.int .i64 A.length,.int .i64 ((A.length+X.length+M.length:Nat):Int),.int .i64 X.length,fv] W fun e w'=>e= .returned (.tuple #[])∧ ∃d',SWK enc k w0 blk off d' w'∧d'.toList=A++(Y++(M++(X++B))):=by
 obtain⟨nn,hnn⟩:∃nn,nn=X.length:=⟨_,rfl⟩
 obtain⟨pa,hpa⟩:∃pa,pa=A.length:=⟨_,rfl⟩
 obtain⟨pb,hpb⟩:∃pb,pb=A.length+X.length+M.length:=⟨_,rfl⟩
 obtain⟨N,hN⟩:∃N,N=d0.size:=⟨_,rfl⟩
 have hlen:d0.size=A.length+X.length+M.length+Y.length+B.length:=by
  rw[←hs,←Array.length_toList,hd];simp;omega
 have HST:=ξh (show∃d,SWK enc k w0 blk off d W∧d.toList=A++(Y.take 0++(X.drop 0++(M++(X.take 0++(Y.drop 0++B))))) from⟨dk,h,by rw[hd];simp⟩)
 have HSTEP:=ξh (fun(i:Nat) (hi:i<nn) (d:Array α) (hdl:d.toList=A++(Y.take i++(X.drop i++(M++(X.take i++(Y.drop i++B))))))=>show d.size=d0.size∧(swp d (pa+i) (pb+i)).toList=A++(Y.take (i+1)++(X.drop (i+1)++(M++(X.take (i+1)++(Y.drop (i+1)++B))))) from by
  have hx:i<X.length:=by omega
  have hy:i<Y.length:=by omega
  refine⟨by rw[←hs,←Array.length_toList,←Array.length_toList,hd,hdl];simp;omega,?_⟩
  rw[swr_at hx hy] at hdl
  have:=swp_list hdl
  have e1:(A++Y.take i).length=pa+i:=by rw[ξk,List.length_take];omega
  have e2:(A++Y.take i).length+1+(X.drop (i+1)++M++X.take i).length=pb+i:=by
   simp only[ξk,List.length_take,List.length_drop];omega
  rw[e2,e1] at this
  rw[this,swr_next hx hy])
 have HFIN:=ξh (fun(d:Array α) (hdl:d.toList=A++(Y.take nn++(X.drop nn++(M++(X.take nn++(Y.drop nn++B))))))=>show d.toList=A++(Y++(M++(X++B))) from by
  rw[hdl,List.take_of_length_le (by omega:Y.length≤nn),List.drop_eq_nil_of_le (by omega:X.length≤nn),List.take_of_length_le (by omega:X.length≤nn),List.drop_eq_nil_of_le (by omega:Y.length≤nn)];simp)
 have HR:=ξh R
 have hb1:pb+nn≤N:=by omega
 have hb2:pa+nn≤N:=by omega
 have hb3:N<1000000:=by omega
 have HNE:=ξh hN
 rw[←hnn,←hpa,show pa+nn+M.length=pb by omega,←hN]
 clear R h hd hs hxy hlen hnn hpa hpb hN hsz
 have F:=Tryz.func262
 have mixed:Tryz.prog.follows .mixedOrders=true:=by kernel_rfl
 have t0:=Tryz.underlying3;have a0:=Tryz.isAgg3;have z0:=Tryz.sizeOf3;have v0:=Tryz.zeroValue3
 have t1:=Tryz.underlying4;have a1:=Tryz.isAgg4;have z1:=Tryz.sizeOf4;have v1:=Tryz.zeroValue4
 have t2:=Tryz.underlying164;have a2:=Tryz.isAgg164;have z2:=Tryz.sizeOf164;have v2:=Tryz.zeroValue164
 have t3:=Tryz.underlying184;have a3:=Tryz.isAgg184;have z3:=Tryz.sizeOf184;have v3:=Tryz.zeroValue184
 have t4:=Tryz.underlying189;have a4:=Tryz.isAgg189;have z4:=Tryz.sizeOf189;have v4:=Tryz.zeroValue189
 rw[←hk3] at z4
 have HK3:=ξh hk3
 clear hk3
 generalize Tryz.prog=P at *
 go_enter F,Tryz.ntmps262
 go_wp2
 go_loopw [10] (fun vi wr=>∃i:Nat,i≤nn∧vi= .int .i64 i∧Hid (∃d,SWK enc k w0 blk off d wr∧d.toList=A++(Y.take i++(X.drop i++(M++(X.take i++(Y.drop i++B))))))) (fun vi _=>nn-(intOf vi).toNat)
 case atStart=>exact⟨0,ξu _,rfl,HST⟩
 case round=>
  obtain⟨i,hi,rfl,HD⟩:=hrel
  by_cases hlt:i<nn
  · have hltI:(i:Int)<(nn:Int):=by omega
    obtain⟨d,hsw,hdl⟩:=HD.out
    obtain⟨hsd,hnx⟩:=HSTEP.out i hlt d hdl
    obtain⟨p,hp⟩:∃p,p=pa+i:=⟨_,rfl⟩
    obtain⟨q,hq⟩:∃q,q=pb+i:=⟨_,rfl⟩
    have hpN:(p:Int)<(N:Int):=by omega
    have hqN:(q:Int)<(N:Int):=by omega
    have hpd:p<d.size:=by rw[hsd,←HNE.out];omega
    have hqd:q<d.size:=by rw[hsd,←HNE.out];omega
    have hwp:IntKind.i64.wrap ((pa:Int)+(i:Int))=(p:Int):=by rw[ξi _ (by omega)];omega
    have hwq:IntKind.i64.wrap ((pb:Int)+(i:Int))=(q:Int):=by rw[ξi _ (by omega)];omega
    have l1:=hsw.ld1 HR.out hsd P p hpd
    have l2:=hsw.ld1 HR.out hsd P q hqd
    have s1:=hsw.st1 HR.out hsd P p hpd d[q]!
    have s2:=hsw.st2 HR.out hsd P p q hpd hqd d[q]! d[p]!
    have HNX:=ξh (show∃d',SWK enc k w0 blk off d' ((wr.drew.setCells blk (off+p*k) (enc d[q]!)).setCells blk (off+q*k) (enc d[p]!))∧d'.toList=A++(Y.take (i+1)++(X.drop (i+1)++(M++(X.take (i+1)++(Y.drop (i+1)++B))))) from⟨_,hsw.swapped HR.out p q hpd hqd,by rw[hp,hq];exact hnx⟩)
    have hl1:(enc d[p]!).length=k:=HR.hk _
    have hl2:(enc d[q]!).length=k:=HR.hk _
    clear hsw hdl hsd hnx hpd hqd hp hq HD
    generalize enc d[p]! = cp at *
    generalize enc d[q]! = cq at *
    go_wp2_with fail
    go_big_region_o
    all_goals go_wp2
    clear hwp hwq
    go_roundw
    case rel=>exact⟨i+1,hlt,by go_num,HNX⟩
    case measure=>simp[intOf];omega
  · obtain rfl:i=nn:=by omega
    go_wp2
    go_end0
    obtain⟨d,hsw,hdl⟩:=HD.out
    exact⟨rfl,d,hsw,HFIN.out d hdl⟩
def RotS {α:Type} (A X Y B:List α) (m:Nat) (L X' Y':List α):Prop:=∃Pp Q,L=A++(Pp++(X'++(Y'++(Q++B))))∧A++(Pp++(Y'++(X'++(Q++B))))=A++(Y++(X++B))∧A.length+Pp.length+X'.length=m
theorem RotS.start {α:Type} (A X Y B:List α):RotS A X Y B (A.length+X.length) (A++(X++(Y++B))) X Y:=⟨[],[],by simp,by simp,by simp⟩
theorem RotS.left {α:Type} {A X Y B:List α} {m:Nat} {L X1 X2 Y':List α} (h:RotS A X Y B m L (X1++X2) Y') (hl:X1.length=Y'.length):
 ∃C D,L=C++(X1++(X2++(Y'++D)))∧C.length+(X1++X2).length=m∧RotS A X Y B m (C++(Y'++(X2++(X1++D)))) X2 X1:=by
 obtain⟨Pp,Q,e1,e2,e3⟩:=h
 refine⟨A++Pp,Q++B,by rw[e1];simp only[List.append_assoc],by rw[ξk];exact e3,Pp++Y',Q,by simp only[List.append_assoc],?_,?_⟩
 · rw[←e2];simp only[List.append_assoc]
 · rw[ξk] at e3 ⊢;omega
theorem RotS.right {α:Type} {A X Y B:List α} {m:Nat} {L X' Y1 Y2:List α} (h:RotS A X Y B m L X' (Y1++Y2)) (hl:X'.length=Y2.length):
 ∃C D,L=C++(X'++(Y1++(Y2++D)))∧C.length+X'.length=m∧RotS A X Y B m (C++(Y2++(Y1++(X'++D)))) Y2 Y1:=by
 obtain⟨Pp,Q,e1,e2,e3⟩:=h
 refine⟨A++Pp,Q++B,by rw[e1];simp only[List.append_assoc],by rw[ξk];exact e3,Pp,X'++Q,by simp only[List.append_assoc],?_,by omega⟩
 rw[←e2];simp only[List.append_assoc]
theorem RotS.done {α:Type} {A X Y B:List α} {m:Nat} {L X' Y':List α} (h:RotS A X Y B m L X' Y'):∃C D,L=C++(X'++([]++(Y'++D)))∧C.length+X'.length=m∧C++(Y'++([]++(X'++D)))=A++(Y++(X++B)):=by
 obtain⟨Pp,Q,e1,e2,e3⟩:=h
 refine⟨A++Pp,Q++B,by rw[e1];simp only[List.append_assoc,List.nil_append],by rw[ξk];exact e3,by rw[←e2];simp only[List.append_assoc,List.nil_append]⟩
theorem rotate_any {α:Type} [Inhabited α] {enc:α→List Value} {w0:World} {blk off:Nat} {d0:Array α} {k:Nat} (hk3:k=3) (R:RowK enc k w0 blk off d0) (hsz:d0.size<1000000) (fv:Value) (cap:Nat) {A X Y B:List α} {dk:Array α} (W:World) (h:SWK enc k w0 blk off dk W)
 (hd:dk.toList=A++(X++(Y++B))) (hs:dk.size=d0.size) (hx:0<X.length) (hy:0<Y.length):
 Calls Tryz.prog 252 #[.slice (some ⟨blk,off,none⟩) d0.size cap,.int .i64 A.length,.int .i64 ((A.length+X.length:Nat):Int),.int .i64 ((A.length+X.length+Y.length:Nat):Int),fv] W fun e w'=>e= .returned (.tuple #[])∧ ∃d',SWK enc k w0 blk off d' w'∧d'.toList=A++(Y++(X++B)):=by
 have HSW:=ξh (fun(A' X' M' Y' B':List α) (d:Array α) (wx:World) (h:SWK enc k w0 blk off d wx) (hd:d.toList=A'++(X'++(M'++(Y'++B')))) (hs:d.size=d0.size) (hxy:X'.length=Y'.length)=>swapRange_any hk3 R hsz fv cap (A:=A') (X:=X') (M:=M') (Y:=Y') (B:=B') wx h hd hs hxy)
 have hlen:d0.size=A.length+X.length+Y.length+B.length:=by
  rw[←hs,←Array.length_toList,hd];simp;omega
 have HST:=ξh (show∃d X' Y',SWK enc k w0 blk off d W∧RotS A X Y B (A.length+X.length) d.toList X' Y'∧X'.length=X.length∧Y'.length=Y.length from⟨dk,X,Y,h,by rw[hd];exact RotS.start A X Y B,rfl,rfl⟩)
 have HSZ:=ξh (fun(d:Array α) (X' Y':List α) (h:RotS A X Y B (A.length+X.length) d.toList X' Y')=>show d.size=d0.size∧X'.length≤A.length+X.length∧A.length+X.length+Y'.length≤d0.size from by
  obtain⟨Pp,Q,e1,e2,e3⟩:=h
  have h1:=congrArg List.length e2
  simp only[ξk] at h1
  have h2:d.size=(A++(Pp++(X'++(Y'++(Q++B))))).length:=by rw[←e1];simp
  simp only[ξk] at h2
  omega)
 obtain⟨m,hm⟩:∃m,m=A.length+X.length:=⟨_,rfl⟩
 obtain⟨na,hna⟩:∃na,na=A.length:=⟨_,rfl⟩
 obtain⟨nb,hnb⟩:∃nb,nb=A.length+X.length+Y.length:=⟨_,rfl⟩
 obtain⟨nx,hnx⟩:∃nx,nx=X.length:=⟨_,rfl⟩
 obtain⟨ny,hny⟩:∃ny,ny=Y.length:=⟨_,rfl⟩
 obtain⟨N,hN⟩:∃N,N=d0.size:=⟨_,rfl⟩
 have k1:m=na+nx:=by omega
 have k2:nb=m+ny:=by omega
 have k3:nb≤N:=by omega
 have k4:N<1000000:=by omega
 have k5:0<nx:=by omega
 have k6:0<ny:=by omega
 rw[←hnb,←hm,←hna,←hN]
 rw[←hm,←hnx,←hny] at HST
 rw[←hm,←hN] at HSZ
 have HNE:=ξh hN
 rw[←hN] at HSW
 clear R h hd hs hx hy hlen hm hna hnb hnx hny hN hsz
 have F:=Tryz.func252
 have mixed:Tryz.prog.follows .mixedOrders=true:=by kernel_rfl
 have eg:∀args w,(callFunc 262 args).run Tryz.prog w= .ok (.enter 262 args) w:=enters_of Tryz.func262 (by kernel_rfl) rfl
 have t0:=Tryz.underlying3;have a0:=Tryz.isAgg3;have z0:=Tryz.sizeOf3;have v0:=Tryz.zeroValue3
 have t1:=Tryz.underlying4;have a1:=Tryz.isAgg4;have z1:=Tryz.sizeOf4;have v1:=Tryz.zeroValue4
 have t2:=Tryz.underlying164;have a2:=Tryz.isAgg164;have z2:=Tryz.sizeOf164;have v2:=Tryz.zeroValue164
 have t3:=Tryz.underlying184;have a3:=Tryz.isAgg184;have z3:=Tryz.sizeOf184;have v3:=Tryz.zeroValue184
 have t4:=Tryz.underlying189;have a4:=Tryz.isAgg189;have z4:=Tryz.sizeOf189;have v4:=Tryz.zeroValue189
 generalize Tryz.prog=P at *
 have hw0:IntKind.i64.wrap ((m:Int)-(na:Int))=(nx:Int):=by rw[ξi _ (by omega)];omega
 have hw1:IntKind.i64.wrap ((nb:Int)-(m:Int))=(ny:Int):=by rw[ξi _ (by omega)];omega
 have K1:=ξh k1
 have K2:=ξh k2
 clear k1 k2
 go_enter F,Tryz.ntmps252
 go_wp2
 clear hw0 hw1
 go_loopw [10,11] (fun vi vj wr=>∃i j:Nat,0<i∧0<j∧vi= .int .i64 i∧vj= .int .i64 j∧Hid (∃d X' Y',SWK enc k w0 blk off d wr∧RotS A X Y B m d.toList X' Y'∧X'.length=i∧Y'.length=j)) (fun vi vj _=>(intOf vi).toNat+(intOf vj).toNat)
 case atStart=>exact⟨nx,ny,k5,k6,rfl,rfl,HST⟩
 case round=>
  obtain⟨i,j,i0,j0,rfl,rfl,HD⟩:=hrel
  obtain⟨d,X',Y',hsw,hro,hxl,hyl⟩:=HD.out
  obtain⟨z1,z2,z3⟩:=HSZ.out d X' Y' hro
  clear HD
  by_cases hij:i=j
  · obtain⟨C,D,e1,e2,e3⟩:=hro.done
    obtain⟨c,hc⟩:∃c,c=C.length:=⟨_,rfl⟩
    have HC:=ξh (HSW.out C X' [] Y' D d wr hsw e1 z1 (by omega))
    simp only[List.length_nil,Nat.add_zero] at HC
    rw[←hc,hxl,show c+i=m by omega] at HC
    have hsub:IntKind.i64.wrap ((m:Int)-(i:Int))=(c:Int):=by rw[ξi _ (by omega)];omega
    have E3:=ξh e3
    have hdb:((i:Int) != (j:Int))=false:=by rw[hij];simp
    clear hsw hro e1 e2 e3 hxl hyl z1 z2 z3 hc hij
    go_wp2_with (go_at_fn 262;refine HC.mono ?_;rintro e w' ⟨rfl,h9⟩;have H9:=ξh h9;clear h9)
    go_end0
    obtain⟨d',h1,h2⟩:=H9.out
    exact⟨rfl,d',h1,by rw[h2];exact E3.out⟩
  · have hdb:((i:Int) != (j:Int))=true:=by rw[bne_iff_ne];omega
    by_cases hgt:j<i
    · obtain⟨X1,X2,rfl,hx1,hx2⟩:∃X1 X2,X'=X1++X2∧X1.length=j∧X2.length=i-j:=⟨X'.take j,X'.drop j,(List.take_append_drop j X').symm,by rw[List.length_take];omega,by rw[List.length_drop];omega⟩
      obtain⟨C,D,e1,e2,e3⟩:=hro.left (by omega)
      obtain⟨c,hc⟩:∃c,c=C.length:=⟨_,rfl⟩
      obtain⟨i2,hi2⟩:∃i2,i2=i-j:=⟨_,rfl⟩
      have HC:=ξh (HSW.out C X1 X2 Y' D d wr hsw e1 z1 (by omega))
      rw[ξk] at e2
      rw[←hc,hx1,hx2,show c+j+(i-j)=m by omega] at HC
      have HNX:=ξh (fun(d':Array α) (h:d'.toList=C++(Y'++(X2++(X1++D))))=>show RotS A X Y B m d'.toList X2 X1∧X2.length=i2∧X1.length=j from⟨by rw[h];exact e3,by omega,hx1⟩)
      have i20:0<i2:=by omega
      have i2l:i2<i:=by omega
      have hgd:decide ((i:Int)>(j:Int))=true:=ξt (by omega)
      have hgd2:decide (j<i)=true:=ξt hgt
      have hs1:IntKind.i64.wrap ((i:Int)-(j:Int))=(i2:Int):=by rw[ξi _ (by omega)];omega
      have hsub:IntKind.i64.wrap ((m:Int)-(i:Int))=(c:Int):=by rw[ξi _ (by omega)];omega
      clear hsw hro e1 e2 e3 hxl hyl hx1 hx2 z1 z2 z3 hc hij hgt hi2
      go_wp2_with (go_at_fn 262;refine HC.mono ?_;rintro e w' ⟨rfl,h9⟩;have H9:=ξh h9;clear h9)
      clear hs1 hsub
      go_roundw
      case rel=>
       obtain⟨d',h1,h2⟩:=H9.out
       exact⟨i2,j,i20,j0,by go_num,by go_num,d',X2,X1,h1,HNX.out d' h2⟩
      case measure=>simp[intOf];omega
    · obtain⟨Y1,Y2,rfl,hy1,hy2⟩:∃Y1 Y2,Y'=Y1++Y2∧Y1.length=j-i∧Y2.length=i:=⟨Y'.take (j-i),Y'.drop (j-i),(List.take_append_drop (j-i) Y').symm,by rw[List.length_take];omega,by rw[List.length_drop];omega⟩
      obtain⟨C,D,e1,e2,e3⟩:=hro.right (by omega)
      obtain⟨c,hc⟩:∃c,c=C.length:=⟨_,rfl⟩
      obtain⟨j2,hj2⟩:∃j2,j2=j-i:=⟨_,rfl⟩
      obtain⟨q,hq⟩:∃q,q=m+j2:=⟨_,rfl⟩
      obtain⟨mj,hmj⟩:∃mj,mj=m+j:=⟨_,rfl⟩
      have HC:=ξh (HSW.out C X' Y1 Y2 D d wr hsw e1 z1 (by omega))
      rw[←hc,hxl,hy1,show c+i+(j-i)=q by omega] at HC
      have HNX:=ξh (fun(d':Array α) (h:d'.toList=C++(Y2++(Y1++(X'++D))))=>show RotS A X Y B m d'.toList Y2 Y1∧Y2.length=i∧Y1.length=j2 from⟨by rw[h];exact e3,hy2,by omega⟩)
      have j20:0<j2:=by omega
      have j2l:j2<j:=by omega
      have hgd:decide ((i:Int)>(j:Int))=false:=ξf (by omega)
      have hgd2:decide (j<i)=false:=ξf hgt
      have hs1:IntKind.i64.wrap ((j:Int)-(i:Int))=(j2:Int):=by rw[ξi _ (by omega)];omega
      have hs2:IntKind.i64.wrap ((m:Int)+(j:Int))=(mj:Int):=by rw[ξi _ (by omega)];omega
      have hs3:IntKind.i64.wrap ((mj:Int)-(i:Int))=(q:Int):=by rw[ξi _ (by omega)];omega
      have hsub:IntKind.i64.wrap ((m:Int)-(i:Int))=(c:Int):=by rw[ξi _ (by omega)];omega
      rw[ξk] at hyl
      clear hsw hro e1 e2 e3 hxl hyl hy1 hy2 z1 z2 z3 hc hij hgt hj2 hq hmj
      go_wp2_with (go_at_fn 262;refine HC.mono ?_;rintro e w' ⟨rfl,h9⟩;have H9:=ξh h9;clear h9)
      clear hs1 hsub hs2 hs3
      go_roundw
      case rel=>
       obtain⟨d',h1,h2⟩:=H9.out
       exact⟨i,j2,i0,j20,by go_num,by go_num,d',Y2,Y1,h1,HNX.out d' h2⟩
      case measure=>simp[intOf];omega
end Go.Proofs.YtofcicomhnkocaaGreat
