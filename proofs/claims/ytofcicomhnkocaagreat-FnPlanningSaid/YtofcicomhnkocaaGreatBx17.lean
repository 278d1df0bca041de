import Derived.Test.YtofcicomhnkocaaGreatBx16
import Derived.Test.YtofcicomhnkocaaGreatBx13
set_option linter.unusedVariables false
namespace Go.Proofs.YtofcicomhnkocaaGreat
set_option maxHeartbeats 12800000
open Go.RowKit Go.Sort Go.Shelf
set_option maxRecDepth 100000
section
variable {α : Type} {key : α → Int}
def StI (key:α→Int) (T:List (α × Nat)) (a:Nat) (L:List (α × Nat)):Prop:=L.length=T.length∧ ∃i,a=i*20∧(∀j,j<i→blkS key 20 T L j)∧ ∀j,i≤j→blkA L 20 j=blkA T 20 j
def StB (key:α→Int) (T:List (α × Nat)) (bs:Nat) (L:List (α × Nat)):Prop:=L.length=T.length∧ ∀j,blkS key bs T L j
def StP (key:α→Int) (T:List (α × Nat)) (bs a:Nat) (L:List (α × Nat)):Prop:=L.length=T.length∧ ∃i,a=i*(2*bs)∧(∀j,j<i→blkS key (2*bs) T L j)∧ ∀j,2*i≤j→blkS key bs T L j
theorem StI.start (T:List (α × Nat)):StI key T 0 T:=⟨rfl,0,by omega,fun j h=>absurd h (by omega),fun j _=>rfl⟩
theorem StB.pass {T:List (α × Nat)} {bs:Nat} {L:List (α × Nat)} (h:StB key T bs L):StP key T bs 0 L:=⟨h.1,0,by omega,fun j h=>absurd h (by omega),fun j _=>h.2 j⟩
theorem blkA_at {L A X B:List (α × Nat)} {bs i:Nat} (h:L=A++(X++B)) (hA:A.length=i*bs) (hx:X.length=bs∨(B=[]∧X.length≤bs)):blkA L bs i=X:=by
 rw[h,←List.append_assoc];exact blkA_new hA hx
theorem StI.step {T L L' A X Z B:List (α × Nat)} {a:Nat} (h:StI key T a L) (hL:L=A++(X++B)) (ha:A.length=a) (hx:X.length=20∨(B=[]∧X.length≤20)) (hL':L'=A++(Z++B)) (hz:Z.Perm X) (hs:srtS key Z):StI key T (a+20) L':=by
 obtain⟨hl,i,hai,h1,h2⟩:=h
 have hzl:=hz.length_eq
 have hxb:blkA L 20 i=X:=blkA_at hL (by omega) hx
 have hzb:blkA L' 20 i=Z:=blkA_at hL' (by omega) (by rcases hx with h | ⟨h,h'⟩;exact .inl (by omega);exact .inr ⟨h,by omega⟩)
 refine⟨by rw[←hl,hL,hL'];simp;omega,i+1,by omega,fun j hj=> ?_,fun j hj=> ?_⟩
 · by_cases e:j=i
   · subst e
     unfold blkS
     rw[hzb]
     refine⟨hs,?_⟩
     rw[←h2 j (ξr _),hxb];exact hz
   · have:=h1 j (by omega)
     unfold blkS at this ⊢
     have e2:blkA L' 20 j=blkA L 20 j:=by
      rw[hL,hL',←List.append_assoc,←List.append_assoc]
      exact blkA_old (by omega:A.length=i*20) (by omega)
     rw[e2];exact this
 · rw[←h2 j (by omega),hL,hL',←List.append_assoc,←List.append_assoc]
   rcases hx with h | ⟨h,h'⟩
   · exact blkA_far hzl (by omega)
   · exact blkA_far hzl (by omega)
theorem StI.end_ {T L:List (α × Nat)} {a:Nat} (h:StI key T a L) (hn:T.length≤a):StB key T 20 L:=by
 obtain⟨hl,i,hai,h1,h2⟩:=h
 refine⟨hl,fun j=> ?_⟩
 by_cases hj:j<i
 · exact h1 j hj
 · have:i*20≤j*20:=Nat.mul_le_mul_right 20 (by omega)
   exact blkS_end (by omega) hl
theorem StP.step {T L L' A X Y Z B:List (α × Nat)} {bs a:Nat} (h:StP key T bs a L) (hL:L=A++(X++(Y++B))) (ha:A.length=a) (hx:X.length=bs) (hy:Y.length=bs∨(B=[]∧Y.length≤bs)) (hL':L'=A++(Z++B)) (hz:Z.Perm (X++Y)) (hs:srtS key Z):StP key T bs (a+2*bs) L':=by
 obtain⟨hl,i,hai,h1,h2⟩:=h
 have hzl:=hz.length_eq
 rw[ξk] at hzl
 have hm:i*(2*bs)=2*i*bs:=by rw[←Nat.mul_assoc,Nat.mul_comm i 2]
 have hm1:(2*i+1)*bs=2*i*bs+bs:=by rw[Nat.add_mul,Nat.one_mul]
 have hxb:blkA L bs (2*i)=X:=blkA_at hL (by omega) (.inl hx)
 have hyb:blkA L bs (2*i+1)=Y:=blkA_at (A:=A++X) (by rw[hL];simp) (by rw[ξk];omega) hy
 have hzb:blkA L' (2*bs) i=Z:=blkA_at hL' (by omega) (by rcases hy with h | ⟨h,h'⟩;exact .inl (by omega);exact .inr ⟨h,by omega⟩)
 have hL2:L=A++((X++Y)++B):=by rw[hL];simp
 refine⟨by rw[←hl,hL,hL'];simp;omega,i+1,by rw[Nat.add_mul,Nat.one_mul];omega,fun j hj=> ?_,fun j hj=> ?_⟩
 · by_cases e:j=i
   · subst e
     unfold blkS
     rw[hzb]
     refine⟨hs,hz.trans ?_⟩
     rw[blkA_two]
     have b1:=(h2 (2*j) (by omega)).2
     have b2:=(h2 (2*j+1) (by omega)).2
     rw[hxb] at b1
     rw[hyb] at b2
     exact b1.append b2
   · have:=h1 j (by omega)
     unfold blkS at this ⊢
     have e2:blkA L' (2*bs) j=blkA L (2*bs) j:=by
      rw[hL2,hL',←List.append_assoc,←List.append_assoc]
      exact blkA_old (by omega:A.length=i*(2*bs)) (by omega)
     rw[e2];exact this
 · have:=h2 j (by omega)
   unfold blkS at this ⊢
   have e2:blkA L' bs j=blkA L bs j:=by
    rw[hL2,hL',←List.append_assoc,←List.append_assoc]
    have hj2:(2*(i+1))*bs≤j*bs:=Nat.mul_le_mul_right bs hj
    have hj3:(2*(i+1))*bs=2*i*bs+2*bs:=by rw[show 2*(i+1)=2*i+2 by omega,Nat.add_mul]
    exact blkA_far (by rw[ξk];omega) (by rw[ξk];rcases hy with h | ⟨h,h'⟩ <;> omega)
   rw[e2];exact this
theorem StP.end_ {T L:List (α × Nat)} {bs a:Nat} (h:StP key T bs a L) (hn:T.length≤a+bs):StB key T (2*bs) L:=by
 obtain⟨hl,i,hai,h1,h2⟩:=h
 have hm:i*(2*bs)=2*i*bs:=by rw[←Nat.mul_assoc,Nat.mul_comm i 2]
 refine⟨hl,fun j=> ?_⟩
 by_cases hj:j<i
 · exact h1 j hj
 · by_cases e:j=i
   · subst e
     have e1:blkA L bs (2*j+1)=[]:=blkA_end (by rw[Nat.add_mul,Nat.one_mul];omega)
     have e2:blkA T bs (2*j+1)=[]:=blkA_end (by rw[Nat.add_mul,Nat.one_mul];omega)
     have:=h2 (2*j) (by omega)
     unfold blkS at this ⊢
     rw[blkA_two,blkA_two,e1,e2,List.append_nil,List.append_nil]
     exact this
   · have:(i+1)*(2*bs)≤j*(2*bs):=Nat.mul_le_mul_right (2*bs) (by omega)
     rw[Nat.add_mul,Nat.one_mul] at this
     exact blkS_end (by omega) hl
theorem StP.full {T L:List (α × Nat)} {bs a:Nat} (h:StP key T bs a L) (hn:T.length≤a):StB key T (2*bs) L:=h.end_ (by omega)
theorem StB.all {T L:List (α × Nat)} {bs:Nat} (h:StB key T bs L) (hb:T.length≤bs):srtS key L∧L.Perm T:=blk_all (h.2 0) (by have:=h.1;omega) h.1
theorem StP.pair {T L:List (α × Nat)} {bs a:Nat} (ht:T.Pairwise fun x y=>x.2<y.2) (h:StP key T bs a L) (h1:a+bs<T.length):∃A X Y B,L=A++(X++(Y++B))∧A.length=a∧X.length=bs∧(Y.length=bs∨(B=[]∧Y.length≤bs))∧Y.length=min bs (T.length-(a+bs))∧srtS key X∧srtS key Y∧crsS X Y:=by
 obtain⟨hl,i,hai,g1,g2⟩:=h
 have hm:i*(2*bs)=2*i*bs:=by rw[←Nat.mul_assoc,Nat.mul_comm i 2]
 have hm1:(2*i+1)*bs=2*i*bs+bs:=by rw[Nat.add_mul,Nat.one_mul]
 have b1:=g2 (2*i) (ξr _)
 have b2:=g2 (2*i+1) (by omega)
 unfold blkS at b1 b2
 have hx:(blkA L bs (2*i)).length=bs:=blkA_len (by rw[hm1];omega)
 have hy:(blkA L bs (2*i+1)).length=min bs (T.length-(a+bs)):=by
  unfold blkA;rw[List.length_take,List.length_drop];omega
 refine⟨L.take a,blkA L bs (2*i),blkA L bs (2*i+1),L.drop (a+2*bs),?_,by rw[List.length_take];omega,hx,?_,hy,b1.1,b2.1,blk_crs ht (by omega) b1.2 b2.2⟩
 · have h0:=blkA_cut L (2*bs) i
   rw[blkA_two,←hai] at h0
   rw[List.append_assoc,List.append_assoc] at h0
   exact h0
 · by_cases hc:a+2*bs≤T.length
   · left;omega
   · right;exact⟨List.drop_eq_nil_of_le (by omega),by omega⟩
theorem StI.part {T L:List (α × Nat)} {a:Nat} (ht:T.Pairwise fun x y=>x.2<y.2) (h:StI key T a L) (h1:a≤T.length):∃A X B,L=A++(X++B)∧A.length=a∧(X.length=20∨(B=[]∧X.length≤20))∧X.length=min 20 (T.length-a)∧X.Pairwise fun x y=>x.2<y.2:=by
 obtain⟨hl,i,hai,g1,g2⟩:=h
 have hx:(blkA L 20 i).length=min 20 (T.length-a):=by
  unfold blkA;rw[List.length_take,List.length_drop];omega
 refine⟨L.take a,blkA L 20 i,L.drop (a+20),?_,by rw[List.length_take];omega,?_,hx,?_⟩
 · have h0:=blkA_cut L 20 i
   rw[←hai,List.append_assoc] at h0
   exact h0
 · by_cases hc:a+20≤T.length
   · left;omega
   · right;exact⟨List.drop_eq_nil_of_le (by omega),by omega⟩
 · rw[g2 i (ξr _)]
   unfold blkA
   exact List.Pairwise.sublist ((List.take_sublist _ _).trans (List.drop_sublist _ _)) ht
end
theorem swk_cmpLays {P:Program} {α:Type} [Inhabited α] {enc:α→List Value} {k:Nat} {w0 W:World} {blk off:Nat} {dk:Array α} {g:Nat} {cb:Array Value} {cf:α→α→Int} {size:Nat} (h:SWK enc k w0 blk off dk W) (hC:CmpLays P g cb enc k cf blk off size w0) (hblk:blk<w0.heap.size) (hs:dk.size=size):
 CmpLays P g cb enc k cf blk off size W:=fun m os d' hd' x y=>by
 obtain⟨m',os',e⟩:=h.on hblk m d' os (by omega)
 rw[e];exact hC m' os' d' hd' x y
theorem ξcl {α:Type} [Inhabited α] {key:α→Int} {enc:α × Nat→List Value} {w0:World} {blk off:Nat} {d0:Array (α × Nat)} {k:Nat} (hk3:k=3) (R:RowK enc k w0 blk off d0) (hsz:d0.size<1000000) (g:Nat) (cb:Array Value) (cap:Nat)
 (eg:∀args w,(callFunc g args).run Tryz.prog w= .ok (.enter g args) w) (hC:CmpLays Tryz.prog g cb enc k (cfS key) blk off d0.size w0):∀n:Nat,SymIH key enc k w0 blk off cap (.func (.func g) #[] cb) d0.size n:=by
 intro n
 induction n with
 | zero=>intro A X Y B d W h;omega
 | succ n ih=>
   intro A X Y B d W hn h hd hs hx0 hy0 hx hy hc
   by_cases h1:X.length=1
   · obtain⟨x,rfl⟩:=List.length_eq_one_iff.1 h1
     exact symLeft_any hk3 R hsz g cb cap eg hC W h hd hs hy hc
   · by_cases h2:Y.length=1
     · obtain⟨y,rfl⟩:=List.length_eq_one_iff.1 h2
       exact symRight_any hk3 R hsz g cb cap eg hC W h hd hs hx hc h1
     · exact symRec_any hk3 R hsz g cb cap eg hC W h hd hs hx hy hc (by omega) (by omega) (fun A' X' Y' B' d' W' hl=>ih A' X' Y' B' d' W' (by omega))
theorem ξcu {α:Type} [Inhabited α] {key:α→Int} {enc:α × Nat→List Value} {w0:World} {blk off:Nat} {d0:Array (α × Nat)} {k:Nat} (hk3:k=3) (R:RowK enc k w0 blk off d0) (hsz:d0.size<1000000) (g:Nat) (cb:Array Value) (cap:Nat)
 (eg:∀args w,(callFunc g args).run Tryz.prog w= .ok (.enter g args) w) (hC:CmpLays Tryz.prog g cb enc k (cfS key) blk off d0.size w0) {A X B:List (α × Nat)} {dk:Array (α × Nat)} (W:World) (h:SWK enc k w0 blk off dk W) (hd:dk.toList=A++(X++B)) (hs:dk.size=d0.size) (ht:X.Pairwise fun x y=>x.2<y.2):
 Calls Tryz.prog 243 #[.slice (some ⟨blk,off,none⟩) d0.size cap,.int .i64 A.length,.int .i64 ((A.length+X.length:Nat):Int),.func (.func g) #[] cb] W fun e w'=>
  e= .returned (.tuple #[])∧ ∃(d':Array (α × Nat)) (Z:List (α × Nat)),SWK enc k w0 blk off d' w'∧d'.toList=A++(Z++B)∧Z.Perm X∧srtS key Z:=by
 have hlen:=ξbE hd hs
 simp only[ξk] at hlen
 have hH:=h.holds R.hblk R.hH hs
 rw[←hs]
 refine(AnyQ.insertionSortCmpFunc Tryz.insChoice k Tryz.isAgg189 (by rw[hk3];exact Tryz.sizeOf189) enc R.hk R.h1 (cfS key) g cb blk off cap A.length (A.length+X.length) dk W eg (swk_cmpLays h (by rw[hs];exact hC) R.hblk rfl) hH (h.lt R.hblk) (by omega) (by omega) (by omega)).mono ?_
 rintro e w' ⟨rfl,n,os,rfl⟩
 obtain⟨Z,h1,h2,h3⟩:=part_srt (lt:=ltOf (cfS key)) (ltOf_cfS key) (A:=A) (X:=X) (B:=B) (d:=dk) (by rw[hd];simp) ht
 refine⟨rfl,_,Z,h.on R.hblk n _ os ?_,by rw[h1];simp,h2,h3⟩
 rw[←Array.length_toList,←Array.length_toList,h1,hd]
 simp only[ξk,h2.length_eq];omega
structure StbS (P:Program) (ins sym:FuncId) (sv fv:Value) (N:Nat) (S1 S2:Nat→World→Prop) (S3:Nat→Nat→World→Prop):Prop where
 i1:∀a w,S1 a w→a+20≤N→Calls P ins #[sv,.int .i64 a,.int .i64 ((a+20:Nat):Int),fv] w fun e w'=>e= .returned (.tuple #[])∧S1 (a+20) w'
 i2:∀a w,S1 a w→a≤N→N<a+20→Calls P ins #[sv,.int .i64 a,.int .i64 N,fv] w fun e w'=>e= .returned (.tuple #[])∧S2 20 w'
 m1:∀bs a w,S3 bs a w→0<bs→a+2*bs≤N→Calls P sym #[sv,.int .i64 a,.int .i64 ((a+bs:Nat):Int),.int .i64 ((a+2*bs:Nat):Int),fv] w fun e w'=>e= .returned (.tuple #[])∧S3 bs (a+2*bs) w'
 m2:∀bs a w,S3 bs a w→0<bs→a+bs<N→N<a+2*bs→Calls P sym #[sv,.int .i64 a,.int .i64 ((a+bs:Nat):Int),.int .i64 N,fv] w fun e w'=>e= .returned (.tuple #[])∧S2 (2*bs) w'
 n2:∀bs a w,S3 bs a w→N≤a+bs→S2 (2*bs) w
 p:∀bs w,S2 bs w→S3 bs 0 w
theorem stb_steps {α:Type} [Inhabited α] {key:α→Int} {enc:α × Nat→List Value} {w0:World} {blk off:Nat} {d0:Array (α × Nat)} {k:Nat} (hk3:k=3) (R:RowK enc k w0 blk off d0) (hsz:d0.size<1000000) (g:Nat) (cb:Array Value) (cap:Nat)
 (eg:∀args w,(callFunc g args).run Tryz.prog w= .ok (.enter g args) w) (hC:CmpLays Tryz.prog g cb enc k (cfS key) blk off d0.size w0) (ht:d0.toList.Pairwise fun x y=>x.2<y.2):
 StbS Tryz.prog 243 244 (.slice (some ⟨blk,off,none⟩) d0.size cap) (.func (.func g) #[] cb) d0.size (fun a w=>∃d,SWK enc k w0 blk off d w∧StI key d0.toList a d.toList) (fun bs w=>∃d,SWK enc k w0 blk off d w∧StB key d0.toList bs d.toList) (fun bs a w=>∃d,SWK enc k w0 blk off d w∧StP key d0.toList bs a d.toList):=by
 have hT:d0.toList.length=d0.size:=by simp
 have hsd:∀d:Array (α × Nat),d.toList.length=d0.toList.length→d.size=d0.size:=fun d h=>by simpa using h
 refine⟨fun a w hw h1=> ?_,fun a w hw h1 h2=> ?_,fun bs a w hw h0 h1=> ?_,fun bs a w hw h0 h1 h2=> ?_,fun bs a w hw h1=> ?_,fun bs w hw=> ?_⟩
 · obtain⟨d,x1,x2⟩:=hw
   obtain⟨A,X,B,e1,e2,e3,e4,e5⟩:=x2.part ht (by omega)
   have:=ξcu hk3 R hsz g cb cap eg hC w x1 e1 (hsd d x2.1) e5
   rw[e2,show a+X.length=a+20 by omega] at this
   refine this.mono ?_
   rintro e w' ⟨rfl,d',Z,y1,y2,y3,y4⟩
   exact⟨rfl,d',y1,x2.step e1 e2 e3 y2 y3 y4⟩
 · obtain⟨d,x1,x2⟩:=hw
   obtain⟨A,X,B,e1,e2,e3,e4,e5⟩:=x2.part ht (by omega)
   have:=ξcu hk3 R hsz g cb cap eg hC w x1 e1 (hsd d x2.1) e5
   rw[e2,show a+X.length=d0.size by omega] at this
   refine this.mono ?_
   rintro e w' ⟨rfl,d',Z,y1,y2,y3,y4⟩
   exact⟨rfl,d',y1,(x2.step e1 e2 e3 y2 y3 y4).end_ (by omega)⟩
 · obtain⟨d,x1,x2⟩:=hw
   obtain⟨A,X,Y,B,e1,e2,e3,e4,e5,e6,e7,e8⟩:=x2.pair ht (by omega)
   have:=ξcl hk3 R hsz g cb cap eg hC (X.length+Y.length+1) A X Y B d w (by omega) x1 e1 (hsd d x2.1) (by omega) (by omega) e6 e7 e8
   rw[e2,e3,show a+bs+Y.length=a+2*bs by omega] at this
   refine this.mono ?_
   rintro e w' ⟨rfl,d',Z,y1,y2,y3,y4⟩
   exact⟨rfl,d',y1,x2.step e1 e2 e3 e4 y2 y3 y4⟩
 · obtain⟨d,x1,x2⟩:=hw
   obtain⟨A,X,Y,B,e1,e2,e3,e4,e5,e6,e7,e8⟩:=x2.pair ht (by omega)
   have:=ξcl hk3 R hsz g cb cap eg hC (X.length+Y.length+1) A X Y B d w (by omega) x1 e1 (hsd d x2.1) (by omega) (by omega) e6 e7 e8
   rw[e2,e3,show a+bs+Y.length=d0.size by omega] at this
   refine this.mono ?_
   rintro e w' ⟨rfl,d',Z,y1,y2,y3,y4⟩
   exact⟨rfl,d',y1,(x2.step e1 e2 e3 e4 y2 y3 y4).full (by omega)⟩
 · obtain⟨d,x1,x2⟩:=hw
   exact⟨d,x1,x2.end_ (by omega)⟩
 · obtain⟨d,x1,x2⟩:=hw
   exact⟨d,x1,x2.pass⟩
def StbQ {α:Type} [Inhabited α] (key:α→Int) (enc:α × Nat→List Value) (k:Nat) (w0:World) (blk off:Nat) (d0:Array (α × Nat)) (e:Ending) (w':World):Prop:=
 e= .returned (.tuple #[])∧ ∃d':Array (α × Nat),SWK enc k w0 blk off d' w'∧srtS key d'.toList∧d'.toList.Perm d0.toList
theorem stable_any {α:Type} [Inhabited α] {key:α→Int} {enc:α × Nat→List Value} {w0:World} {blk off:Nat} {d0:Array (α × Nat)} {k:Nat} (hk3:k=3) (R:RowK enc k w0 blk off d0) (hsz:d0.size<1000000) (g:Nat) (cb:Array Value) (cap:Nat)
 (eg:∀args w,(callFunc g args).run Tryz.prog w= .ok (.enter g args) w) (hC:CmpLays Tryz.prog g cb enc k (cfS key) blk off d0.size w0) (ht:d0.toList.Pairwise fun x y=>x.2<y.2) (W:World) (h:SWK enc k w0 blk off d0 W):
 Calls Tryz.prog 222 #[.slice (some ⟨blk,off,none⟩) d0.size cap,.int .i64 d0.size,.func (.func g) #[] cb] W (StbQ key enc k w0 blk off d0):=by
 obtain⟨S1,S2,S3,hST,h0,hF⟩:∃(S1 S2:Nat→World→Prop) (S3:Nat→Nat→World→Prop),StbS Tryz.prog 243 244 (.slice (some ⟨blk,off,none⟩) d0.size cap) (.func (.func g) #[] cb) d0.size S1 S2 S3∧S1 0 W∧ ∀bs w',S2 bs w'→d0.size≤bs→StbQ key enc k w0 blk off d0 (.returned (.tuple #[])) w':=
  ⟨_,_,_,stb_steps hk3 R hsz g cb cap eg hC ht,⟨d0,h,StI.start _⟩,fun bs w' hw hb=>by
   obtain⟨d,x1,x2⟩:=hw
   obtain⟨y1,y2⟩:=x2.all (by simpa using hb)
   exact⟨rfl,d,x1,y1,y2⟩⟩
 have HS:=ξh hST
 have H0:=ξh h0
 have HF:=ξh hF
 obtain⟨N,hN⟩:∃N,N=d0.size:=⟨_,rfl⟩
 rw[←hN] at HS HF hsz ⊢
 obtain⟨NP,hNP⟩:∃NP,NP=StbQ key enc k w0 blk off d0:=⟨_,rfl⟩
 rw[←hNP] at HF ⊢
 clear hST h0 hF R hC ht h hN hNP
 have F:=Tryz.func222
 have mixed:Tryz.prog.follows .mixedOrders=true:=by kernel_rfl
 have F2:∀args w,(callFunc 243 args).run Tryz.prog w= .ok (.enter 243 args) w:=enters_of Tryz.func243 (by kernel_rfl) rfl
 have F3:∀args w,(callFunc 244 args).run Tryz.prog w= .ok (.enter 244 args) w:=enters_of Tryz.func244 (by kernel_rfl) rfl
 have t0:=Tryz.underlying3;have a0:=Tryz.isAgg3;have z0:=Tryz.sizeOf3;have v0:=Tryz.zeroValue3
 have t1:=Tryz.underlying4;have a1:=Tryz.isAgg4;have z1:=Tryz.sizeOf4;have v1:=Tryz.zeroValue4
 generalize Tryz.prog=P at *
 go_enter F,Tryz.ntmps222
 go_wp2
 go_loopw [7,8] (fun va vb wr=>∃a:Nat,a≤N∧va= .int .i64 a∧vb= .int .i64 ((a+20:Nat):Int)∧Hid (S1 a wr)) (fun va _ _=>N-(intOf va).toNat)
 case atStart=>exact⟨0,ξu _,rfl,rfl,H0⟩
 case round=>
  obtain⟨a,ha,rfl,rfl,HA⟩:=hrel
  obtain⟨b,hb⟩:∃b,b=a+20:=⟨_,rfl⟩
  rw[←hb]
  by_cases hle:b≤N
  · have hleI:(b:Int)≤(N:Int):=by omega
    have HC:=HS.i1 a wr HA.out (by omega)
    rw[←hb] at HC
    have HC:=ξh HC
    have hab:a<b:=by omega
    clear hb
    go_wp2_with (go_at_fn 243;refine HC.mono ?_;rintro e w' ⟨rfl,h9⟩;have H9:=ξh h9;clear h9)
    go_roundw
    case rel=>exact⟨b,hle,rfl,by go_num,H9⟩
    case measure=>simp[intOf];omega
  · have hleI:¬(b:Int)≤(N:Int):=by omega
    have HC:=ξh (HS.i2 a wr HA.out ha (by omega))
    clear hb
    go_wp2_with (go_at_fn 243;refine HC.mono ?_;rintro e w' ⟨rfl,h9⟩;have H9:=ξh h9;clear h9)
    clear hleI hle HC HA ha
    go_loopw [6,7,8,9] (fun vs _ _ _ wr=>∃bs:Nat,20≤bs∧bs<2000000∧vs= .int .i64 bs∧Hid (S2 bs wr)) (fun vs _ _ _ _=>N-(intOf vs).toNat)
    case atStart=>exact⟨20,ξr _,by omega,rfl,H9⟩
    case round=>
     obtain⟨bs,hb0,hb1,rfl,HB⟩:=hrel
     by_cases hlt:bs<N
     · have hltI:(bs:Int)<(N:Int):=by omega
       have HP:=ξh (HS.p bs _ HB.out)
       obtain⟨b2,hb2⟩:∃b2,b2=2*bs:=⟨_,rfl⟩
       have hbI:2*(bs:Int)=(b2:Int):=by omega
       have hbJ:(bs:Int)*2=(b2:Int):=by omega
       have hb3:b2<2000000:=by omega
       have HB2:=ξh hb2
       have hb4:bs<b2:=by omega
       clear hb2
       go_wp2
       obtain⟨wo,hwo⟩:∃wo,wo=wr:=⟨_,rfl⟩
       subst hwo
       go_loopw [7,8] (fun va vb wr=>∃a:Nat,a≤N∧va= .int .i64 a∧vb= .int .i64 ((a+b2:Nat):Int)∧Hid (S3 bs a wr)) (fun va _ _=>N-(intOf va).toNat)
       case atStart=>exact⟨0,ξu _,rfl,by go_num,HP⟩
       case round=>
        obtain⟨a,ha,rfl,rfl,HA⟩:=hrel
        obtain⟨b,hb⟩:∃b,b=a+b2:=⟨_,rfl⟩
        obtain⟨m,hm⟩:∃m,m=a+bs:=⟨_,rfl⟩
        rw[←hb]
        have hmI:(a:Int)+(bs:Int)=(m:Int):=by omega
        by_cases hle:b≤N
        · have hleI:(b:Int)≤(N:Int):=by omega
          have HC:=HS.m1 bs a _ HA.out (by omega) (by have:=HB2.out;omega)
          rw[←hm,←HB2.out,←hb] at HC
          have HC:=ξh HC
          have hab:a<b:=by omega
          clear hb hm
          go_wp2_with (go_at_fn 244;refine HC.mono ?_;rintro e w' ⟨rfl,h9⟩;have H9:=ξh h9;clear h9)
          go_roundw
          case rel=>exact⟨b,hle,rfl,by go_num,H9⟩
          case measure=>simp[intOf];omega
        · have hleI:¬(b:Int)≤(N:Int):=by omega
          by_cases hmn:m<N
          · have hmnI:(m:Int)<(N:Int):=by omega
            have HC:=HS.m2 bs a _ HA.out (by omega) (by omega) (by have:=HB2.out;omega)
            rw[←hm,←HB2.out] at HC
            have HC:=ξh HC
            clear hb hm
            go_wp2_with (go_at_fn 244;refine HC.mono ?_;rintro e w' ⟨rfl,h9⟩;have H9:=ξh h9;clear h9)
            go_roundw
            case rel=>exact⟨b2,by omega,hb3,by go_num,H9⟩
            case measure=>simp[intOf];omega
          · have hmnI:¬(m:Int)<(N:Int):=by omega
            have HC:=HS.n2 bs a _ HA.out (by omega)
            rw[←HB2.out] at HC
            have HC:=ξh HC
            clear hb hm
            go_wp2
            go_roundw
            case rel=>exact⟨b2,by omega,hb3,by go_num,HC⟩
            case measure=>simp[intOf];omega
     · have hltI:¬(bs:Int)<(N:Int):=by omega
       go_wp2
       first | exact HF.out bs _ HB.out (by omega) | (go_end0;exact HF.out bs _ HB.out (by omega))
structure Chc where
 st:Int
 a:Option Addr
 c:Nat
 fb:List Int
 ct:Nat
 hf:fb.length≤1000
 hc:ct≤24
instance:Inhabited Chc:=⟨⟨0,none,0,[],0,by simp,by simp⟩⟩
def encC (x:Chc):List Value:=[.int .i64 x.st,.slice x.a x.fb.length x.c,.int .i64 x.ct]
def costC (x:Chc):Int:=(x.ct:Int)*(x.fb.length:Int)
theorem costC_bd (x:Chc):0≤costC x∧costC x≤24000:=by
 unfold costC
 have h1:=x.hf
 have h2:=x.hc
 have:x.ct*x.fb.length≤24*1000:=Nat.mul_le_mul h2 h1
 have e:((x.ct:Int)*(x.fb.length:Int))=((x.ct*x.fb.length:Nat):Int):=by push_cast;rfl
 rw[e];omega
theorem cost_any (st:Int) (a:Option Addr) (m c ct:Nat) (r:Int) (w:World) (hr:(ct:Int)*(m:Int)=r) (h0:0≤r∧r≤24000) (hm:m≤1000) (hct:ct≤24):
 Calls Tryz.prog 194 #[.agg #[.int .i64 st,.slice a m c,.int .i64 ct]] w fun e w'=>e= .returned (.int .i64 r)∧Gr w w':=by
 obtain⟨hb,bc,bl,-⟩:=ξD w #[.int .i64 st,.slice a m c,.int .i64 ct] 189
 have q1:=bc 1 _ rfl
 have q2:=bc 2 _ rfl
 have HG:=ξh ((Gr.refl w).alloc (.cells #[.int .i64 st,.slice a m c,.int .i64 ct] 189))
 have hw:wrap64 r=r:=ξw _ (by omega)
 have hw2:IntKind.i64.wrap r=r:=ξi _ (by omega)
 clear hb bc bl
 go_enter Tryz.func194,Tryz.ntmps194
 go_wp2
 go_ret
 exact⟨by first | rfl | (rw[hr,hw]),HG.out⟩
theorem byCostCmp_any (st1 st2:Int) (a1 a2:Option Addr) (m1 c1 ct1 m2 c2 ct2:Nat) (r1 r2:Int) (w:World) (hr1:(ct1:Int)*(m1:Int)=r1) (hr2:(ct2:Int)*(m2:Int)=r2) (h01:0≤r1∧r1≤24000) (h02:0≤r2∧r2≤24000) (hm1:m1≤1000) (hm2:m2≤1000) (hct1:ct1≤24) (hct2:ct2≤24):
 Calls Tryz.prog 193 #[.agg #[.int .i64 st1,.slice a1 m1 c1,.int .i64 ct1],.agg #[.int .i64 st2,.slice a2 m2 c2,.int .i64 ct2]] w fun e w'=>e= .returned (.int .i64 (cmpI r1 r2))∧Gr w w':=by
 have HA:=ξh (fun w'=>cost_any st1 a1 m1 c1 ct1 r1 w' hr1 h01 hm1 hct1)
 have HB:=ξh (fun w'=>cost_any st2 a2 m2 c2 ct2 r2 w' hr2 h02 hm2 hct2)
 have HC:=ξh (fun w'=>ξak r1 r2 w')
 clear hr1 hr2 h01 h02 hm1 hm2 hct1 hct2
 generalize cmpI r1 r2=R at *
 have hG:=((Gr.refl w).alloc (.cells #[.int .i64 st1,.slice a1 m1 c1,.int .i64 ct1] 189)).alloc (.cells #[.int .i64 st2,.slice a2 m2 c2,.int .i64 ct2] 189)
 have k0:=ξn w (.cells #[.int .i64 st1,.slice a1 m1 c1,.int .i64 ct1] 189)
 have k0':=(heap_alloc_old _ (.cells #[.int .i64 st2,.slice a2 m2 c2,.int .i64 ct2] 189) (ξa k0).1).trans k0
 have k1:=ξn (w.alloc (.cells #[.int .i64 st1,.slice a1 m1 c1,.int .i64 ct1] 189)) (.cells #[.int .i64 st2,.slice a2 m2 c2,.int .i64 ct2] 189)
 rw[show(w.alloc (.cells #[.int .i64 st1,.slice a1 m1 c1,.int .i64 ct1] 189)).heap.size=w.heap.size+1 by simp] at k1
 have q0:=blkc k0' (j:=0) (show _=some (.int .i64 st1) from rfl)
 have q1:=blkc k0' (j:=1) (show _=some (.slice a1 m1 c1) from rfl)
 have q2:=blkc k0' (j:=2) (show _=some (.int .i64 ct1) from rfl)
 have q3:=blkc k1 (j:=0) (show _=some (.int .i64 st2) from rfl)
 have q4:=blkc k1 (j:=1) (show _=some (.slice a2 m2 c2) from rfl)
 have q5:=blkc k1 (j:=2) (show _=some (.int .i64 ct2) from rfl)
 have hz:w.heap.size+1+1=((w.alloc (.cells #[.int .i64 st1,.slice a1 m1 c1,.int .i64 ct1] 189)).alloc (.cells #[.int .i64 st2,.slice a2 m2 c2,.int .i64 ct2] 189)).heap.size:=by simp
 have HG:=ξh hG
 clear k0 k0' k1 hG
 go_enter Tryz.func193,Tryz.ntmps193
 go_wp2_with fail
 generalize (w.alloc (.cells #[.int .i64 st1,.slice a1 m1 c1,.int .i64 ct1] 189)).alloc (.cells #[.int .i64 st2,.slice a2 m2 c2,.int .i64 ct2] 189)=w2 at *
 have hl0:w.heap.size<w2.heap.size:=by omega
 have hl1:w.heap.size+1<w2.heap.size:=by omega
 have g0:=fun n os=>cell_grown hl0 q0 n os
 have g1:=fun n os=>cell_grown hl0 q1 n os
 have g2:=fun n os=>cell_grown hl0 q2 n os
 have g3:=fun n os=>cell_grown hl1 q3 n os
 have g4:=fun n os=>cell_grown hl1 q4 n os
 have g5:=fun n os=>cell_grown hl1 q5 n os
 clear q0 q1 q2 q3 q4 q5 hz hl0 hl1
 have mixed:Tryz.prog.follows .mixedOrders=true:=by kernel_rfl
 go_quiet_grown (first
  | (go_at_call 194;first | (with_reducible exact Calls.grown_of (HA.out _)) | (with_reducible exact Calls.grown_of (HB.out _)))
  | (go_at_call 174;refine(HC.out _).mono ?_;rintro e w' ⟨rfl,rfl⟩;exact⟨rfl,⟨⟨_,_⟩,rfl⟩⟩))
 have HG2:=ξh (HG.trans (show Gr w2 (grow (w2.drewN nq) osq) from⟨nq,osq,rfl⟩))
 go_wp2
 go_ret
 exact⟨rfl,HG2.out⟩
def encT (x:Chc × Nat):List Value:=encC x.1
theorem encT_len (x:Chc × Nat):(encT x).length=3:=rfl
theorem encT_one (x:Chc × Nat):∀v∈encT x,v.oneCell'=true:=fun v hv=>by
 simp[encT,encC] at hv
 rcases hv with rfl | rfl | rfl <;> rfl
theorem byCost_lays (blk off size:Nat) (w:World):CmpLays Tryz.prog 193 #[] encT 3 (cfS costC) blk off size w:=fun m os dk _ x y=>
 byCostCmp_any x.1.st y.1.st x.1.a y.1.a x.1.fb.length x.1.c x.1.ct y.1.fb.length y.1.c y.1.ct (costC x.1) (costC y.1) _ rfl rfl (costC_bd _) (costC_bd _) x.1.hf y.1.hf x.1.hc y.1.hc
def BycQ (L:List Chc) (w:World) (base:Nat) (v:Value) (w':World):Prop:=∃S:List (Chc × Nat),srtS costC S∧S.Perm (tagS L)∧w'.ownsRow base 189 3 v L.length (S.flatMap encT)∧w.grownBy w' v.ownBlock
theorem sortStable_any (L:List Chc) (base g cap:Nat) (w:World) (h:w.ownsRow base 189 3 (.slice (some ⟨g,0,none⟩) L.length cap) L.length (L.flatMap encC)) (hl:L.length<1000000):
 Calls Tryz.prog 192 #[.slice (some ⟨g,0,none⟩) L.length cap,.func (.func 193) #[] #[]] w fun e w'=>e= .returned (.tuple #[])∧BycQ L w base (.slice (some ⟨g,0,none⟩) L.length cap) w':=by
 have hz:(tagS L).length=L.length:=by unfold tagS;simp
 have hT:(tagS L).flatMap encT=L.flatMap encC:=by
  conv=>rhs;rw[←tagS_fst L]
  rw[List.flatMap_map];rfl
 have h':w.ownsRow base 189 3 (.slice (some ⟨g,0,none⟩) L.length cap) L.length ((tagS L).toArray.toList.flatMap encT):=by
  show w.ownsRow base 189 3 _ _ ((tagS L).flatMap encT)
  rw[hT];exact h
 obtain⟨hn,hH,hlt,-⟩:=ξc3 encT_len (by omega) h'
 have hn2:L.length=(tagS L).toArray.size:=hn.symm
 have HST:=ξh (show Calls Tryz.prog 222 #[.slice (some ⟨g,0,none⟩) L.length cap,.int .i64 L.length,.func (.func 193) #[] #[]] w (fun e w'=>e= .returned (.tuple #[])∧BycQ L w base (.slice (some ⟨g,0,none⟩) L.length cap) w') from by
  have:=stable_any (key:=costC) (enc:=encT) (w0:=w) (blk:=g) (off:=0) (d0:=(tagS L).toArray) (k:=3) rfl ⟨encT_len,encT_one,hH,hlt⟩ (by omega) 193 #[] cap (enters_of Tryz.func193 (by kernel_rfl) rfl) (byCost_lays _ _ _ _) (tag_rise L) w (SWK.start hH)
  rw[←hn2] at this
  refine this.mono ?_
  rintro e w' ⟨rfl,d',⟨n,os,rfl⟩,x1,x2⟩
  have hs:d'.size=(tagS L).toArray.size:=by have:=x2.length_eq;simpa using this
  obtain⟨y1,y2⟩:=row_sortK encT_len (by omega) h' d' hs n os
  exact⟨rfl,d'.toList,x1,x2,y1,y2⟩)
 generalize BycQ L w base (.slice (some ⟨g,0,none⟩) L.length cap)=Q at *
 clear h h' hn hn2 hH hlt hT hz
 generalize hm:L.length=m at *
 clear hm
 go_enter Tryz.func192,Tryz.ntmps192
 go_wp2_with (go_at_call 222;refine HST.mono ?_;rintro e w' ⟨rfl,h9⟩;have H9:=ξh h9;clear h9)
 go_end0
 exact⟨rfl,H9.out⟩
theorem byCost_any (L:List Chc) (base g cap:Nat) (w:World) (h:w.ownsRow base 189 3 (.slice (some ⟨g,0,none⟩) L.length cap) L.length (L.flatMap encC)) (hl:L.length<1000000):
 Calls Tryz.prog 157 #[.slice (some ⟨g,0,none⟩) L.length cap] w fun e w'=>e= .returned (.slice (some ⟨g,0,none⟩) L.length cap)∧BycQ L w base (.slice (some ⟨g,0,none⟩) L.length cap) w':=by
 have HST:=ξh (sortStable_any L base g cap w h hl)
 generalize BycQ L w base (.slice (some ⟨g,0,none⟩) L.length cap)=Q at *
 clear h
 generalize hm:L.length=m at *
 clear hm
 go_enter Tryz.func157,Tryz.ntmps157
 go_wp2_with (go_at_call 192;refine HST.mono ?_;rintro e w' ⟨rfl,h9⟩;have H9:=ξh h9;clear h9)
 go_ret
 exact⟨rfl,H9.out⟩
open Go.RowKit Go.Sort
def ChoR (w:World) (base g cap:Nat) (st:Int) (L:List Chc):Prop:=w.ownsRow base 189 3 (.slice (some ⟨g,0,none⟩) L.length cap) L.length (L.flatMap encC)∧ ∀x∈L,x.st=st∧Rd w (.slice x.a x.fb.length x.c) x.fb∧ ∀q,(Value.slice x.a x.fb.length x.c).ownBlock=some q→q≠g
def usC (x:Chc):List Int × Int:=(x.fb,(x.ct:Int))
def UsaP (n:Net) (fs:List Fmt) (d:Dem) (w:World) (e:Ending) (w':World):Prop:=Below w.heap.size w w'∧((failU n d=true∧e= .returned (.tuple #[.slice none 0 0,.bool false]))∨
 (failU n d=false∧ ∃g cap L,e= .returned (.tuple #[.slice (some ⟨g,0,none⟩) L.length cap,.bool true])∧ChoR w' w.heap.size g cap d.a L∧L.map usC=usaR n fs d))
def usaK (n:Net) (fs:List Fmt) (d:Dem) (rs:List (List Int)) (k:Nat):List (List Int × Int):=(rs.take k).filterMap fun fb=>if 0<slI fs (lenR n fb) d.r then some (fb,slI fs (lenR n fb) d.r) else none
theorem usaK_step {n:Net} {fs:List Fmt} {d:Dem} {rs:List (List Int)} {k:Nat} (hk:k<rs.length):usaK n fs d rs (k+1)=usaK n fs d rs k++(if 0<slI fs (lenR n (rs[k]?.getD [])) d.r then[(rs[k]?.getD [],slI fs (lenR n (rs[k]?.getD [])) d.r)] else[]):=by
 unfold usaK
 rw[List.take_add_one,List.filterMap_append,ξg hk]
 simp only[Option.toList_some,Option.getD_some]
 congr 1
 by_cases h:0<slI fs (lenR n rs[k]) d.r
 · rw[if_pos h];simp[h]
 · rw[if_neg h];simp[h]
theorem usaK_all (n:Net) (fs:List Fmt) (d:Dem):usaK n fs d (allR n d.a d.b) (allR n d.a d.b).length=usaR n fs d:=by
 unfold usaK usaR
 rw[List.take_length]
theorem Tryz.infoCho:(Tryz.prog.info? 189).map (fun i=>(i.zero,i.size,i.bytes))=some (some (.agg #[.int .i64 0,.slice none 0 0,.int .i64 0]),3,40):=by kernel_rfl
theorem ChoR.below {w w':World} {base g cap:Nat} {st:Int} {L:List Chc} (h:ChoR w base g cap st L) (hb:Below w.heap.size w w'):ChoR w' base g cap st L:=
 ⟨ξN h.1 hb,fun x hx=>⟨(h.2 x hx).1,(h.2 x hx).2.1.belowAll hb,(h.2 x hx).2.2⟩⟩
theorem rcs_at {st:Int} {ps:List (List Int × Value)} {k:Nat} (hk:k<ps.length):(rcs st ps)[k*2]?= some (.int .i64 st)∧(rcs st ps)[k*2+1]?= some (ps[k]?.getD ([],.slice none 0 0)).2:=by
 have key:=fun r (h:r<2)=>flatv_at (F:=fun p:List Int × Value=>[Value.int .i64 st,p.2]) (k:=2) (fun _=>rfl) ps k r h
 have h0:=key 0 (by omega)
 have h1:=key 1 (by omega)
 unfold rcs
 rw[Nat.add_zero] at h0
 rw[h0,h1,ξg hk]
 exact⟨rfl,rfl⟩
theorem ChoR.push {w w3:World} {base g cap:Nat} {st:Int} {L:List Chc} {v':Value} (h:ChoR w base g cap st L) (x:Chc) (hst:x.st=st) (hx:Rd w (.slice x.a x.fb.length x.c) x.fb) (hxg:∀q,(Value.slice x.a x.fb.length x.c).ownBlock=some q→q≠g) (W2:World) (hb:Below w.heap.size w W2)
 (hr:w3.ownsRow base 189 3 v' (L.length+1) (L.flatMap encC++encC x)) (hg:W2.grownBy w3 (some g)) (hl:v'.ownBlock=some g∨v'.ownBlock=some W2.heap.size):
 ∃g' cap',v'= .slice (some ⟨g',0,none⟩) (L++[x]).length cap'∧ChoR w3 base g' cap' st (L++[x]):=by
 have hlen:(L++[x]).length=L.length+1:=by simp
 rcases hr.2 with ⟨rfl,e0⟩ | ⟨g',cap',cur,rfl,q1,q2,q3,q4,q5,q6⟩
 · omega
 · refine⟨g',cap',by rw[hlen],?_,fun y hy=> ?_⟩
   · rw[hlen,List.flatMap_append]
     have:[x].flatMap encC=encC x:=by simp
     rw[this];exact hr
   · have key:∀y:Chc,Rd w (.slice y.a y.fb.length y.c) y.fb→(∀q,(Value.slice y.a y.fb.length y.c).ownBlock=some q→q≠g)→Rd w3 (.slice y.a y.fb.length y.c) y.fb∧ ∀q,(Value.slice y.a y.fb.length y.c).ownBlock=some q→q≠g':=fun y h1 h2=>by
      refine⟨?_,fun q hq e=> ?_⟩
      · have h1':=h1.belowAll hb
        rcases h1' with h | ⟨b,off,c',hv,k1,k2,k3,k4⟩
        · exact .inl h
        · exact .inr ⟨b,off,c',hv,k1,k2,ξq k3 hg.size,fun j hj=>by rw[World.cell?_of_block (hg.block b k3 (fun e=>h2 b (by rw[hv];rfl) (ξo e)))];exact k4 j hj⟩
      · subst e
        rcases hl with hl | hl
        · have:q=g:=by simpa[Value.ownBlock] using hl
          exact h2 q hq this
        · have h3:=h1.lt q hq
          have:q=W2.heap.size:=by simpa[Value.ownBlock] using hl
          have:=hb.size
          omega
     rcases List.mem_append.1 hy with hy | hy
     · obtain⟨k1,k2,k3⟩:=h.2 y hy
       exact⟨k1,(key y k2 k3).1,(key y k2 k3).2⟩
     · rw[List.mem_singleton.1 hy]
       exact⟨hst,(key x hx hxg).1,(key x hx hxg).2⟩
theorem demRd (w:World) (d:Dem):Rdt (w.alloc (.cells #[.int .i64 d.a,.int .i64 d.b,.int .i64 d.r,.int .i64 d.c] 53)) (flt 4 demE [d]) (.slice (some ⟨w.heap.size,0,none⟩) 1 1):=by
 have h:(w.alloc (.cells #[.int .i64 d.a,.int .i64 d.b,.int .i64 d.r,.int .i64 d.c] 53)).ownsRow w.heap.size 53 4 (.slice (some ⟨w.heap.size,0,none⟩) 1 1) 1 ([d].flatMap demE):=
  World.ownsRow_lit (base:=w.heap.size) (e:=53) (size:=4) w #[.int .i64 d.a,.int .i64 d.b,.int .i64 d.r,.int .i64 d.c] 1 (ξr _) (by unfold maxLen;omega) rfl
 exact(ξaO (zs:=[d]) h).choose_spec.1.rd
theorem rts_cells {w:World} {base m c:Nat} {a:Option Addr} {st:Int} {ps:List (List Int × Value)} (h:w.ownsRow base 82 2 (.slice a m c) ps.length (rcs st ps)) (hm:m=ps.length) {k:Nat} (hk:k<m):
 ∃gr,a=some ⟨gr,0,none⟩∧gr<w.heap.size∧w.cell? ⟨gr,k*2,none⟩=some (.int .i64 st)∧w.cell? ⟨gr,k*2+1,none⟩=some (ps[k]?.getD ([],.slice none 0 0)).2:=by
 obtain⟨h0,h1⟩:=rcs_at (st:=st) (ps:=ps) (k:=k) (by omega)
 rcases h.2 with ⟨e,e0⟩ | ⟨g,cap,cur,e,q1,q2,q3,q4,q5,q6⟩
 · omega
 · simp only[Value.slice.injEq] at e
   obtain⟨rfl,-,-⟩:=e
   have ht:(cur.toList.drop 0).take (ps.length*2)=rcs st ps:=by rw[List.drop_zero];exact q6
   have c0:=ξaj q2 ht h0 h.1
   have c1:=ξaj q2 ht h1 h.1
   rw[Nat.zero_add] at c0 c1
   exact⟨g,rfl,(ξa q2).1,c0,c1⟩
theorem usable_any (v vf:Value) (n:Net) (fs:List Fmt) (d:Dem) (w:World) (h:NetR w v n) (hf:Rdt w (flt 2 fmE fs) vf) (hn:ξL n=true) (hfo:fmOk fs=true) (hd:demOk d n.ns.length=true):
 Calls Tryz.prog 156 #[v,vf,demV d] w (UsaP n fs d w):=by
 obtain⟨NP,hNP⟩:∃NP,NP=UsaP n fs d w:=⟨_,rfl⟩
 rw[←hNP]
 have hdm:=hd
 unfold demOk at hdm
 simp only[Bool.and_eq_true,bne_iff_ne,ne_eq] at hdm
 obtain⟨⟨⟨⟨hda,hdb⟩,hdn⟩,hdr⟩,hdc⟩:=hdm
 have hrr:=ξO hdr
 have HVF:=ξh (fun w' (hb:Below w.heap.size w w')=>ξb1 vf fs w' (hf.behind hb))
 rw[hfo] at HVF
 have HVD:=ξh (fun u w' (hb:Below w.heap.size w w') hg=>ξcH v u n d w' (h.behind hb) hn hd hg)
 have HAR:=ξh (fun w' (hb:Below w.heap.size w w')=>allRoutes_any v n d.a d.b w' (h.behind hb) hn hda hdb hdn)
 have HSF:=ξh (fun len w' (hb:Below w.heap.size w w') (hl:0≤len)=>slotsFor_any vf fs len d.r w' (hf.behind hb) hfo hl hrr.1 hrr.2)
 have HFU:=ξh (show failU n d=decide (200<(allR n d.a d.b).length) from rfl)
 have HIN:=ξh (fun r (hr:r∈allR n d.a d.b)=>show ξa7 n r∧r.length≤9 from⟨extR_inn (allR_mem hr),by
  have h9:=extR_len9 _ _ _ _ r (allR_mem hr)
  have:=ξaE hn
  rw[List.length_nil] at h9;omega⟩)
 have HLN:=ξh (lenOk_of hn)
 obtain⟨af,mf,cf,rfl,-,-,-,-⟩:=ξC (m:=2) (enc:=fmE) (fun _=>rfl) (by omega) ξJ hf
 obtain⟨u1,u2,rfl,r1,r2,hsm⟩:=h
 have HLE:=ξh (fun u (fb:List Int) w' (hb:Below w.heap.size w w') (hr:Rd w' u fb) hl hi=>ξbA u1 u2 u n d.a fb w' (r2.behind hb) (Rdt.slice (show Rdt w (.rows _ _) u1 from r1)) hr hl hi HLN.out)
 obtain⟨a1,m1,c1,rfl⟩:=Rdt.slice (show Rdt w (.rows _ _) u1 from r1)
 obtain⟨a2,m2,c2,rfl⟩:=Rdt.slice (show Rdt w (.rows _ _) u2 from r2)
 have HDR:=ξh (fun w'=>demRd w' d)
 have HAL:=ξh (usaK_all n fs d)
 have HST:=ξh (fun rs k hk=>usaK_step (n:=n) (fs:=fs) (d:=d) (rs:=rs) (k:=k) hk)
 have HSL:=ξh (fun len=>slI_le fs len d.r)
 obtain⟨da,db,dr,dc⟩:=d
 have b1:=(ξb w.heap.size w).alloc (ξr _) (.cells #[.slice a1 m1 c1,.slice a2 m2 c2] 35)
 have b2:=b1.alloc b1.size (.cells #[.int .i64 da,.int .i64 db,.int .i64 dr,.int .i64 dc] 53)
 have k0:=ξn w (.cells #[.slice a1 m1 c1,.slice a2 m2 c2] 35)
 have k1:=ξn (w.alloc (.cells #[.slice a1 m1 c1,.slice a2 m2 c2] 35)) (.cells #[.int .i64 da,.int .i64 db,.int .i64 dr,.int .i64 dc] 53)
 have k0':=(heap_alloc_old _ (.cells #[.int .i64 da,.int .i64 db,.int .i64 dr,.int .i64 dc] 53) (ξa k0).1).trans k0
 rw[show(w.alloc (.cells #[.slice a1 m1 c1,.slice a2 m2 c2] 35)).heap.size=w.heap.size+1 by simp] at k1
 have HB2:=ξh b2
 have K0:=ξh k0'
 have K1:=ξh k1
 have HNP:=ξh hNP
 clear r1 r2 hsm hf hn hfo hd hda hdb hdn hdr hdc b1 b2 k0 k0' k1 hNP
 dsimp only at *
 unfold demV
 go_enter Tryz.func156,Tryz.ntmps156
 go_wp2_with fail
 generalize (w.alloc (.cells #[.slice a1 m1 c1,.slice a2 m2 c2] 35)).alloc (.cells #[.int .i64 da,.int .i64 db,.int .i64 dr,.int .i64 dc] 53)=w2 at *
 have HQ:=ξh (fun(w':World) (hb:Below w2.heap.size w2 w')=>show w'.cell? ⟨w.heap.size,0,none⟩=some (.slice a1 m1 c1)∧w'.cell? ⟨w.heap.size,1,none⟩=some (.slice a2 m2 c2)∧w'.cell? ⟨w.heap.size+1,0,none⟩=some (.int .i64 da)∧w'.cell? ⟨w.heap.size+1,1,none⟩=some (.int .i64 db)∧w'.cell? ⟨w.heap.size+1,2,none⟩=some (.int .i64 dr)∧w'.cell? ⟨w.heap.size+1,3,none⟩=some (.int .i64 dc) from
  have h0:=ξA K0.out hb
  have h1:=ξA K1.out hb
  ⟨blkc h0 rfl,blkc h0 rfl,blkc h1 rfl,blkc h1 rfl,blkc h1 rfl,blkc h1 rfl⟩)
 refine(HVF.out _ HB2.out).mono ?_
 rintro e w3 ⟨rfl,b3⟩
 have hz2:=HB2.size
 obtain⟨x0,x1,y0,y1,y2,y3⟩:=HQ.out _ b3
 have HB3:=ξh (HB2.trans (b3.mono hz2))
 have HB3':=ξh b3
 clear b3
 go_wp2_with fail
 refine(HVD.out _ _ (HB3.alloc HB3.size _) (HDR.out w3)).mono ?_
 rintro e w4 ⟨rfl,b4⟩
 have HB4':=ξh (HB3'.trans (((ξb w3.heap.size w3).alloc (ξr _) (.cells #[.int .i64 da,.int .i64 db,.int .i64 dr,.int .i64 dc] 53)).trans (b4.mono (by simp)) |>.mono HB3'.size))
 have HB4:=ξh (HB2.trans (HB4'.mono hz2))
 clear b4 x0 x1 y0 y1 y2 y3
 obtain⟨x0,x1,y0,y1,y2,y3⟩:=HQ.out _ HB4'.out
 go_wp2_with fail
 refine(HAR.out _ HB4.out).mono ?_
 rintro e w5 ⟨b5,hc⟩
 have HB5':=ξh (HB4'.trans (b5.mono HB4'.size))
 have HB5:=ξh (HB4.trans (b5.mono HB4.size))
 clear b5 x0 x1 y0 y1 y2 y3
 rcases hc with ⟨h2,rfl⟩ | ⟨h2,va,ps,rfl,hrow,hrd,hps⟩
 · have HFT:=ξh (HFU.trans (ξt h2))
   clear h2
   go_wp2
   rw[HNP.out]
   exact⟨HB5.out,.inl ⟨HFT.out,rfl⟩⟩
 have HFT:=ξh (HFU.trans (ξf (by omega)))
 obtain⟨a4,c4,rfl⟩:=rowf hrow
 have hpl:ps.length=(allR n da db).length:=by rw[←hps,List.length_map]
 obtain⟨m,hm⟩:∃m,m=ps.length:=⟨_,rfl⟩
 have hm2:m≤200:=by omega
 have HRC:=ξh (fun k (hk:k<m)=>rts_cells hrow rfl (by omega:k<ps.length))
 have HEL:=ξh (fun k (hk:k<m)=>show Rd w5 (ps[k]?.getD ([],.slice none 0 0)).2 ((allR n da db)[k]?.getD [])∧((allR n da db)[k]?.getD [])∈allR n da db from by
  have h1:k<ps.length:=by omega
  have h2:k<(allR n da db).length:=by omega
  rw[ξg h1,ξg h2,Option.getD_some,Option.getD_some]
  refine⟨?_,ξj h2⟩
  have h3:(ps.map Prod.fst)[k]?= (allR n da db)[k]?:=by rw[hps]
  rw[List.getElem?_map,ξg h1,ξg h2] at h3
  have h4:ps[k].1=(allR n da db)[k]:=by simpa using h3
  rw[←h4];exact hrd _ (ξj h1))
 have HRL:=ξh (show(allR n da db).length=m by omega)
 rw[←hm]
 clear hrow hrd hps hpl h2 hm
 generalize allR n da db=rs at *
 rw[HRL.out] at HAL
 have HST2:=ξh (fun k (hk:k<m)=>HST.out rs k (by rw[HRL.out];exact hk))
 go_upto_region 7 with fail
 have hz5:=HB5.size
 have HL0:=ξh (show ChoR (w5.alloc (.cells #[] 189)) w5.heap.size w5.heap.size 0 da []∧([]:List Chc).map usC=usaK n fs ⟨da,db,dr,dc⟩ rs 0 from⟨⟨World.ownsRow_made w5 #[] 0 (ξr _) (ξu _) (by simp),fun x hx=>by cases hx⟩,rfl⟩)
 have HB0:=ξh (show Below w5.heap.size w5 (w5.alloc (.cells #[] 189)) from(ξb _ _).alloc (ξr _) _)
 go_wp2
 go_loopw [10,12,13,14,39] (fun so _ _ _ si wr=>∃(k g cap:Nat) (L:List Chc),k≤m∧L.length≤k∧si= .int .i64 k∧so= .slice (some ⟨g,0,none⟩) L.length cap∧Hid (ChoR wr w5.heap.size g cap da L∧L.map usC=usaK n fs ⟨da,db,dr,dc⟩ rs k)∧Hid (Below w5.heap.size w5 wr)) (fun _ _ _ _ si _=>m-(intOf si).toNat)
 case atStart=>exact⟨0,w5.heap.size,0,[],ξu _,ξr _,rfl,rfl,HL0,HB0⟩
 case round=>
  obtain⟨k,g,cap,L,hk,hLk,rfl,rfl,HC,HB⟩:=hrel
  by_cases hlt:k<m
  · have hltI:(k:Int)<(m:Int):=by omega
    obtain⟨gr,rfl,hgl,hc0,hc1⟩:=HRC.out k hlt
    obtain⟨hrd,hmem⟩:=HEL.out k hlt
    have HSK:=ξh (HST2.out k hlt)
    obtain⟨hin,hl9⟩:=HIN.out _ hmem
    generalize (ps[k]?.getD ([],.slice none 0 0)).2=vk at *
    generalize rs[k]?.getD []=fb at *
    obtain⟨ak,ck,nk,HNK,rfl,-,hnk,-⟩:=hrd.opn
    have e0:=(HB.cell (p:=⟨gr,k*2,none⟩) hgl).trans hc0
    have e1:=(HB.cell (p:=⟨gr,k*2+1,none⟩) hgl).trans hc1
    have HBR:=ξh (HB5'.trans (HB.mono HB5'.size))
    have HBW:=ξh (HB5.trans (HB.mono hz5))
    obtain⟨by',bd,bmt,-⟩:=ξD wr #[.int .i64 da,.slice ak nk ck] 82
    have z0:=bd 0 _ rfl
    have z1:=bd 1 _ rfl
    have HBY:=ξh (HBR.trans (by'.mono HBR.size))
    have HBZ:=ξh (HBW.trans (by'.mono HBW.size))
    have HBD:=ξh by'
    have HRK:=ξh ((hrd.belowAll HB.out).belowAll by')
    have HL2:=ξh (fun w' (hb:Below w.heap.size w w') (hr:Rd w' (.slice ak nk ck) fb)=>HLE.out (.slice ak nk ck) fb w' hb hr (by omega) hin)
    have HS2:=ξh (fun w' (hb:Below w.heap.size w w')=>HSF.out (lenR n fb) w' hb (lenR_bd HLN.out fb).1)
    have hsl:=HSL.out (lenR n fb)
    have HRD0:=ξh hrd
    have HNB:=ξh (show nk≤1000 by rw[←HNK.out];omega)
    have HGE:=ξh (show∀q,(Value.slice ak nk ck).ownBlock=some q→q≠g from fun q hq e=>by
     have h1:=hrd.lt q hq
     have h2:=(HC.1.1.lt g rfl).1
     omega)
    clear hc0 hc1 hgl hrd hmem hin hl9 bd by' bmt
    generalize slI fs (lenR n fb) dr=sl at *
    generalize lenR n fb=ln at *
    go_upto_region 10 with fail
    generalize wr.alloc (.cells #[.int .i64 da,.slice ak nk ck] 82)=w6 at *
    obtain⟨x0,x1,y0,y1,y2,y3⟩:=HQ.out _ HBY.out
    have j0:=rg x0
    have j1:=rg x1
    have j2:=rg y2
    have k0:=rg z0
    have k1:=rg z1
    have HL3:=ξh (fun d os=>HL2.out (grow (redrawn w6 d) os) (HBZ.trans ((ξc w6 d os).mono HBZ.size)) (HRK.belowAll (ξc w6 d os)))
    have HS3:=ξh (fun d os=>HS2.out (grow (redrawn w6 d) os) (HBZ.trans ((ξc w6 d os).mono HBZ.size)))
    clear x0 x1 y0 y1 y2 y3 e0 e1
    refine ξv ?_
    repeat (go_big_quiet_step (first | (go_at_call 191;exact Calls.regrown_of ((HL3.out _ _).mono fun _ _ ⟨he,hg⟩=>⟨he,hg.below⟩)) | (go_at_call 190;exact Calls.regrown_of (HS3.out _ _))))
    refine wpQuiet_nil ?_
    rintro _ ⟨⟨dq,osq⟩,rfl⟩
    have k0':=k0 dq osq
    have k1':=k1 dq osq
    have HB7:=ξh (HBD.trans ((ξc w6 dq osq).mono HBD.size))
    clear j0 j1 j2 k0 k1 HL3 HS3 HL2 HS2
    dsimp only
    generalize grow (redrawn w6 dq) osq=w7 at *
    have hb7:wr.heap.size≤w7.heap.size:=HB7.size
    by_cases hpos:0<sl
    · obtain⟨ct,hcs⟩:=Int.eq_ofNat_of_zero_le (Int.le_of_lt hpos)
      have hpd:decide (0<sl)=true:=ξt hpos
      have HE1:=ξh (show usaK n fs ⟨da,db,dr,dc⟩ rs (k+1)=usaK n fs ⟨da,db,dr,dc⟩ rs k++[(fb,sl)] from HSK.trans (by rw[if_pos hpos]))
      have hct:ct≤24:=by omega
      have HCS:=ξh hcs
      obtain⟨x,hx⟩:∃x:Chc,x.st=da∧x.a=ak∧x.c=ck∧x.fb=fb∧(x.ct:Int)=sl:=⟨⟨da,ak,ck,fb,ct,by rw[HNK.out];exact HNB.out,hct⟩,rfl,rfl,rfl,rfl,hcs.symm⟩
      have HXX:=ξh hx
      have HXS:=ξh (show Value.slice x.a x.fb.length x.c= .slice ak nk ck from by rw[hx.2.1,hx.2.2.1,hx.2.2.2.1,HNK.out])
      have HXE:=ξh (show encC x=[.int .i64 da,.slice ak nk ck,.int .i64 sl] from by unfold encC;rw[HXS.out,hx.1,hx.2.2.2.2])
      clear hcs hx
      have HB8:=ξh (show Below wr.heap.size wr (w7.alloc (.cells #[.int .i64 da,.slice ak nk ck,.int .i64 sl] 189)) from HB7.alloc HB7.size _)
      have HR8:=ξh (show(w7.alloc (.cells #[.int .i64 da,.slice ak nk ck,.int .i64 sl] 189)).ownsRow w5.heap.size 189 3 (.slice (some ⟨g,0,none⟩) L.length cap) L.length (L.flatMap encC) from ξN HC.1.1 HB8.out)
      have hg5:w5.heap.size≤w7.heap.size:=by have:=HB.size;omega
      go_wp2_with (at_builtin;refine wpList_catG rfl (.tmp 54) (.tmp 58) 184 189 rfl Tryz.underlying184 (.agg #[.int .i64 0,.slice none 0 0,.int .i64 0]) 3 40 Tryz.infoCho rfl (by decide) w5.heap.size (.slice (some ⟨g,0,none⟩) L.length cap) L.length (L.flatMap encC) (by rfl) HR8.out (some ⟨w7.heap.size,0,none⟩) 1 1 [.int .i64 da,.slice ak nk ck,.int .i64 sl] (by rfl) rfl (fun e=>by cases e) (ξbf (us:=[.int .i64 da,.slice ak nk ck,.int .i64 sl])) (fun u hu=>by simp at hu;rcases hu with rfl | rfl | rfl <;> rfl) (by unfold maxLen;omega) (by omega) (by simp;omega) ?_;intro v9 w9 o9 g9 l9;have O9:=ξh o9;have G9:=ξh g9;have L9:=ξh l9;obtain⟨a9,c9,rfl⟩:=rowf o9;clear o9 g9 l9)
      have hpu:=HC.1.push x HXX.1 (by rw[HXS.out,HXX.2.2.2.1];exact HRD0.belowAll HB.out) (by rw[HXS.out];exact HGE.out) _ HB8.out (by rw[HXE.out];exact O9.out) G9.out L9.out
      obtain⟨g',cap',hv9,hch⟩:=hpu
      have HN:=ξh (show ChoR w9 w5.heap.size g' cap' da (L++[x])∧(L++[x]).map usC=usaK n fs ⟨da,db,dr,dc⟩ rs (k+1) from⟨hch,by
       rw[List.map_append,HC.2,HE1.out]
       show _++[(x.fb,(x.ct:Int))]=_
       rw[HXX.2.2.2.1,HXX.2.2.2.2]⟩)
      have HB9:=ξh (show Below w5.heap.size w5 w9 from Below.grown (HB.trans (HB8.mono (by have:=HB.size;omega))) G9.out (by simp;omega) (fun q hq=>by
       have:g=q:=ξo hq
       rw[←this];exact(HC.1.1.lt g rfl).1))
      have HV9:=ξh hv9
      generalize hL':L++[x]=L' at *
      have hLl:L'.length=L.length+1:=by rw[←hL'];simp
      have HLL:=ξh hLl
      clear hv9 hch hL' hLl
      go_roundw
      case rel=>exact⟨k+1,g',cap',L',by omega,by rw[HLL.out];omega,by go_num,HV9.out,HN,HB9⟩
      case measure=>simp[intOf];omega
    · have hpd:decide (0<sl)=false:=ξf hpos
      have HE1:=ξh (show usaK n fs ⟨da,db,dr,dc⟩ rs (k+1)=usaK n fs ⟨da,db,dr,dc⟩ rs k from HSK.trans (by rw[if_neg hpos,List.append_nil]))
      have HCN:=ξh (show ChoR w7 w5.heap.size g cap da L∧L.map usC=usaK n fs ⟨da,db,dr,dc⟩ rs (k+1) from⟨HC.1.below HB7.out,by rw[HE1.out];exact HC.2⟩)
      have HB9:=ξh (show Below w5.heap.size w5 w7 from HB.trans (HB7.mono (by have:=HB.size;omega)))
      go_wp2
      go_roundw
      case rel=>exact⟨k+1,g,cap,L,by omega,by omega,by go_num,rfl,HCN,HB9⟩
      case measure=>simp[intOf];omega
  · obtain rfl:k=m:=by omega
    go_wp2
    rw[HNP.out]
    refine⟨HB5.trans (HB.mono hz5),.inr ⟨HFT.out,g,cap,L,rfl,⟨⟨HC.1.1.1,HC.1.1.2.imp id fun⟨g,cap,cur,k1,k2,k3⟩=>⟨g,cap,cur,k1,ξs hz5 k2,k3⟩⟩,HC.1.2⟩,?_⟩⟩
    rw[HC.2];exact HAL.out
end Go.Proofs.YtofcicomhnkocaaGreat
