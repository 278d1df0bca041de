/- Joined: XStbU XStbV XByc XTxtP XPlgQ XPlgR XPlgS. -/
import Derived.Test.YtofcicomhnkocaaGreatBp17
import Derived.Test.YtofcicomhnkocaaGreatSortShelf
import Derived.Test.YtofcicomhnkocaaGreatBp14
import Derived.Test.YtofcicomhnkocaaGreatBp02
import Derived.Deep.QuietTactic
import Derived.Test.YtofcicomhnkocaaGreatBp03
import Derived.Test.YtofcicomhnkocaaGreatBp06
import Derived.Lib.Join
import Derived.Test.YtofcicomhnkocaaGreatBp12
set_option linter.unusedVariables false
namespace Go.Proofs.YtofcicomhnkocaaGreat
set_option maxHeartbeats 6400000
open Go.RowKit Go.Sort Go.Shelf
set_option maxRecDepth 100000
section
variable {α : Type} {key : α → Int}
def StI (key:α→Int) (T:List (α × Nat)) (a:Nat) (L:List (α × Nat)):Prop:=L.length=T.length∧ ∃i,a=i*20∧(∀j,j<i→blkS key 20 T L j)∧ ∀j,i≤j→blkA L 20 j=blkA T 20 j
def StB (key:α→Int) (T:List (α × Nat)) (bs:Nat) (L:List (α × Nat)):Prop:=L.length=T.length∧ ∀j,blkS key bs T L j
def StP (key:α→Int) (T:List (α × Nat)) (bs a:Nat) (L:List (α × Nat)):Prop:=L.length=T.length∧ ∃i,a=i*(2*bs)∧(∀j,j<i→blkS key (2*bs) T L j)∧ ∀j,2*i≤j→blkS key bs T L j
theorem StI.start (T:List (α × Nat)):StI key T 0 T:=⟨rfl,0,by omega,fun j h=>absurd h (by omega),fun j _=>rfl⟩
theorem StB.pass {T:List (α × Nat)} {bs:Nat} {L:List (α × Nat)} (h:StB key T bs L):StP key T bs 0 L:=⟨h.1,0,by omega,fun j h=>absurd h (by omega),fun j _=>h.2 j⟩
theorem blkA_at {L A X B:List (α × Nat)} {bs i:Nat} (h:L=A++(X++B)) (hA:A.length=i*bs) (hx:X.length=bs∨(B=[]∧X.length≤bs)):blkA L bs i=X:=by
 rw[h,←List.append_assoc];exact blkA_new hA hx
theorem StI.step {T L L' A X Z B:List (α × Nat)} {a:Nat} (h:StI key T a L) (hL:L=A++(X++B)) (ha:A.length=a) (hx:X.length=20∨(B=[]∧X.length≤20)) (hL':L'=A++(Z++B)) (hz:Z.Perm X) (hs:srtS key Z):StI key T (a+20) L':=by
 obtain⟨hl,i,hai,h1,h2⟩:=h
 have hzl:=hz.length_eq
 have hxb:blkA L 20 i=X:=blkA_at hL (by omega) hx
 have hzb:blkA L' 20 i=Z:=blkA_at hL' (by omega) (by rcases hx with h | ⟨h,h'⟩;exact .inl (by omega);exact .inr ⟨h,by omega⟩)
 refine⟨by rw[←hl,hL,hL'];simp;omega,i+1,by omega,fun j hj=> ?_,fun j hj=> ?_⟩
 · by_cases e:j=i
   · subst e
     unfold blkS
     rw[hzb]
     refine⟨hs,?_⟩
     rw[←h2 j (Nat.le_refl _),hxb];exact hz
   · have:=h1 j (by omega)
     unfold blkS at this ⊢
     have e2:blkA L' 20 j=blkA L 20 j:=by
      rw[hL,hL',←List.append_assoc,←List.append_assoc]
      exact blkA_old (by omega:A.length=i*20) (by omega)
     rw[e2];exact this
 · rw[←h2 j (by omega),hL,hL',←List.append_assoc,←List.append_assoc]
   rcases hx with h | ⟨h,h'⟩
   · exact blkA_far hzl (by omega)
   · exact blkA_far hzl (by omega)
theorem StI.end_ {T L:List (α × Nat)} {a:Nat} (h:StI key T a L) (hn:T.length≤a):StB key T 20 L:=by
 obtain⟨hl,i,hai,h1,h2⟩:=h
 refine⟨hl,fun j=> ?_⟩
 by_cases hj:j<i
 · exact h1 j hj
 · have:i*20≤j*20:=Nat.mul_le_mul_right 20 (by omega)
   exact blkS_end (by omega) hl
theorem StP.step {T L L' A X Y Z B:List (α × Nat)} {bs a:Nat} (h:StP key T bs a L) (hL:L=A++(X++(Y++B))) (ha:A.length=a) (hx:X.length=bs) (hy:Y.length=bs∨(B=[]∧Y.length≤bs)) (hL':L'=A++(Z++B)) (hz:Z.Perm (X++Y)) (hs:srtS key Z):StP key T bs (a+2*bs) L':=by
 obtain⟨hl,i,hai,h1,h2⟩:=h
 have hzl:=hz.length_eq
 rw[List.length_append] at hzl
 have hm:i*(2*bs)=2*i*bs:=by rw[←Nat.mul_assoc,Nat.mul_comm i 2]
 have hm1:(2*i+1)*bs=2*i*bs+bs:=by rw[Nat.add_mul,Nat.one_mul]
 have hxb:blkA L bs (2*i)=X:=blkA_at hL (by omega) (.inl hx)
 have hyb:blkA L bs (2*i+1)=Y:=blkA_at (A:=A++X) (by rw[hL];simp) (by rw[List.length_append];omega) hy
 have hzb:blkA L' (2*bs) i=Z:=blkA_at hL' (by omega) (by rcases hy with h | ⟨h,h'⟩;exact .inl (by omega);exact .inr ⟨h,by omega⟩)
 have hL2:L=A++((X++Y)++B):=by rw[hL];simp
 refine⟨by rw[←hl,hL,hL'];simp;omega,i+1,by rw[Nat.add_mul,Nat.one_mul];omega,fun j hj=> ?_,fun j hj=> ?_⟩
 · by_cases e:j=i
   · subst e
     unfold blkS
     rw[hzb]
     refine⟨hs,hz.trans ?_⟩
     rw[blkA_two]
     have b1:=(h2 (2*j) (by omega)).2
     have b2:=(h2 (2*j+1) (by omega)).2
     rw[hxb] at b1
     rw[hyb] at b2
     exact b1.append b2
   · have:=h1 j (by omega)
     unfold blkS at this ⊢
     have e2:blkA L' (2*bs) j=blkA L (2*bs) j:=by
      rw[hL2,hL',←List.append_assoc,←List.append_assoc]
      exact blkA_old (by omega:A.length=i*(2*bs)) (by omega)
     rw[e2];exact this
 · have:=h2 j (by omega)
   unfold blkS at this ⊢
   have e2:blkA L' bs j=blkA L bs j:=by
    rw[hL2,hL',←List.append_assoc,←List.append_assoc]
    have hj2:(2*(i+1))*bs≤j*bs:=Nat.mul_le_mul_right bs hj
    have hj3:(2*(i+1))*bs=2*i*bs+2*bs:=by rw[show 2*(i+1)=2*i+2 by omega,Nat.add_mul]
    exact blkA_far (by rw[List.length_append];omega) (by rw[List.length_append];rcases hy with h | ⟨h,h'⟩ <;> omega)
   rw[e2];exact this
theorem StP.end_ {T L:List (α × Nat)} {bs a:Nat} (h:StP key T bs a L) (hn:T.length≤a+bs):StB key T (2*bs) L:=by
 obtain⟨hl,i,hai,h1,h2⟩:=h
 have hm:i*(2*bs)=2*i*bs:=by rw[←Nat.mul_assoc,Nat.mul_comm i 2]
 refine⟨hl,fun j=> ?_⟩
 by_cases hj:j<i
 · exact h1 j hj
 · by_cases e:j=i
   · subst e
     have e1:blkA L bs (2*j+1)=[]:=blkA_end (by rw[Nat.add_mul,Nat.one_mul];omega)
     have e2:blkA T bs (2*j+1)=[]:=blkA_end (by rw[Nat.add_mul,Nat.one_mul];omega)
     have:=h2 (2*j) (by omega)
     unfold blkS at this ⊢
     rw[blkA_two,blkA_two,e1,e2,List.append_nil,List.append_nil]
     exact this
   · have:(i+1)*(2*bs)≤j*(2*bs):=Nat.mul_le_mul_right (2*bs) (by omega)
     rw[Nat.add_mul,Nat.one_mul] at this
     exact blkS_end (by omega) hl
theorem StP.full {T L:List (α × Nat)} {bs a:Nat} (h:StP key T bs a L) (hn:T.length≤a):StB key T (2*bs) L:=h.end_ (by omega)
theorem StB.all {T L:List (α × Nat)} {bs:Nat} (h:StB key T bs L) (hb:T.length≤bs):srtS key L∧L.Perm T:=blk_all (h.2 0) (by have:=h.1;omega) h.1
theorem StP.pair {T L:List (α × Nat)} {bs a:Nat} (ht:T.Pairwise fun x y=>x.2<y.2) (h:StP key T bs a L) (h1:a+bs<T.length):∃A X Y B,L=A++(X++(Y++B))∧A.length=a∧X.length=bs∧(Y.length=bs∨(B=[]∧Y.length≤bs))∧Y.length=min bs (T.length-(a+bs))∧srtS key X∧srtS key Y∧crsS X Y:=by
 obtain⟨hl,i,hai,g1,g2⟩:=h
 have hm:i*(2*bs)=2*i*bs:=by rw[←Nat.mul_assoc,Nat.mul_comm i 2]
 have hm1:(2*i+1)*bs=2*i*bs+bs:=by rw[Nat.add_mul,Nat.one_mul]
 have b1:=g2 (2*i) (Nat.le_refl _)
 have b2:=g2 (2*i+1) (by omega)
 unfold blkS at b1 b2
 have hx:(blkA L bs (2*i)).length=bs:=blkA_len (by rw[hm1];omega)
 have hy:(blkA L bs (2*i+1)).length=min bs (T.length-(a+bs)):=by
  unfold blkA;rw[List.length_take,List.length_drop];omega
 refine⟨L.take a,blkA L bs (2*i),blkA L bs (2*i+1),L.drop (a+2*bs),?_,by rw[List.length_take];omega,hx,?_,hy,b1.1,b2.1,blk_crs ht (by omega) b1.2 b2.2⟩
 · have h0:=blkA_cut L (2*bs) i
   rw[blkA_two,←hai] at h0
   rw[List.append_assoc,List.append_assoc] at h0
   exact h0
 · by_cases hc:a+2*bs≤T.length
   · left;omega
   · right;exact⟨List.drop_eq_nil_of_le (by omega),by omega⟩
theorem StI.part {T L:List (α × Nat)} {a:Nat} (ht:T.Pairwise fun x y=>x.2<y.2) (h:StI key T a L) (h1:a≤T.length):∃A X B,L=A++(X++B)∧A.length=a∧(X.length=20∨(B=[]∧X.length≤20))∧X.length=min 20 (T.length-a)∧X.Pairwise fun x y=>x.2<y.2:=by
 obtain⟨hl,i,hai,g1,g2⟩:=h
 have hx:(blkA L 20 i).length=min 20 (T.length-a):=by
  unfold blkA;rw[List.length_take,List.length_drop];omega
 refine⟨L.take a,blkA L 20 i,L.drop (a+20),?_,by rw[List.length_take];omega,?_,hx,?_⟩
 · have h0:=blkA_cut L 20 i
   rw[←hai,List.append_assoc] at h0
   exact h0
 · by_cases hc:a+20≤T.length
   · left;omega
   · right;exact⟨List.drop_eq_nil_of_le (by omega),by omega⟩
 · rw[g2 i (Nat.le_refl _)]
   unfold blkA
   exact List.Pairwise.sublist ((List.take_sublist _ _).trans (List.drop_sublist _ _)) ht
end
theorem swk_cmpLays {P:Program} {α:Type} [Inhabited α] {enc:α→List Value} {k:Nat} {w0 W:World} {blk off:Nat} {dk:Array α} {g:Nat} {cb:Array Value} {cf:α→α→Int} {size:Nat} (h:SWK enc k w0 blk off dk W) (hC:CmpLays P g cb enc k cf blk off size w0) (hblk:blk<w0.heap.size) (hs:dk.size=size):
 CmpLays P g cb enc k cf blk off size W:=fun m os d' hd' x y=>by
 obtain⟨m',os',e⟩:=h.on hblk m d' os (by omega)
 rw[e];exact hC m' os' d' hd' x y
theorem symMerge_any {α:Type} [Inhabited α] {key:α→Int} {enc:α × Nat→List Value} {w0:World} {blk off:Nat} {d0:Array (α × Nat)} {k:Nat} (hk3:k=3) (R:RowK enc k w0 blk off d0) (hsz:d0.size<1000000) (g:Nat) (cb:Array Value) (cap:Nat)
 (eg:∀args w,(callFunc g args).run Tryz.prog w= .ok (.enter g args) w) (hC:CmpLays Tryz.prog g cb enc k (cfS key) blk off d0.size w0):∀n:Nat,SymIH key enc k w0 blk off cap (.func (.func g) #[] cb) d0.size n:=by
 intro n
 induction n with
 | zero=>intro A X Y B d W h;omega
 | succ n ih=>
   intro A X Y B d W hn h hd hs hx0 hy0 hx hy hc
   by_cases h1:X.length=1
   · obtain⟨x,rfl⟩:=List.length_eq_one_iff.1 h1
     exact symLeft_any hk3 R hsz g cb cap eg hC W h hd hs hy hc
   · by_cases h2:Y.length=1
     · obtain⟨y,rfl⟩:=List.length_eq_one_iff.1 h2
       exact symRight_any hk3 R hsz g cb cap eg hC W h hd hs hx hc h1
     · exact symRec_any hk3 R hsz g cb cap eg hC W h hd hs hx hy hc (by omega) (by omega) (fun A' X' Y' B' d' W' hl=>ih A' X' Y' B' d' W' (by omega))
theorem insPart_any {α:Type} [Inhabited α] {key:α→Int} {enc:α × Nat→List Value} {w0:World} {blk off:Nat} {d0:Array (α × Nat)} {k:Nat} (hk3:k=3) (R:RowK enc k w0 blk off d0) (hsz:d0.size<1000000) (g:Nat) (cb:Array Value) (cap:Nat)
 (eg:∀args w,(callFunc g args).run Tryz.prog w= .ok (.enter g args) w) (hC:CmpLays Tryz.prog g cb enc k (cfS key) blk off d0.size w0) {A X B:List (α × Nat)} {dk:Array (α × Nat)} (W:World) (h:SWK enc k w0 blk off dk W) (hd:dk.toList=A++(X++B)) (hs:dk.size=d0.size) (ht:X.Pairwise fun x y=>x.2<y.2):
 Calls Tryz.prog 243 #[.slice (some ⟨blk,off,none⟩) d0.size cap,.int .i64 A.length,.int .i64 ((A.length+X.length:Nat):Int),.func (.func g) #[] cb] W fun e w'=>
  e= .returned (.tuple #[])∧ ∃(d':Array (α × Nat)) (Z:List (α × Nat)),SWK enc k w0 blk off d' w'∧d'.toList=A++(Z++B)∧Z.Perm X∧srtS key Z:=by
 have hlen:=ends_len hd hs
 simp only[List.length_append] at hlen
 have hH:=h.holds R.hblk R.hH hs
 rw[←hs]
 refine(AnyQ.insertionSortCmpFunc Tryz.insChoice k Tryz.isAgg189 (by rw[hk3];exact Tryz.sizeOf189) enc R.hk R.h1 (cfS key) g cb blk off cap A.length (A.length+X.length) dk W eg (swk_cmpLays h (by rw[hs];exact hC) R.hblk rfl) hH (h.lt R.hblk) (by omega) (by omega) (by omega)).mono ?_
 rintro e w' ⟨rfl,n,os,rfl⟩
 obtain⟨Z,h1,h2,h3⟩:=part_srt (lt:=ltOf (cfS key)) (ltOf_cfS key) (A:=A) (X:=X) (B:=B) (d:=dk) (by rw[hd];simp) ht
 refine⟨rfl,_,Z,h.on R.hblk n _ os ?_,by rw[h1];simp,h2,h3⟩
 rw[←Array.length_toList,←Array.length_toList,h1,hd]
 simp only[List.length_append,h2.length_eq];omega
structure StbS (P:Program) (ins sym:FuncId) (sv fv:Value) (N:Nat) (S1 S2:Nat→World→Prop) (S3:Nat→Nat→World→Prop):Prop where
 i1:∀a w,S1 a w→a+20≤N→Calls P ins #[sv,.int .i64 a,.int .i64 ((a+20:Nat):Int),fv] w fun e w'=>e= .returned (.tuple #[])∧S1 (a+20) w'
 i2:∀a w,S1 a w→a≤N→N<a+20→Calls P ins #[sv,.int .i64 a,.int .i64 N,fv] w fun e w'=>e= .returned (.tuple #[])∧S2 20 w'
 m1:∀bs a w,S3 bs a w→0<bs→a+2*bs≤N→Calls P sym #[sv,.int .i64 a,.int .i64 ((a+bs:Nat):Int),.int .i64 ((a+2*bs:Nat):Int),fv] w fun e w'=>e= .returned (.tuple #[])∧S3 bs (a+2*bs) w'
 m2:∀bs a w,S3 bs a w→0<bs→a+bs<N→N<a+2*bs→Calls P sym #[sv,.int .i64 a,.int .i64 ((a+bs:Nat):Int),.int .i64 N,fv] w fun e w'=>e= .returned (.tuple #[])∧S2 (2*bs) w'
 n2:∀bs a w,S3 bs a w→N≤a+bs→S2 (2*bs) w
 p:∀bs w,S2 bs w→S3 bs 0 w
theorem stb_steps {α:Type} [Inhabited α] {key:α→Int} {enc:α × Nat→List Value} {w0:World} {blk off:Nat} {d0:Array (α × Nat)} {k:Nat} (hk3:k=3) (R:RowK enc k w0 blk off d0) (hsz:d0.size<1000000) (g:Nat) (cb:Array Value) (cap:Nat)
 (eg:∀args w,(callFunc g args).run Tryz.prog w= .ok (.enter g args) w) (hC:CmpLays Tryz.prog g cb enc k (cfS key) blk off d0.size w0) (ht:d0.toList.Pairwise fun x y=>x.2<y.2):
 StbS Tryz.prog 243 244 (.slice (some ⟨blk,off,none⟩) d0.size cap) (.func (.func g) #[] cb) d0.size (fun a w=>∃d,SWK enc k w0 blk off d w∧StI key d0.toList a d.toList) (fun bs w=>∃d,SWK enc k w0 blk off d w∧StB key d0.toList bs d.toList) (fun bs a w=>∃d,SWK enc k w0 blk off d w∧StP key d0.toList bs a d.toList):=by
 have hT:d0.toList.length=d0.size:=by simp
 have hsd:∀d:Array (α × Nat),d.toList.length=d0.toList.length→d.size=d0.size:=fun d h=>by simpa using h
 refine⟨fun a w hw h1=> ?_,fun a w hw h1 h2=> ?_,fun bs a w hw h0 h1=> ?_,fun bs a w hw h0 h1 h2=> ?_,fun bs a w hw h1=> ?_,fun bs w hw=> ?_⟩
 · obtain⟨d,x1,x2⟩:=hw
   obtain⟨A,X,B,e1,e2,e3,e4,e5⟩:=x2.part ht (by omega)
   have:=insPart_any hk3 R hsz g cb cap eg hC w x1 e1 (hsd d x2.1) e5
   rw[e2,show a+X.length=a+20 by omega] at this
   refine this.mono ?_
   rintro e w' ⟨rfl,d',Z,y1,y2,y3,y4⟩
   exact⟨rfl,d',y1,x2.step e1 e2 e3 y2 y3 y4⟩
 · obtain⟨d,x1,x2⟩:=hw
   obtain⟨A,X,B,e1,e2,e3,e4,e5⟩:=x2.part ht (by omega)
   have:=insPart_any hk3 R hsz g cb cap eg hC w x1 e1 (hsd d x2.1) e5
   rw[e2,show a+X.length=d0.size by omega] at this
   refine this.mono ?_
   rintro e w' ⟨rfl,d',Z,y1,y2,y3,y4⟩
   exact⟨rfl,d',y1,(x2.step e1 e2 e3 y2 y3 y4).end_ (by omega)⟩
 · obtain⟨d,x1,x2⟩:=hw
   obtain⟨A,X,Y,B,e1,e2,e3,e4,e5,e6,e7,e8⟩:=x2.pair ht (by omega)
   have:=symMerge_any hk3 R hsz g cb cap eg hC (X.length+Y.length+1) A X Y B d w (by omega) x1 e1 (hsd d x2.1) (by omega) (by omega) e6 e7 e8
   rw[e2,e3,show a+bs+Y.length=a+2*bs by omega] at this
   refine this.mono ?_
   rintro e w' ⟨rfl,d',Z,y1,y2,y3,y4⟩
   exact⟨rfl,d',y1,x2.step e1 e2 e3 e4 y2 y3 y4⟩
 · obtain⟨d,x1,x2⟩:=hw
   obtain⟨A,X,Y,B,e1,e2,e3,e4,e5,e6,e7,e8⟩:=x2.pair ht (by omega)
   have:=symMerge_any hk3 R hsz g cb cap eg hC (X.length+Y.length+1) A X Y B d w (by omega) x1 e1 (hsd d x2.1) (by omega) (by omega) e6 e7 e8
   rw[e2,e3,show a+bs+Y.length=d0.size by omega] at this
   refine this.mono ?_
   rintro e w' ⟨rfl,d',Z,y1,y2,y3,y4⟩
   exact⟨rfl,d',y1,(x2.step e1 e2 e3 e4 y2 y3 y4).full (by omega)⟩
 · obtain⟨d,x1,x2⟩:=hw
   exact⟨d,x1,x2.end_ (by omega)⟩
 · obtain⟨d,x1,x2⟩:=hw
   exact⟨d,x1,x2.pass⟩
def StbQ {α:Type} [Inhabited α] (key:α→Int) (enc:α × Nat→List Value) (k:Nat) (w0:World) (blk off:Nat) (d0:Array (α × Nat)) (e:Ending) (w':World):Prop:=
 e= .returned (.tuple #[])∧ ∃d':Array (α × Nat),SWK enc k w0 blk off d' w'∧srtS key d'.toList∧d'.toList.Perm d0.toList
theorem stable_any {α:Type} [Inhabited α] {key:α→Int} {enc:α × Nat→List Value} {w0:World} {blk off:Nat} {d0:Array (α × Nat)} {k:Nat} (hk3:k=3) (R:RowK enc k w0 blk off d0) (hsz:d0.size<1000000) (g:Nat) (cb:Array Value) (cap:Nat)
 (eg:∀args w,(callFunc g args).run Tryz.prog w= .ok (.enter g args) w) (hC:CmpLays Tryz.prog g cb enc k (cfS key) blk off d0.size w0) (ht:d0.toList.Pairwise fun x y=>x.2<y.2) (W:World) (h:SWK enc k w0 blk off d0 W):
 Calls Tryz.prog 222 #[.slice (some ⟨blk,off,none⟩) d0.size cap,.int .i64 d0.size,.func (.func g) #[] cb] W (StbQ key enc k w0 blk off d0):=by
 obtain⟨S1,S2,S3,hST,h0,hF⟩:∃(S1 S2:Nat→World→Prop) (S3:Nat→Nat→World→Prop),StbS Tryz.prog 243 244 (.slice (some ⟨blk,off,none⟩) d0.size cap) (.func (.func g) #[] cb) d0.size S1 S2 S3∧S1 0 W∧ ∀bs w',S2 bs w'→d0.size≤bs→StbQ key enc k w0 blk off d0 (.returned (.tuple #[])) w':=
  ⟨_,_,_,stb_steps hk3 R hsz g cb cap eg hC ht,⟨d0,h,StI.start _⟩,fun bs w' hw hb=>by
   obtain⟨d,x1,x2⟩:=hw
   obtain⟨y1,y2⟩:=x2.all (by simpa using hb)
   exact⟨rfl,d,x1,y1,y2⟩⟩
 have HS:=Lib.hid hST
 have H0:=Lib.hid h0
 have HF:=Lib.hid hF
 obtain⟨N,hN⟩:∃N,N=d0.size:=⟨_,rfl⟩
 rw[←hN] at HS HF hsz ⊢
 obtain⟨NP,hNP⟩:∃NP,NP=StbQ key enc k w0 blk off d0:=⟨_,rfl⟩
 rw[←hNP] at HF ⊢
 clear hST h0 hF R hC ht h hN hNP
 have F:=Tryz.func222
 have mixed:Tryz.prog.follows .mixedOrders=true:=by kernel_rfl
 have F2:∀args w,(callFunc 243 args).run Tryz.prog w= .ok (.enter 243 args) w:=enters_of Tryz.func243 (by kernel_rfl) rfl
 have F3:∀args w,(callFunc 244 args).run Tryz.prog w= .ok (.enter 244 args) w:=enters_of Tryz.func244 (by kernel_rfl) rfl
 have t0:=Tryz.underlying3;have a0:=Tryz.isAgg3;have z0:=Tryz.sizeOf3;have v0:=Tryz.zeroValue3
 have t1:=Tryz.underlying4;have a1:=Tryz.isAgg4;have z1:=Tryz.sizeOf4;have v1:=Tryz.zeroValue4
 generalize Tryz.prog=P at *
 go_enter F,Tryz.ntmps222
 go_wp2
 go_loopw [7,8] (fun va vb wr=>∃a:Nat,a≤N∧va= .int .i64 a∧vb= .int .i64 ((a+20:Nat):Int)∧Hid (S1 a wr)) (fun va _ _=>N-(intOf va).toNat)
 case atStart=>exact⟨0,Nat.zero_le _,rfl,rfl,H0⟩
 case round=>
  obtain⟨a,ha,rfl,rfl,HA⟩:=hrel
  obtain⟨b,hb⟩:∃b,b=a+20:=⟨_,rfl⟩
  rw[←hb]
  by_cases hle:b≤N
  · have hleI:(b:Int)≤(N:Int):=by omega
    have HC:=HS.out.i1 a wr HA.out (by omega)
    rw[←hb] at HC
    have HC:=Lib.hid HC
    have hab:a<b:=by omega
    clear hb
    go_wp2_with (go_at_fn 243;refine HC.out.mono ?_;rintro e w' ⟨rfl,h9⟩;have H9:=Lib.hid h9;clear h9)
    go_roundw
    case rel=>exact⟨b,hle,rfl,by go_num,H9⟩
    case measure=>simp[intOf];omega
  · have hleI:¬(b:Int)≤(N:Int):=by omega
    have HC:=Lib.hid (HS.out.i2 a wr HA.out ha (by omega))
    clear hb
    go_wp2_with (go_at_fn 243;refine HC.out.mono ?_;rintro e w' ⟨rfl,h9⟩;have H9:=Lib.hid h9;clear h9)
    clear hleI hle HC HA ha
    go_loopw [6,7,8,9] (fun vs _ _ _ wr=>∃bs:Nat,20≤bs∧bs<2000000∧vs= .int .i64 bs∧Hid (S2 bs wr)) (fun vs _ _ _ _=>N-(intOf vs).toNat)
    case atStart=>exact⟨20,Nat.le_refl _,by omega,rfl,H9⟩
    case round=>
     obtain⟨bs,hb0,hb1,rfl,HB⟩:=hrel
     by_cases hlt:bs<N
     · have hltI:(bs:Int)<(N:Int):=by omega
       have HP:=Lib.hid (HS.out.p bs _ HB.out)
       obtain⟨b2,hb2⟩:∃b2,b2=2*bs:=⟨_,rfl⟩
       have hbI:2*(bs:Int)=(b2:Int):=by omega
       have hbJ:(bs:Int)*2=(b2:Int):=by omega
       have hb3:b2<2000000:=by omega
       have HB2:=Lib.hid hb2
       have hb4:bs<b2:=by omega
       clear hb2
       go_wp2
       obtain⟨wo,hwo⟩:∃wo,wo=wr:=⟨_,rfl⟩
       subst hwo
       go_loopw [7,8] (fun va vb wr=>∃a:Nat,a≤N∧va= .int .i64 a∧vb= .int .i64 ((a+b2:Nat):Int)∧Hid (S3 bs a wr)) (fun va _ _=>N-(intOf va).toNat)
       case atStart=>exact⟨0,Nat.zero_le _,rfl,by go_num,HP⟩
       case round=>
        obtain⟨a,ha,rfl,rfl,HA⟩:=hrel
        obtain⟨b,hb⟩:∃b,b=a+b2:=⟨_,rfl⟩
        obtain⟨m,hm⟩:∃m,m=a+bs:=⟨_,rfl⟩
        rw[←hb]
        have hmI:(a:Int)+(bs:Int)=(m:Int):=by omega
        by_cases hle:b≤N
        · have hleI:(b:Int)≤(N:Int):=by omega
          have HC:=HS.out.m1 bs a _ HA.out (by omega) (by have:=HB2.out;omega)
          rw[←hm,←HB2.out,←hb] at HC
          have HC:=Lib.hid HC
          have hab:a<b:=by omega
          clear hb hm
          go_wp2_with (go_at_fn 244;refine HC.out.mono ?_;rintro e w' ⟨rfl,h9⟩;have H9:=Lib.hid h9;clear h9)
          go_roundw
          case rel=>exact⟨b,hle,rfl,by go_num,H9⟩
          case measure=>simp[intOf];omega
        · have hleI:¬(b:Int)≤(N:Int):=by omega
          by_cases hmn:m<N
          · have hmnI:(m:Int)<(N:Int):=by omega
            have HC:=HS.out.m2 bs a _ HA.out (by omega) (by omega) (by have:=HB2.out;omega)
            rw[←hm,←HB2.out] at HC
            have HC:=Lib.hid HC
            clear hb hm
            go_wp2_with (go_at_fn 244;refine HC.out.mono ?_;rintro e w' ⟨rfl,h9⟩;have H9:=Lib.hid h9;clear h9)
            go_roundw
            case rel=>exact⟨b2,by omega,hb3,by go_num,H9⟩
            case measure=>simp[intOf];omega
          · have hmnI:¬(m:Int)<(N:Int):=by omega
            have HC:=HS.out.n2 bs a _ HA.out (by omega)
            rw[←HB2.out] at HC
            have HC:=Lib.hid HC
            clear hb hm
            go_wp2
            go_roundw
            case rel=>exact⟨b2,by omega,hb3,by go_num,HC⟩
            case measure=>simp[intOf];omega
     · have hltI:¬(bs:Int)<(N:Int):=by omega
       go_wp2
       first | exact HF.out bs _ HB.out (by omega) | (go_end0;exact HF.out bs _ HB.out (by omega))
structure Chc where
 st:Int
 a:Option Addr
 c:Nat
 fb:List Int
 ct:Nat
 hf:fb.length≤1000
 hc:ct≤24
instance:Inhabited Chc:=⟨⟨0,none,0,[],0,by simp,by simp⟩⟩
def encC (x:Chc):List Value:=[.int .i64 x.st,.slice x.a x.fb.length x.c,.int .i64 x.ct]
def costC (x:Chc):Int:=(x.ct:Int)*(x.fb.length:Int)
theorem costC_bd (x:Chc):0≤costC x∧costC x≤24000:=by
 unfold costC
 have h1:=x.hf
 have h2:=x.hc
 have:x.ct*x.fb.length≤24*1000:=Nat.mul_le_mul h2 h1
 have e:((x.ct:Int)*(x.fb.length:Int))=((x.ct*x.fb.length:Nat):Int):=by push_cast;rfl
 rw[e];omega
theorem cost_any (st:Int) (a:Option Addr) (m c ct:Nat) (r:Int) (w:World) (hr:(ct:Int)*(m:Int)=r) (h0:0≤r∧r≤24000) (hm:m≤1000) (hct:ct≤24):
 Calls Tryz.prog 194 #[.agg #[.int .i64 st,.slice a m c,.int .i64 ct]] w fun e w'=>e= .returned (.int .i64 r)∧Gr w w':=by
 obtain⟨hb,bc,bl,-⟩:=box_facts w #[.int .i64 st,.slice a m c,.int .i64 ct] 189
 have q1:=bc 1 _ rfl
 have q2:=bc 2 _ rfl
 have HG:=Lib.hid ((Gr.refl w).alloc (.cells #[.int .i64 st,.slice a m c,.int .i64 ct] 189))
 have hw:wrap64 r=r:=IntWalk.wrap64_in _ (by omega)
 have hw2:IntKind.i64.wrap r=r:=IntWalk.i64_in _ (by omega)
 clear hb bc bl
 go_enter Tryz.func194,Tryz.ntmps194
 go_wp2
 go_ret
 exact⟨by first | rfl | (rw[hr,hw]),HG.out⟩
theorem byCostCmp_any (st1 st2:Int) (a1 a2:Option Addr) (m1 c1 ct1 m2 c2 ct2:Nat) (r1 r2:Int) (w:World) (hr1:(ct1:Int)*(m1:Int)=r1) (hr2:(ct2:Int)*(m2:Int)=r2) (h01:0≤r1∧r1≤24000) (h02:0≤r2∧r2≤24000) (hm1:m1≤1000) (hm2:m2≤1000) (hct1:ct1≤24) (hct2:ct2≤24):
 Calls Tryz.prog 193 #[.agg #[.int .i64 st1,.slice a1 m1 c1,.int .i64 ct1],.agg #[.int .i64 st2,.slice a2 m2 c2,.int .i64 ct2]] w fun e w'=>e= .returned (.int .i64 (cmpI r1 r2))∧Gr w w':=by
 have HA:=Lib.hid (fun w'=>cost_any st1 a1 m1 c1 ct1 r1 w' hr1 h01 hm1 hct1)
 have HB:=Lib.hid (fun w'=>cost_any st2 a2 m2 c2 ct2 r2 w' hr2 h02 hm2 hct2)
 have HC:=Lib.hid (fun w'=>compare_any r1 r2 w')
 clear hr1 hr2 h01 h02 hm1 hm2 hct1 hct2
 generalize cmpI r1 r2=R at *
 have hG:=((Gr.refl w).alloc (.cells #[.int .i64 st1,.slice a1 m1 c1,.int .i64 ct1] 189)).alloc (.cells #[.int .i64 st2,.slice a2 m2 c2,.int .i64 ct2] 189)
 have k0:=heap_alloc_new w (.cells #[.int .i64 st1,.slice a1 m1 c1,.int .i64 ct1] 189)
 have k0':=(heap_alloc_old _ (.cells #[.int .i64 st2,.slice a2 m2 c2,.int .i64 ct2] 189) (Array.getElem?_eq_some_iff.1 k0).1).trans k0
 have k1:=heap_alloc_new (w.alloc (.cells #[.int .i64 st1,.slice a1 m1 c1,.int .i64 ct1] 189)) (.cells #[.int .i64 st2,.slice a2 m2 c2,.int .i64 ct2] 189)
 rw[show(w.alloc (.cells #[.int .i64 st1,.slice a1 m1 c1,.int .i64 ct1] 189)).heap.size=w.heap.size+1 by simp] at k1
 have q0:=blkc k0' (j:=0) (show _=some (.int .i64 st1) from rfl)
 have q1:=blkc k0' (j:=1) (show _=some (.slice a1 m1 c1) from rfl)
 have q2:=blkc k0' (j:=2) (show _=some (.int .i64 ct1) from rfl)
 have q3:=blkc k1 (j:=0) (show _=some (.int .i64 st2) from rfl)
 have q4:=blkc k1 (j:=1) (show _=some (.slice a2 m2 c2) from rfl)
 have q5:=blkc k1 (j:=2) (show _=some (.int .i64 ct2) from rfl)
 have hz:w.heap.size+1+1=((w.alloc (.cells #[.int .i64 st1,.slice a1 m1 c1,.int .i64 ct1] 189)).alloc (.cells #[.int .i64 st2,.slice a2 m2 c2,.int .i64 ct2] 189)).heap.size:=by simp
 have HG:=Lib.hid hG
 clear k0 k0' k1 hG
 go_enter Tryz.func193,Tryz.ntmps193
 go_wp2_with fail
 generalize (w.alloc (.cells #[.int .i64 st1,.slice a1 m1 c1,.int .i64 ct1] 189)).alloc (.cells #[.int .i64 st2,.slice a2 m2 c2,.int .i64 ct2] 189)=w2 at *
 have hl0:w.heap.size<w2.heap.size:=by omega
 have hl1:w.heap.size+1<w2.heap.size:=by omega
 have g0:=fun n os=>cell_grown hl0 q0 n os
 have g1:=fun n os=>cell_grown hl0 q1 n os
 have g2:=fun n os=>cell_grown hl0 q2 n os
 have g3:=fun n os=>cell_grown hl1 q3 n os
 have g4:=fun n os=>cell_grown hl1 q4 n os
 have g5:=fun n os=>cell_grown hl1 q5 n os
 clear q0 q1 q2 q3 q4 q5 hz hl0 hl1
 have mixed:Tryz.prog.follows .mixedOrders=true:=by kernel_rfl
 go_quiet_grown (first
  | (go_at_call 194;first | (with_reducible exact Calls.grown_of (HA.out _)) | (with_reducible exact Calls.grown_of (HB.out _)))
  | (go_at_call 174;refine(HC.out _).mono ?_;rintro e w' ⟨rfl,rfl⟩;exact⟨rfl,⟨⟨_,_⟩,rfl⟩⟩))
 have HG2:=Lib.hid (HG.out.trans (show Gr w2 (grow (w2.drewN nq) osq) from⟨nq,osq,rfl⟩))
 go_wp2
 go_ret
 exact⟨rfl,HG2.out⟩
def encT (x:Chc × Nat):List Value:=encC x.1
theorem encT_len (x:Chc × Nat):(encT x).length=3:=rfl
theorem encT_one (x:Chc × Nat):∀v∈encT x,v.oneCell'=true:=fun v hv=>by
 simp[encT,encC] at hv
 rcases hv with rfl | rfl | rfl <;> rfl
theorem byCost_lays (blk off size:Nat) (w:World):CmpLays Tryz.prog 193 #[] encT 3 (cfS costC) blk off size w:=fun m os dk _ x y=>
 byCostCmp_any x.1.st y.1.st x.1.a y.1.a x.1.fb.length x.1.c x.1.ct y.1.fb.length y.1.c y.1.ct (costC x.1) (costC y.1) _ rfl rfl (costC_bd _) (costC_bd _) x.1.hf y.1.hf x.1.hc y.1.hc
def BycQ (L:List Chc) (w:World) (base:Nat) (v:Value) (w':World):Prop:=∃S:List (Chc × Nat),srtS costC S∧S.Perm (tagS L)∧w'.ownsRow base 189 3 v L.length (S.flatMap encT)∧w.grownBy w' v.ownBlock
theorem sortStable_any (L:List Chc) (base g cap:Nat) (w:World) (h:w.ownsRow base 189 3 (.slice (some ⟨g,0,none⟩) L.length cap) L.length (L.flatMap encC)) (hl:L.length<1000000):
 Calls Tryz.prog 192 #[.slice (some ⟨g,0,none⟩) L.length cap,.func (.func 193) #[] #[]] w fun e w'=>e= .returned (.tuple #[])∧BycQ L w base (.slice (some ⟨g,0,none⟩) L.length cap) w':=by
 have hz:(tagS L).length=L.length:=by unfold tagS;simp
 have hT:(tagS L).flatMap encT=L.flatMap encC:=by
  conv=>rhs;rw[←tagS_fst L]
  rw[List.flatMap_map];rfl
 have h':w.ownsRow base 189 3 (.slice (some ⟨g,0,none⟩) L.length cap) L.length ((tagS L).toArray.toList.flatMap encT):=by
  show w.ownsRow base 189 3 _ _ ((tagS L).flatMap encT)
  rw[hT];exact h
 obtain⟨hn,hH,hlt,-⟩:=row_holdsK encT_len (by omega) h'
 have hn2:L.length=(tagS L).toArray.size:=hn.symm
 have HST:=Lib.hid (show Calls Tryz.prog 222 #[.slice (some ⟨g,0,none⟩) L.length cap,.int .i64 L.length,.func (.func 193) #[] #[]] w (fun e w'=>e= .returned (.tuple #[])∧BycQ L w base (.slice (some ⟨g,0,none⟩) L.length cap) w') from by
  have:=stable_any (key:=costC) (enc:=encT) (w0:=w) (blk:=g) (off:=0) (d0:=(tagS L).toArray) (k:=3) rfl ⟨encT_len,encT_one,hH,hlt⟩ (by omega) 193 #[] cap (enters_of Tryz.func193 (by kernel_rfl) rfl) (byCost_lays _ _ _ _) (tag_rise L) w (SWK.start hH)
  rw[←hn2] at this
  refine this.mono ?_
  rintro e w' ⟨rfl,d',⟨n,os,rfl⟩,x1,x2⟩
  have hs:d'.size=(tagS L).toArray.size:=by have:=x2.length_eq;simpa using this
  obtain⟨y1,y2⟩:=row_sortK encT_len (by omega) h' d' hs n os
  exact⟨rfl,d'.toList,x1,x2,y1,y2⟩)
 generalize BycQ L w base (.slice (some ⟨g,0,none⟩) L.length cap)=Q at *
 clear h h' hn hn2 hH hlt hT hz
 generalize hm:L.length=m at *
 clear hm
 go_enter Tryz.func192,Tryz.ntmps192
 go_wp2_with (go_at_call 222;refine HST.out.mono ?_;rintro e w' ⟨rfl,h9⟩;have H9:=Lib.hid h9;clear h9)
 go_end0
 exact⟨rfl,H9.out⟩
theorem byCost_any (L:List Chc) (base g cap:Nat) (w:World) (h:w.ownsRow base 189 3 (.slice (some ⟨g,0,none⟩) L.length cap) L.length (L.flatMap encC)) (hl:L.length<1000000):
 Calls Tryz.prog 157 #[.slice (some ⟨g,0,none⟩) L.length cap] w fun e w'=>e= .returned (.slice (some ⟨g,0,none⟩) L.length cap)∧BycQ L w base (.slice (some ⟨g,0,none⟩) L.length cap) w':=by
 have HST:=Lib.hid (sortStable_any L base g cap w h hl)
 generalize BycQ L w base (.slice (some ⟨g,0,none⟩) L.length cap)=Q at *
 clear h
 generalize hm:L.length=m at *
 clear hm
 go_enter Tryz.func157,Tryz.ntmps157
 go_wp2_with (go_at_call 192;refine HST.out.mono ?_;rintro e w' ⟨rfl,h9⟩;have H9:=Lib.hid h9;clear h9)
 go_ret
 exact⟨rfl,H9.out⟩
open Go.RowKit
/-! ### Lengths -/
theorem fb_at {n:Net} (h:netOk n=true) {k:Nat} (hk:k<n.fs.length):fibOk (fbA n k) n.ns.length=true:=by
 have:=(netOk_yes h).2.2.2.2 k hk
 unfold fbOk at this
 simp only[Bool.and_eq_true] at this
 exact this.1
/-! ### Routes -/
theorem othE_in {n:Net} (h:netOk n=true) {k:Nat} (hk:k<n.fs.length) {t:Int} (ht:¬othE (fbA n k) t<0):0≤othE (fbA n k) t∧othE (fbA n k) t<n.ns.length:=by
 have hp:=fibOk_parts (fb_at h hk)
 unfold othE at ht ⊢
 split
 · omega
 · split
   · omega
   · rename_i h1 h2
     rw[if_neg h1,if_neg h2] at ht
     omega
theorem wlk_facts {n:Net} (h:netOk n=true):∀{xs:List Int} {out:List Int} {t:Int} {nd:List Int},wlk n out t xs=some nd→(∀y∈out,0≤y∧y<n.ns.length)→
 nd.length=out.length+xs.length∧(∀y∈nd,0≤y∧y<n.ns.length)∧(∀x∈xs,0≤x∧x<n.fs.length)
 | [],out,t,nd,hw,ho=>by
   simp only[wlk,Option.some.injEq] at hw
   subst hw
   exact⟨rfl,ho,fun x hx=>by cases hx⟩
 | i::is,out,t,nd,hw,ho=>by
   rw[wlk] at hw
   cases hi:inB i 0 ((n.fs.length:Int)-1)
   · rw[hi] at hw;simp at hw
   · rw[hi] at hw
     simp only[if_true] at hw
     split at hw
     · cases hw
     · rename_i hc
       have hb:=inB_true hi
       have hx:=othE_in h (k:=i.toNat) (by omega) (t:=t) (fun e=>hc (.inl e))
       have:=wlk_facts h hw (fun y hy=>by
        rcases List.mem_append.1 hy with h1 | h1
        · exact ho y h1
        · rw[List.mem_singleton.1 h1];exact hx)
       refine⟨by rw[this.1];simp;omega,this.2.1,fun x hx=> ?_⟩
       rcases List.mem_cons.1 hx with rfl | h1
       · omega
       · exact this.2.2 x h1
theorem wlk_head {n:Net} :∀{xs:List Int} {x:Int} {out:List Int} {t:Int} {nd:List Int},wlk n (x::out) t xs=some nd→nd[0]?= some x
 | [],x,out,t,nd,hw=>by
   simp only[wlk,Option.some.injEq] at hw
   subst hw;rfl
 | i::is,x,out,t,nd,hw=>by
   rw[wlk] at hw
   split at hw
   · split at hw
     · cases hw
     · exact wlk_head hw
   · cases hw
theorem rou_facts {n:Net} (h:netOk n=true) {r:Rou} {nd:List Int} (hr:rouN n r=some nd):nd.length=r.fb.length+1∧0≤r.st∧r.st<n.ns.length∧nd[0]?= some r.st∧
 (∀k:Nat,k<nd.length→0≤nd[k]?.getD 0∧nd[k]?.getD 0<n.ns.length)∧(∀k:Nat,k<r.fb.length→0≤r.fb[k]?.getD 0∧r.fb[k]?.getD 0<n.fs.length):=by
 unfold rouN at hr
 split at hr
 · rename_i hc
   simp only[Bool.and_eq_true] at hc
   have hb:=inB_true hc.1
   have h1:=wlk_facts h hr (fun y hy=>by rw[List.mem_singleton.1 hy];omega)
   refine⟨by rw[h1.1];simp;omega,by omega,by omega,?_,fun k hk=> ?_,fun k hk=> ?_⟩
   · exact wlk_head hr
   · rw[List.getElem?_eq_getElem hk];exact h1.2.1 _ (List.getElem_mem hk)
   · rw[List.getElem?_eq_getElem hk];exact h1.2.2 _ (List.getElem_mem hk)
 · cases hr
theorem demOk_parts {d:Dem} {m:Nat} (h:demOk d m=true):inB d.a 0 ((m:Int)-1)=true∧d.a≠d.b:=by
 unfold demOk at h
 simp only[Bool.and_eq_true,bne_iff_ne,ne_eq] at h
 exact⟨h.1.1.1.1,h.1.1.2⟩
/-! ### The routes of the search are routes -/
theorem extR_wlk {n:Net} {tt:Int} :∀{f:Nat} {t:Int} {seen fb r:List Int},r∈extR n tt f t seen fb→ ∃tl,r=fb++tl∧(wlk n seen t tl).isSome=true∧(tl=[]→t=tt)
 | 0,_,_,_,_,h=>by simp[extR] at h
 | f+1,t,seen,fb,r,h=>by
   rw[extR] at h
   split at h
   · rename_i ht
     simp at h
     exact⟨[],by simp[h],rfl,fun _=>ht⟩
   · obtain⟨i,hi,hm⟩:=List.mem_flatMap.1 h
     have hi:=List.mem_range.1 hi
     split at hm
     · rename_i hc
       obtain⟨tl,e,hw,-⟩:=extR_wlk hm
       refine⟨(i:Int)::tl,by rw[e];simp,?_,fun e=>by cases e⟩
       have hin:inB (i:Int) 0 ((n.fs.length:Int)-1)=true:=inB_mk (by omega) (by omega)
       rw[wlk,if_pos hin,Int.toNat_natCast,if_neg (fun hh=>hh.elim (fun x=>by omega) hc.2)]
       exact hw
     · cases hm
theorem allR_mem {n:Net} {a b:Int} {r:List Int} (h:r∈allR n a b):r∈extR n b (n.ns.length+1) a [a] []:=by
 unfold allR feedR at h
 have key:∀(M L:List (List Int)),r∈M.foldl (insR n) L→r∈L∨r∈M:=by
  intro M
  induction M with
  | nil=>intro L h;exact .inl h
  | cons m M ih=>
    intro L h
    rcases ih _ h with h | h
    · rcases List.mem_cons.1 ((insR_perm n L m).mem_iff.1 h) with e | e
      · exact .inr (by simp[e])
      · exact .inl e
    · exact .inr (by simp[h])
 rcases key _ _ h with h | h
 · cases h
 · exact List.mem_of_mem_take h
theorem allR_rou {n:Net} {a b:Int} {r:List Int} (h:r∈allR n a b) (ha:inB a 0 ((n.ns.length:Int)-1)=true) (hab:a≠b):rouOk n ⟨a,r⟩=true:=by
 obtain⟨tl,e,hw,ht⟩:=extR_wlk (allR_mem h)
 rw[List.nil_append] at e
 subst e
 have hne:r≠[]:=fun e=>hab (ht e)
 unfold rouOk rouN
 have:r.isEmpty=false:=by simpa using hne
 rw[ha,this]
 exact hw
theorem usaR_mem {n:Net} {fs:List Fmt} {d:Dem} {u:List Int × Int} (h:u∈usaR n fs d):u.1∈allR n d.a d.b∧1≤u.2∧u.2≤24:=by
 unfold usaR at h
 obtain⟨fb,h1,h2⟩:=List.mem_filterMap.1 h
 split at h2
 · rename_i hc
   cases h2
   exact⟨h1,by omega,slI_le _ _ _⟩
 · cases h2
theorem pick_in {n:Net} {fs:List Fmt} {d:Dem} {ls:List Lgt} {u:(List Int × Int) × Nat} (h:pickU n fs d ls=some u):u.1∈usaR n fs d∧okU ls u.1=true:=by
 have hb:=scanS_some (Nat.le_refl _) h
 exact⟨List.mem_of_getElem? (tag_take.1 hb.1).2,hb.2.1⟩
theorem meets_comm (xs ys:List Int):meets xs ys=meets ys xs:=by
 have key:∀xs ys:List Int,meets xs ys=true→meets ys xs=true:=fun xs ys h=>by
  unfold meets at h ⊢
  obtain⟨i,h1,h2⟩:=List.any_eq_true.1 h
  exact List.any_eq_true.2 ⟨i,by simpa using h2,by simpa using h1⟩
 cases h1:meets xs ys
 · cases h2:meets ys xs
   · rfl
   · rw[key _ _ h2] at h1;cases h1
 · rw[key _ _ h1]
theorem collB_comm (x y:Lgt):collB x y=collB y x:=by
 unfold collB hitB
 rw[meets_comm]
 congr 1
 exact decide_eq_decide.2 ⟨fun h=>⟨h.2,h.1⟩,fun h=>⟨h.2,h.1⟩⟩
theorem new_ok {n:Net} {fs:List Fmt} {d:Dem} {ls:List Lgt} {u:(List Int × Int) × Nat} {id:Int} (h:pickU n fs d ls=some u) (hd:demOk d n.ns.length=true) (hid:1≤id∧id≤999) (hls:∀x∈ls,lgtOk n x=true):
 lgtOk n (lgtU ls id d.a u.1)=true∧ ∀x∈ls,collB x (lgtU ls id d.a u.1)=false:=by
 obtain⟨hu,ho⟩:=pick_in h
 obtain⟨h1,h2,h3⟩:=usaR_mem hu
 have hdp:=demOk_parts hd
 obtain⟨c,hc⟩:=Int.eq_ofNat_of_zero_le (show 0≤u.1.2 by omega)
 have hne:fitU ls u.1≠[]:=by
  unfold okU at ho
  simpa using ho
 obtain⟨f,T,hf⟩:∃f T,fitU ls u.1=f::T:=by
  cases hq:fitU ls u.1 with
  | nil=>exact absurd hq hne
  | cons f T=>exact⟨f,T,rfl⟩
 have hfm:f∈fitU ls u.1:=by rw[hf];exact List.mem_cons_self
 unfold fitU fitsN at hfm
 obtain⟨hfr,hfz⟩:=List.mem_filter.1 hfm
 have hfr:=List.mem_range.1 hfr
 have hfz:alongN ls u.1.1 &&& mskN f u.1.2.toNat=0:=by simpa using hfz
 have hct:u.1.2.toNat=c:=by rw[hc];rfl
 rw[hct] at hfz hfr
 have e:lgtU ls id d.a u.1=⟨id,d.a,u.1.1,f,c⟩:=by unfold lgtU;rw[hf,hc];rfl
 rw[e]
 refine⟨?_,fun x hx=> ?_⟩
 · unfold lgtOk blkOk
   rw[allR_rou h1 hdp.1 hdp.2,inB_mk hid.1 hid.2,inB_mk (show(1:Int)≤c by omega) (show(c:Int)≤24 by omega)]
   rw[decide_eq_true (show(0:Int)≤(f:Int) by omega),decide_eq_true (show(f:Int)≤24-(c:Int) by omega)]
   rfl
 · unfold collB
   cases hm:meets x.fb u.1.1
   · simp
   · have h0:=fits_apart hfz hx hm
     have hxo:=hls x hx
     unfold lgtOk at hxo
     simp only[Bool.and_eq_true] at hxo
     have hb:=blkOk_bd hxo.2
     have:=(mskN_meet x.fi.toNat x.ct.toNat f c (by omega) (by omega)).1 h0
     rw[Bool.and_true]
     unfold hitB
     exact decide_eq_false fun hh=>this ⟨by have:=hh.1;simp only at this;omega,by have:=hh.2;simp only at this;omega⟩
abbrev gwA (gs:List Gro) (j:Nat):Gro:=gs[j]?.getD nilG
def began (gs:List Gro) (t:Int) (i j:Nat):Prop:=(gwA gs j).s<t∨((gwA gs j).s=t∧j<i)
structure RunOk (n:Net) (gs:List Gro) (t:Int) (i:Nat) (r:PRun):Prop where
 srt:r.ls.Pairwise fun x y=>x.id<y.id
 apt:r.ls.Pairwise fun x y=>collB x y=false
 ok:∀x∈r.ls,lgtOk n x=true
 ids:∀x∈r.ls,∃j:Nat,j<gs.length∧x.id=(j:Int)+1∧(j:Int) ∉ r.bl∧t≤(gwA gs j).e∧began gs t i j
 all:∀j:Nat,j<gs.length→began gs t i j→t≤(gwA gs j).e→(j:Int) ∉ r.bl→ ∃x∈r.ls,x.id=(j:Int)+1
 bls:∀b∈r.bl,∃j:Nat,j<gs.length∧b=(j:Int)∧began gs t i j
def GrsP (n:Net) (gs:List Gro):Prop:=gs.length≤12∧ ∀j,j<gs.length→demOk (gwA gs j).d n.ns.length=true∧0≤(gwA gs j).s∧(gwA gs j).s≤(gwA gs j).e∧(gwA gs j).e<8
theorem grsOk_parts {n:Net} {gs:List Gro} (h:grsOk n gs=true):netOk n=true∧GrsP n gs:=by
 unfold grsOk at h
 simp only[Bool.and_eq_true,decide_eq_true_eq,Bool.not_eq_true',List.any_eq_false] at h
 refine⟨h.1.1,h.1.2,fun j hj=> ?_⟩
 have:=h.2 gs[j] (List.getElem_mem hj)
 unfold gwA
 rw[List.getElem?_eq_getElem hj,Option.getD_some]
 unfold groOk at this
 simp only[Bool.not_eq_false,Bool.and_eq_true,decide_eq_true_eq] at this
 have hb:=inB_true this.1.2
 exact⟨this.1.1,hb.1,hb.2,this.2⟩
theorem RunOk.start {n:Net} {gs:List Gro} (hg:GrsP n gs):RunOk n gs 0 0 ⟨[],[]⟩:=
 ⟨List.Pairwise.nil,List.Pairwise.nil,(fun x hx=>by cases hx),(fun x hx=>by cases hx),(fun j hj hb=>by
  have:=hg.2 j hj
  unfold began at hb;omega),(fun b hb=>by cases hb)⟩
/-! ### A light is taken out -/
theorem eraseP_mem {ls:List Lgt} (h:ls.Pairwise fun x y=>x.id<y.id) (c:Int) {x:Lgt} :x∈ls.eraseP (fun x=>decide (x.id=c))↔x∈ls∧x.id≠c:=by
 induction ls with
 | nil=>simp
 | cons y ls ih=>
   obtain⟨h1,h2⟩:=List.pairwise_cons.1 h
   by_cases e:y.id=c
   · rw[List.eraseP_cons_of_pos (by simp[e])]
     constructor
     · intro hx;exact⟨by simp[hx],by have:=h1 x hx;omega⟩
     · rintro⟨hx,hne⟩
       rcases List.mem_cons.1 hx with rfl | hx
       · exact absurd e hne
       · exact hx
   · rw[List.eraseP_cons_of_neg (by simp[e]),List.mem_cons,ih h2]
     constructor
     · rintro(rfl | ⟨hx,hne⟩)
       · exact⟨by simp,e⟩
       · exact⟨by simp[hx],hne⟩
     · rintro⟨hx,hne⟩
       rcases List.mem_cons.1 hx with rfl | hx
       · exact .inl rfl
       · exact .inr ⟨hx,hne⟩
theorem delA_sub (gs:List Gro) (t:Int) (ls:List Lgt):∀k,List.Sublist (delA gs t ls k) ls
 | 0=>by simp[delA]
 | k+1=>by
   rw[delA_step,delP]
   split
   · exact List.Sublist.trans List.eraseP_sublist (delA_sub gs t ls k)
   · exact delA_sub gs t ls k
theorem delA_mem {gs:List Gro} {t:Int} {ls:List Lgt} (h:ls.Pairwise fun x y=>x.id<y.id) {x:Lgt} :∀{k:Nat},x∈delA gs t ls k↔x∈ls∧ ∀j,j<k→ ¬(x.id=(j:Int)+1∧(gwA gs j).e=t-1)
 | 0=>by simp[delA]
 | k+1=>by
   rw[delA_step,delP]
   have ih:=delA_mem (gs:=gs) (t:=t) h (x:=x) (k:=k)
   have hs:=List.Pairwise.sublist (delA_sub gs t ls k) h
   split
   · rename_i he
     rw[eraseP_mem hs,ih]
     constructor
     · rintro⟨⟨a,b⟩,c⟩
       refine⟨a,fun j hj=> ?_⟩
       by_cases e:j=k
       · subst e;exact fun hh=>c hh.1
       · exact b j (by omega)
     · rintro⟨a,b⟩
       exact⟨⟨a,fun j hj=>b j (by omega)⟩,fun hh=>b k (by omega) ⟨hh,he⟩⟩
   · rename_i he
     rw[ih]
     constructor
     · rintro⟨a,b⟩
       refine⟨a,fun j hj=> ?_⟩
       by_cases e:j=k
       · subst e;exact fun hh=>he hh.2
       · exact b j (by omega)
     · rintro⟨a,b⟩
       exact⟨a,fun j hj=>b j (by omega)⟩
theorem RunOk.next {n:Net} {gs:List Gro} {t:Int} {r:PRun} (h:RunOk n gs t gs.length r):RunOk n gs (t+1) 0 ⟨delA gs (t+1) r.ls gs.length,r.bl⟩:=by
 have hsub:=delA_sub gs (t+1) r.ls gs.length
 have hmem:=fun x=>@delA_mem gs (t+1) r.ls h.srt x gs.length
 refine⟨List.Pairwise.sublist hsub h.srt,List.Pairwise.sublist hsub h.apt,fun x hx=>h.ok x (hsub.subset hx),fun x hx=> ?_,fun j hj hb he hn=> ?_,fun b hb=> ?_⟩
 · obtain⟨hx1,hx2⟩:=(hmem x).1 hx
   obtain⟨j,hj,e,hn,he,hb⟩:=h.ids x hx1
   have:=hx2 j hj
   refine⟨j,hj,e,hn,?_,?_⟩
   · have:¬(gwA gs j).e=t:=fun hh=>this ⟨e,by omega⟩
     omega
   · unfold began at hb ⊢;omega
 · have hb2:began gs t gs.length j:=by unfold began at hb ⊢;omega
   obtain⟨x,hx,e⟩:=h.all j hj hb2 (by omega) hn
   refine⟨x,(hmem x).2 ⟨hx,fun i hi hh=> ?_⟩,e⟩
   have:i=j:=by omega
   subst this
   omega
 · obtain⟨j,hj,e,hb2⟩:=h.bls b hb
   exact⟨j,hj,e,by unfold began at hb2 ⊢;omega⟩
/-! ### A light is put in -/
theorem putL_perm (ls:List Lgt) (x:Lgt):(putL ls x).Perm (x::ls):=by
 unfold putL
 have:=List.perm_middle (a:=x) (l₁:=ls.takeWhile (fun y=>decide (y.id<x.id))) (l₂:=ls.dropWhile (fun y=>decide (y.id<x.id)))
 rwa [List.takeWhile_append_dropWhile] at this
theorem drop_ge {ls:List Lgt} (h:ls.Pairwise fun x y=>x.id<y.id) (c:Int):∀y∈ls.dropWhile (fun y=>decide (y.id<c)),c≤y.id:=by
 induction ls with
 | nil=>intro y hy;cases hy
 | cons z ls ih=>
   obtain⟨h1,h2⟩:=List.pairwise_cons.1 h
   intro y hy
   by_cases e:z.id<c
   · rw[List.dropWhile_cons_of_pos (by simp[e])] at hy
     exact ih h2 y hy
   · rw[List.dropWhile_cons_of_neg (by simp[e])] at hy
     rcases List.mem_cons.1 hy with rfl | hy
     · omega
     · have:=h1 y hy;omega
theorem take_lt (ls:List Lgt) (c:Int):∀y∈ls.takeWhile (fun y=>decide (y.id<c)),y.id<c:=by
 induction ls with
 | nil=>intro y hy;cases hy
 | cons z ls ih=>
   intro y hy
   by_cases e:z.id<c
   · rw[List.takeWhile_cons_of_pos (by simp[e])] at hy
     rcases List.mem_cons.1 hy with rfl | hy
     · exact e
     · exact ih y hy
   · rw[List.takeWhile_cons_of_neg (by simp[e])] at hy
     cases hy
theorem putL_srt {ls:List Lgt} {x:Lgt} (h:ls.Pairwise fun x y=>x.id<y.id) (hx:∀y∈ls,y.id≠x.id):(putL ls x).Pairwise fun x y=>x.id<y.id:=by
 unfold putL
 have hd:=drop_ge h x.id
 have ht:=take_lt ls x.id
 have hdm:∀y∈ls.dropWhile (fun y=>decide (y.id<x.id)),x.id<y.id:=fun y hy=>by
  have h1:=hd y hy
  have h2:=hx y ((List.dropWhile_sublist _).subset hy)
  omega
 refine List.pairwise_append.2 ⟨List.Pairwise.sublist (List.takeWhile_sublist _) h,List.pairwise_cons.2 ⟨hdm,List.Pairwise.sublist (List.dropWhile_sublist _) h⟩,fun a ha b hb=> ?_⟩
 have h1:=ht a ha
 rcases List.mem_cons.1 hb with rfl | hb
 · exact h1
 · have:=hdm b hb;omega
theorem RunOk.step {n:Net} {fs:List Fmt} {gs:List Gro} (hg:GrsP n gs) {t:Int} {i:Nat} {r r2:PRun} (hi:i<gs.length) (h:RunOk n gs t i r) (ht:addP n fs gs t (some r) i=some r2):RunOk n gs t (i+1) r2:=by
 have hgi:=hg.2 i hi
 have hg12:=hg.1
 unfold addP at ht
 simp only at ht
 have up:∀j,began gs t i j→began gs t (i+1) j:=fun j hb=>by unfold began at hb ⊢;omega
 have nb:∀j,began gs t i j→(gwA gs i).s=t→j≠i:=fun j hb hs e=>by subst e;unfold began at hb;omega
 split at ht
 · rename_i hs
   cases ht
   have dn:∀j,began gs t (i+1) j→began gs t i j:=fun j hb=>by
    unfold began at hb ⊢
    by_cases e:j=i
    · subst e;exact .inl (by have:=hs;unfold gwA at hb ⊢;omega)
    · omega
   exact⟨h.srt,h.apt,h.ok,fun x hx=>by obtain⟨j,a,b,c,d,e⟩:=h.ids x hx;exact⟨j,a,b,c,d,up j e⟩,fun j hj hb=>h.all j hj (dn j hb),fun b hb=>by obtain⟨j,a,e,c⟩:=h.bls b hb;exact⟨j,a,e,up j c⟩⟩
 · rename_i hs
   have hs:(gwA gs i).s=t:=Classical.not_not.1 hs
   split at ht
   · cases ht
   · split at ht
     · rename_i u hu
       cases ht
       obtain⟨k1,k2⟩:=new_ok (id:=(i:Int)+1) hu hgi.1 (by omega) h.ok
       have hp:=putL_perm r.ls (lgtU r.ls ((i:Int)+1) (gwA gs i).d.a u.1)
       have hid:(lgtU r.ls ((i:Int)+1) (gwA gs i).d.a u.1).id=(i:Int)+1:=rfl
       generalize lgtU r.ls ((i:Int)+1) (gwA gs i).d.a u.1=x at *
       have hne:∀y∈r.ls,y.id≠x.id:=fun y hy e=>by
        obtain⟨j,hj,ej,_,_,hb⟩:=h.ids y hy
        exact nb j hb hs (by omega)
       have hib:(i:Int) ∉ r.bl:=fun hb=>by
        obtain⟨j,hj,ej,hb2⟩:=h.bls _ hb
        exact nb j hb2 hs (by omega)
       have hbi:began gs t (i+1) i:= .inr ⟨hs,by omega⟩
       refine⟨putL_srt h.srt hne,?_,fun y hy=> ?_,fun y hy=> ?_,fun j hj hb he hn=> ?_,fun b hb=> ?_⟩
       · refine(List.Perm.pairwise_iff (fun {a b} hh=>by rw[collB_comm];exact hh) hp).2 (List.pairwise_cons.2 ⟨fun y hy=> ?_,h.apt⟩)
         rw[collB_comm];exact k2 y hy
       · rcases List.mem_cons.1 (hp.mem_iff.1 hy) with rfl | hy
         · exact k1
         · exact h.ok y hy
       · rcases List.mem_cons.1 (hp.mem_iff.1 hy) with rfl | hy
         · exact⟨i,hi,hid,hib,by omega,hbi⟩
         · obtain⟨j,a,b,c,d,e⟩:=h.ids y hy
           exact⟨j,a,b,c,d,up j e⟩
       · by_cases e:j=i
         · subst e;exact⟨x,hp.mem_iff.2 (by simp),hid⟩
         · obtain⟨y,hy,ey⟩:=h.all j hj (by unfold began at hb ⊢;omega) he hn
           exact⟨y,hp.mem_iff.2 (by simp[hy]),ey⟩
       · obtain⟨j,a,e,c⟩:=h.bls b hb
         exact⟨j,a,e,up j c⟩
     · cases ht
       refine⟨h.srt,h.apt,h.ok,fun y hy=> ?_,fun j hj hb he hn=> ?_,fun b hb=> ?_⟩
       · obtain⟨j,a,b,c,d,e⟩:=h.ids y hy
         have:=nb j e hs
         exact⟨j,a,b,by simp[c];omega,d,up j e⟩
       · simp only[List.mem_append,List.mem_singleton,not_or] at hn
         exact h.all j hj (by unfold began at hb ⊢;omega) he hn.1
       · rcases List.mem_append.1 hb with hb | hb
         · obtain⟨j,a,e,c⟩:=h.bls b hb
           exact⟨j,a,e,up j c⟩
         · simp at hb
           exact⟨i,hi,hb,.inr ⟨hs,by omega⟩⟩
theorem addP_bl {n:Net} {fs:List Fmt} {gs:List Gro} {t:Int} {i:Nat} {r r2:PRun} (h:addP n fs gs t (some r) i=some r2):r2.bl=r.bl∨(r2.bl=r.bl++[(i:Int)]∧(gwA gs i).s=t):=by
 unfold addP at h
 simp only at h
 split at h
 · cases h;exact .inl rfl
 · rename_i hs
   split at h
   · cases h
   · split at h
     · cases h;exact .inl rfl
     · cases h;exact .inr ⟨rfl,Classical.not_not.1 hs⟩
theorem addA_ok {n:Net} {fs:List Fmt} {gs:List Gro} (hg:GrsP n gs) {t:Int} {r:PRun} (h0:RunOk n gs t 0 r):∀{i:Nat} {r2:PRun},i≤gs.length→addA n fs gs t (some r) i=some r2→RunOk n gs t i r2∧ ∃tl,r2.bl=r.bl++tl∧ ∀b∈tl,∃j:Nat,j<gs.length∧b=(j:Int)∧(gwA gs j).s=t
 | 0,r2,_,h=>by
   unfold addA at h
   simp at h
   subst h
   exact⟨h0,[],by simp,fun b hb=>by cases hb⟩
 | i+1,r2,hi,h=>by
   rw[addA_step] at h
   cases h1:addA n fs gs t (some r) i with
   | none=>rw[h1] at h;cases h
   | some r1=>
     rw[h1] at h
     obtain⟨a,tl,e,hb⟩:=addA_ok hg h0 (by omega) h1
     refine⟨RunOk.step hg (by omega) a h,?_⟩
     rcases addP_bl h with e2 | ⟨e2,hs⟩
     · exact⟨tl,by rw[e2,e],hb⟩
     · refine⟨tl++[(i:Int)],by rw[e2,e,List.append_assoc],fun b hbm=> ?_⟩
       rcases List.mem_append.1 hbm with hbm | hbm
       · exact hb b hbm
       · simp at hbm
         exact⟨i,by omega,hbm,hs⟩
theorem runP_all {n:Net} {fs:List Fmt} {gs:List Gro} (hg:GrsP n gs):∀{k:Nat} {ps:List (List Lgt)} {r:PRun},runP n fs gs k=some (ps,r)→
 RunOk n gs k 0 ⟨delA gs k r.ls gs.length,r.bl⟩∧ ∀t:Nat,t<k→ ∃rt:PRun,ps[t]?= some rt.ls∧RunOk n gs t gs.length rt∧ ∃tl,r.bl=rt.bl++tl∧ ∀b∈tl,∃j:Nat,j<gs.length∧b=(j:Int)∧(t:Int)<(gwA gs j).s
 | 0,ps,r,h=>by
   rw[runP] at h
   cases h
   refine⟨?_,fun t ht=>by omega⟩
   have e:delA gs ((0:Nat):Int) [] gs.length=[]:=List.eq_nil_of_sublist_nil (delA_sub gs _ [] gs.length)
   simp only
   rw[e]
   exact RunOk.start hg
 | k+1,ps,r,h=>by
   rw[runP] at h
   split at h
   · cases h
   · rename_i ps0 r0 h0
     split at h
     · cases h
     · rename_i r2 h2
       cases h
       obtain⟨a,b⟩:=runP_all hg h0
       unfold perP at h2
       obtain⟨c,tl,e,hb⟩:=addA_ok hg a (Nat.le_refl _) h2
       have hl:=runP_len h0
       refine⟨by have:=RunOk.next c;push_cast;exact this,fun t ht=> ?_⟩
       by_cases hk:t=k
       · subst hk
         exact⟨r,by rw[List.getElem?_append_right (by omega),hl];simp,c,[],by simp,fun b hb=>by cases hb⟩
       · obtain⟨rt,x1,x2,tl2,x3,x4⟩:=b t (by omega)
         refine⟨rt,by rw[List.getElem?_append_left (by omega)];exact x1,x2,tl2++tl,by rw[e];simp only;rw[x3,List.append_assoc],fun b hbm=> ?_⟩
         rcases List.mem_append.1 hbm with hbm | hbm
         · exact x4 b hbm
         · obtain⟨j,y1,y2,y3⟩:=hb b hbm
           exact⟨j,y1,y2,by omega⟩
theorem asc_len:∀{xs:List Int} {lo m:Int},xs.Pairwise (· < ·)→(∀x∈xs,lo≤x∧x≤m)→lo≤m+1→(xs.length:Int)≤m-lo+1
 | [],lo,m,_,_,h=>by simp;omega
 | x::xs,lo,m,h,hb,hm=>by
   obtain⟨h1,h2⟩:=List.pairwise_cons.1 h
   have hx:=hb x (by simp)
   have:=asc_len (lo:=x+1) (m:=m) h2 (fun y hy=>⟨by have:=h1 y hy;omega,(hb y (by simp[hy])).2⟩) (by omega)
   simp only[List.length_cons];push_cast;omega
theorem RunOk.len {n:Net} {gs:List Gro} {t:Int} {i:Nat} {r:PRun} (hg:GrsP n gs) (h:RunOk n gs t i r):r.ls.length≤12:=by
 have hp:(r.ls.map (·.id)).Pairwise (· < ·):=List.pairwise_map.2 h.srt
 have:=asc_len (lo:=1) (m:=gs.length) hp (fun x hx=>by
  obtain⟨y,hy,rfl⟩:=List.mem_map.1 hx
  obtain⟨j,hj,e,_⟩:=h.ids y hy
  omega) (by omega)
 rw[List.length_map] at this
 have:=hg.1
 omega
theorem RunOk.pln {n:Net} {gs:List Gro} {t:Int} {i:Nat} {r:PRun} (hn:netOk n=true) (hg:GrsP n gs) (h:RunOk n gs t i r):plnOk ⟨n,r.ls⟩=true:=by
 unfold plnOk
 simp only
 rw[hn,decide_eq_true (h.len hg),Bool.true_and,Bool.true_and,List.all_eq_true]
 intro k hk
 have hk:=List.mem_range.1 hk
 have ek:lgA ⟨n,r.ls⟩ k=r.ls[k]:=by unfold lgA;simp only;rw[List.getElem?_eq_getElem hk];rfl
 unfold ltOk
 rw[ek]
 simp only
 rw[h.ok _ (List.getElem_mem hk),Bool.true_and]
 have h1:(decide (0<k)&&decide (r.ls[k].id≤(lgA ⟨n,r.ls⟩ (k-1)).id))=false:=by
  by_cases k0:0<k
  · have ek1:lgA ⟨n,r.ls⟩ (k-1)=r.ls[k-1]:=by unfold lgA;simp only;rw[List.getElem?_eq_getElem (by omega)];rfl
    rw[ek1]
    have:=List.pairwise_iff_getElem.1 h.srt (k-1) k (by omega) hk (by omega)
    rw[decide_eq_false (by omega:¬r.ls[k].id≤r.ls[k-1].id),Bool.and_false]
  · rw[decide_eq_false k0,Bool.false_and]
 rw[h1]
 have h2:(r.ls.take k).any (fun y=>collB y r.ls[k])=false:=by
  rw[List.any_eq_false]
  intro y hy
  obtain⟨j,hj,e⟩:=List.getElem_of_mem hy
  rw[List.length_take] at hj
  rw[List.getElem_take] at e
  have:=List.pairwise_iff_getElem.1 h.apt j k (by omega) hk (by omega)
  rw[←e,this];simp
 rw[h2];rfl
theorem runP_pln {n:Net} {fs:List Fmt} {gs:List Gro} (hn:netOk n=true) (hg:GrsP n gs) {k:Nat} {ps:List (List Lgt)} {r:PRun} (h:runP n fs gs k=some (ps,r)) {t:Nat} (ht:t<k) {ls:List Lgt} (hl:ps[t]?= some ls):plnOk ⟨n,ls⟩=true:=by
 obtain⟨rt,e1,hr,-⟩:=(runP_all hg h).2 t ht
 rw[e1] at hl
 cases hl
 exact hr.pln hn hg
end Go.Proofs.YtofcicomhnkocaaGreat
