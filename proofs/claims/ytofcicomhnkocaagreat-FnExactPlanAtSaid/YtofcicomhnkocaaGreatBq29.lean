/- Joined: XOpn XOpf XOpg. -/
import Derived.Test.YtofcicomhnkocaaGreatBq03
import Derived.Test.YtofcicomhnkocaaGreatBq04
set_option linter.unusedVariables false
namespace Go.Proofs.YtofcicomhnkocaaGreat
set_option maxHeartbeats 200000
open Go.RowKit Go.WideShapes
set_option maxRecDepth 100000
section
variable {H : Type} {enc : TypeId × Value → H} {P : Program} {w : World}
def Reads (w:World) (cs:List Value) (ds:List Dt):Prop:=cs.length=ds.length∧ ∀(r:Nat) (d:Dt),ds[r]?= some d→ ∃u,cs[r]?= some u∧Rwt w d u
theorem Reads.join {cs:List Value} {A B:List Dt} {k:Nat} (hk:k≤cs.length) (hA:Reads w (cs.take k) A) (hB:Reads w (cs.drop k) B):Reads w cs (A++B):=by
 obtain⟨a1,a2⟩:=hA
 obtain⟨b1,b2⟩:=hB
 rw[List.length_take,Nat.min_eq_left hk] at a1
 rw[List.length_drop] at b1
 refine⟨by rw[List.length_append];omega,fun r d hr=> ?_⟩
 by_cases h:r<A.length
 · rw[List.getElem?_append_left h] at hr
   obtain⟨u,h1,h2⟩:=a2 r d hr
   rw[List.getElem?_take] at h1
   split at h1
   · exact⟨u,h1,h2⟩
   · cases h1
 · rw[List.getElem?_append_right (by omega)] at hr
   obtain⟨u,h1,h2⟩:=b2 _ d hr
   rw[List.getElem?_drop,show k+(r-A.length)=r by omega] at h1
   exact⟨u,h1,h2⟩
theorem opens_map' {t:TypeId} {α β:Type} {F:α→List Dt} {G:β→List Dt} (h:Opens enc P w t F) (g:α→β) (e:∀a,G (g a)=F a):Opens enc P w t G:=fun fuel cs x hx=>by
 obtain⟨a,h1,h2⟩:=h fuel cs x hx
 exact⟨g a,by rw[e];exact h1,by rw[e];exact h2⟩
theorem opens_str {t:TypeId} (ht:P.underlying t=some .string):Opens enc P w t (fun s:{s:ByteArray // s.size≤maxLen} =>[.leaf (.string s.1)]):=fun fuel cs x h=>by
 obtain⟨s,rfl,_,hs⟩:=DataW.trod_string ht h
 refine⟨⟨s,hs⟩,rfl,fun r d hr=> ?_⟩
 match r with
 | 0=>simp at hr;subst hr;exact⟨_,rfl,.leaf _⟩
 | r+1=>simp at hr
theorem opens_bool {t:TypeId} (ht:P.underlying t=some .bool):Opens enc P w t (fun b:Bool=>[.leaf (.bool b)]):=fun fuel cs x h=>by
 obtain⟨b,rfl,_⟩:=DataW.trod_bool ht h
 refine⟨b,rfl,fun r d hr=> ?_⟩
 match r with
 | 0=>simp at hr;subst hr;exact⟨_,rfl,.leaf _⟩
 | r+1=>simp at hr
theorem opens_fld {t:TypeId} {α:Type} {F:α→List Dt} (h:Opens enc P w t F) {fuel:Nat} {cs:List Value} {x:DataW H × List MemPlace} (hx:DataW.trod enc P w 0 (fun _=>true) true fuel t cs=some x):∃a,Reads w cs (F a):=h fuel cs x hx
theorem opens_struct2 {t:TypeId} {f0 f1:Field} {α β:Type} {F0:α→List Dt} {F1:β→List Dt} {k0 k1:Nat} (ht:P.underlying t=some (.struct #[f0,f1])) (hC:P.cellsOf t=k0+k1)
 (o0:f0.offset=0) (o1:f1.offset=k0) (c0:P.cellsOf f0.type=k0) (c1:P.cellsOf f1.type=k1)
 (h0:Opens enc P w f0.type F0) (h1:Opens enc P w f1.type F1):Opens enc P w t (fun p:α × β=>F0 p.1++F1 p.2):=fun fuel cs x h=>by
 obtain⟨xs,n,rfl,rfl,hl,hxl,hf⟩:=DataW.trod_struct ht h
 rw[hC] at hl
 have hx2:xs.length=2:=by simpa using hxl
 match xs,hx2 with
 | [y0,y1],_=>
   have g0:=hf 0 f0 rfl
   have g1:=hf 1 f1 rfl
   rw[o0,c0] at g0
   rw[o1,c1] at g1
   obtain⟨a,ra⟩:=opens_fld h0 (show DataW.trod enc P w 0 (fun _=>true) true n f0.type ((cs.drop 0).take k0)=some y0 from g0)
   obtain⟨b,rb⟩:=opens_fld h1 (show DataW.trod enc P w 0 (fun _=>true) true n f1.type ((cs.drop k0).take k1)=some y1 from g1)
   rw[List.drop_zero] at ra
   rw[List.take_of_length_le (by rw[List.length_drop];omega)] at rb
   exact⟨(a,b),Reads.join (by omega) ra rb⟩
theorem opens_struct3' {t:TypeId} {f0 f1 f2:Field} {α β γ:Type} {F0:α→List Dt} {F1:β→List Dt} {F2:γ→List Dt} {k0 k1 k2:Nat} (ht:P.underlying t=some (.struct #[f0,f1,f2])) (hC:P.cellsOf t=k0+(k1+k2))
 (o0:f0.offset=0) (o1:f1.offset=k0) (o2:f2.offset=k0+k1) (c0:P.cellsOf f0.type=k0) (c1:P.cellsOf f1.type=k1) (c2:P.cellsOf f2.type=k2)
 (h0:Opens enc P w f0.type F0) (h1:Opens enc P w f1.type F1) (h2:Opens enc P w f2.type F2):Opens enc P w t (fun p:α × β × γ=>F0 p.1++(F1 p.2.1++F2 p.2.2)):=fun fuel cs x h=>by
 obtain⟨xs,n,rfl,rfl,hl,hxl,hf⟩:=DataW.trod_struct ht h
 rw[hC] at hl
 have hx2:xs.length=3:=by simpa using hxl
 match xs,hx2 with
 | [y0,y1,y2],_=>
   have g0:=hf 0 f0 rfl
   have g1:=hf 1 f1 rfl
   have g2:=hf 2 f2 rfl
   rw[o0,c0] at g0
   rw[o1,c1] at g1
   rw[o2,c2] at g2
   obtain⟨a,ra⟩:=opens_fld h0 (show DataW.trod enc P w 0 (fun _=>true) true n f0.type ((cs.drop 0).take k0)=some y0 from g0)
   obtain⟨b,rb⟩:=opens_fld h1 (show DataW.trod enc P w 0 (fun _=>true) true n f1.type ((cs.drop k0).take k1)=some y1 from g1)
   obtain⟨c,rc⟩:=opens_fld h2 (show DataW.trod enc P w 0 (fun _=>true) true n f2.type ((cs.drop (k0+k1)).take k2)=some y2 from g2)
   rw[List.drop_zero] at ra
   rw[List.take_of_length_le (by rw[List.length_drop];omega)] at rc
   rw[←List.drop_drop] at rc
   exact⟨(a,b,c),Reads.join (by omega) ra (Reads.join (by rw[List.length_drop];omega) rb rc)⟩
theorem opens_struct4' {t:TypeId} {f0 f1 f2 f3:Field} {α β γ δ:Type} {F0:α→List Dt} {F1:β→List Dt} {F2:γ→List Dt} {F3:δ→List Dt} {k0 k1 k2 k3:Nat} (ht:P.underlying t=some (.struct #[f0,f1,f2,f3])) (hC:P.cellsOf t=k0+(k1+(k2+k3)))
 (o0:f0.offset=0) (o1:f1.offset=k0) (o2:f2.offset=k0+k1) (o3:f3.offset=k0+k1+k2) (c0:P.cellsOf f0.type=k0) (c1:P.cellsOf f1.type=k1) (c2:P.cellsOf f2.type=k2) (c3:P.cellsOf f3.type=k3)
 (h0:Opens enc P w f0.type F0) (h1:Opens enc P w f1.type F1) (h2:Opens enc P w f2.type F2) (h3:Opens enc P w f3.type F3):Opens enc P w t (fun p:α × β × γ × δ=>F0 p.1++(F1 p.2.1++(F2 p.2.2.1++F3 p.2.2.2))):=fun fuel cs x h=>by
 obtain⟨xs,n,rfl,rfl,hl,hxl,hf⟩:=DataW.trod_struct ht h
 rw[hC] at hl
 have hx2:xs.length=4:=by simpa using hxl
 match xs,hx2 with
 | [y0,y1,y2,y3],_=>
   have g0:=hf 0 f0 rfl
   have g1:=hf 1 f1 rfl
   have g2:=hf 2 f2 rfl
   have g3:=hf 3 f3 rfl
   rw[o0,c0] at g0
   rw[o1,c1] at g1
   rw[o2,c2] at g2
   rw[o3,c3] at g3
   obtain⟨a,ra⟩:=opens_fld h0 (show DataW.trod enc P w 0 (fun _=>true) true n f0.type ((cs.drop 0).take k0)=some y0 from g0)
   obtain⟨b,rb⟩:=opens_fld h1 (show DataW.trod enc P w 0 (fun _=>true) true n f1.type ((cs.drop k0).take k1)=some y1 from g1)
   obtain⟨c,rc⟩:=opens_fld h2 (show DataW.trod enc P w 0 (fun _=>true) true n f2.type ((cs.drop (k0+k1)).take k2)=some y2 from g2)
   obtain⟨d,rd⟩:=opens_fld h3 (show DataW.trod enc P w 0 (fun _=>true) true n f3.type ((cs.drop (k0+k1+k2)).take k3)=some y3 from g3)
   rw[List.drop_zero] at ra
   rw[List.take_of_length_le (by rw[List.length_drop];omega)] at rd
   rw[←List.drop_drop,←List.drop_drop] at rd
   rw[←List.drop_drop] at rc
   exact⟨(a,b,c,d),Reads.join (by omega) ra (Reads.join (by rw[List.length_drop];omega) rb (Reads.join (by rw[List.length_drop,List.length_drop];omega) rc rd))⟩
theorem opens_agg {t:TypeId} {fs:Array Field} {α:Type} {F:α→List Dt} {r:Reach} {b0:Nat} {v:Value} {d:DataW H} {ps:List MemPlace} (ht:P.underlying t=some (.struct fs)) (hval:Value.okWide P w r b0 t v) (ho:Opens enc P w t F) (h:DataW.Trod enc P w 0 (fun _=>true) true t v d ps):∃(a:α) (us:List Value),v= .agg us.toArray∧Reads w us (F a):=by
 obtain⟨cs,rfl,_⟩:=okWide_struct ht hval
 obtain⟨m,hm⟩:=h
 obtain⟨a,ra⟩:=opens_fld ho hm
 refine⟨a,cs.toList,by simp,?_⟩
 simpa[Value.cells] using ra
theorem flt_of_flat {α:Type} {enc:α→List Value} {m:Nat} (zs:List α):Dt.rows m (zs.flatMap fun z=>(enc z).map Dt.leaf)=flt m enc zs:=rfl
theorem opens_flt {α:Type} [Inhabited α] {t e:TypeId} {en:α→List Value} {m:Nat} (hm:∀z,(en z).length=m) (hm0:0<m) (ht:P.underlying t=some (.slice e)) (hc:P.cellsOf e=m) (he:Opens enc P w e (fun z:α=>(en z).map Dt.leaf)):Opens enc P w t (fun zs:List α=>[flt m en zs]):=
 opens_slice ht hc hm0 (fun z=>by simp[hm]) he
instance:Inhabited {s:ByteArray // s.size≤maxLen} :=⟨⟨⟨#[]⟩,Nat.zero_le _⟩⟩
def SubS:={s:ByteArray // s.size≤maxLen}
theorem opens_strs {t e:TypeId} (ht:P.underlying t=some (.slice e)) (hc:P.cellsOf e=1) (he:P.underlying e=some .string):Opens enc P w t (fun zs:List {s:ByteArray // s.size≤maxLen} =>[flt 1 strE (zs.map (·.1))]):=by
 have h:=opens_slice (enc:=enc) (w:=w) (F:=fun s:{s:ByteArray // s.size≤maxLen} =>[Dt.leaf (.string s.1)]) ht hc (by decide) (fun _=>rfl) (opens_str he)
 have e:(fun zs:List {s:ByteArray // s.size≤maxLen} =>[Dt.rows 1 (zs.flatMap fun s=>[Dt.leaf (.string s.1)])])=fun zs=>[flt 1 strE (zs.map (·.1))]:=by
  funext zs
  unfold flt fltC
  rw[List.flatMap_map]
  rfl
 rwa [e] at h
end
theorem sub_small (zs:List {s:ByteArray // s.size≤maxLen}) (i:Nat):((zs.map (·.1))[i]?.getD nilS).size≤maxLen:=by
 by_cases h:i<zs.length
 · simp[h];exact(zs[i]).2
 · rw[List.getElem?_eq_none (by simpa using h)];exact Nat.zero_le _
/-! ### The parameters' types -/
section
variable {H : Type} {enc : TypeId × Value → H} {W : World} {r : Reach} {b0 : Nat} {v : Value} {d : DataW H} {ps : List MemPlace}
instance:Inhabited Fib:=⟨nilB⟩
theorem opens_int_:Opens enc Tryz.prog W 3 (fun x:Int=>[.leaf (.int .i64 x)]):=opens_int Tryz.underlying3
theorem opens_fib:Opens enc Tryz.prog W 148 (fun f:Fib=>(fibE f).map Dt.leaf):=
 opens_map' (opens_struct4' (k0:=1) (k1:=1) (k2:=1) (k3:=1) Tryz.underlying148 (by kernel_rfl) rfl rfl rfl rfl (by kernel_rfl) (by kernel_rfl) (by kernel_rfl) (by kernel_rfl) opens_int_ opens_int_ opens_int_ opens_int_) (fun p=>⟨p.1,p.2.1,p.2.2.1,p.2.2.2⟩) (fun _=>rfl)
theorem opens_net:Opens enc Tryz.prog W 25 (fun p:List {s:ByteArray // s.size≤maxLen} × List Fib=>[flt 1 strE (p.1.map (·.1))]++[flt 4 fibE p.2]):=
 opens_struct2 (k0:=1) (k1:=1) Tryz.underlying25 (by kernel_rfl) rfl rfl (by kernel_rfl) (by kernel_rfl) (opens_strs Tryz.underlying22 (by kernel_rfl) Tryz.underlying9) (opens_flt (m:=4) (en:=fibE) (fun _=>rfl) (by decide) Tryz.underlying23 (by kernel_rfl) opens_fib)
theorem open_net (hval:Value.okWide Tryz.prog W r b0 25 v) (h:DataW.Trod enc Tryz.prog W 0 (fun _=>true) true 25 v d ps):∃n:Net,NetW W v n:=by
 obtain⟨⟨ns,fs⟩,us,rfl,h1,h2⟩:=opens_agg Tryz.underlying25 hval opens_net h
 match us,h1 with
 | [u1,u2],_=>
   obtain⟨x1,e1,r1⟩:=h2 0 _ rfl
   obtain⟨x2,e2,r2⟩:=h2 1 _ rfl
   cases e1;cases e2
   exact⟨⟨ns.map (·.1),fs⟩,u1,u2,rfl,r1,r2,sub_small ns⟩
end
section
variable {H : Type} {enc : TypeId × Value → H} {W : World} {r : Reach} {b0 : Nat} {v : Value} {d : DataW H} {ps : List MemPlace}
instance:Inhabited Fmt:=⟨nilFm⟩
theorem opens_fmt:Opens enc Tryz.prog W 103 (fun f:Fmt=>(fmE f).map Dt.leaf):=
 opens_map' (opens_struct2 (k0:=1) (k1:=1) Tryz.underlying103 (by kernel_rfl) rfl rfl (by kernel_rfl) (by kernel_rfl) opens_int_ opens_int_) (fun p=>⟨p.1,p.2⟩) (fun _=>rfl)
theorem opens_fmts:Opens enc Tryz.prog W 26 (fun zs:List Fmt=>[flt 2 fmE zs]):=
 opens_flt (m:=2) (en:=fmE) (fun _=>rfl) (by decide) Tryz.underlying26 (by kernel_rfl) opens_fmt
theorem open_formats (hval:Value.okWide Tryz.prog W r b0 26 v) (h:DataW.Trod enc Tryz.prog W 0 (fun _=>true) true 26 v d ps):∃zs:List Fmt,Rwt W (flt 2 fmE zs) v:=
 opens_val Tryz.underlying26 hval opens_fmts h
end
section
variable {H : Type} {enc : TypeId × Value → H} {W : World} {r : Reach} {b0 : Nat} {v : Value} {d : DataW H} {ps : List MemPlace}
instance:Inhabited Gro:=⟨nilG⟩
theorem opens_dem:Opens enc Tryz.prog W 105 (fun z:Dem=>[.leaf (.int .i64 z.a),.leaf (.int .i64 z.b),.leaf (.int .i64 z.r),.leaf (.int .i64 z.c)]):=
 opens_map' (opens_struct4' (k0:=1) (k1:=1) (k2:=1) (k3:=1) Tryz.underlying105 (by kernel_rfl) rfl rfl rfl rfl (by kernel_rfl) (by kernel_rfl) (by kernel_rfl) (by kernel_rfl) opens_int_ opens_int_ opens_int_ opens_int_) (fun p=>⟨p.1,p.2.1,p.2.2.1,p.2.2.2⟩) (fun _=>rfl)
theorem opens_gro:Opens enc Tryz.prog W 107 (fun f:Gro=>(groE f).map Dt.leaf):=
 opens_map' (opens_struct3' (k0:=4) (k1:=1) (k2:=1) Tryz.underlying107 (by kernel_rfl) rfl rfl rfl (by kernel_rfl) (by kernel_rfl) (by kernel_rfl) opens_dem opens_int_ opens_int_) (fun p=>⟨p.1,p.2.1,p.2.2⟩) (fun _=>rfl)
theorem open_growths (hval:Value.okWide Tryz.prog W r b0 27 v) (h:DataW.Trod enc Tryz.prog W 0 (fun _=>true) true 27 v d ps):∃gs:List Gro,Rwt W (flt 6 groE gs) v:=
 opens_val Tryz.underlying27 hval (opens_flt (m:=6) (en:=groE) (fun _=>rfl) (by decide) Tryz.underlying27 (by kernel_rfl) opens_gro) h
end
end Go.Proofs.YtofcicomhnkocaaGreat
