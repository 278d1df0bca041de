import Derived.Test.YtofcicomhnkocaaGreatBx28
set_option linter.unusedVariables false
namespace Go.Proofs.YtofcicomhnkocaaGreat
set_option maxHeartbeats 1600000
open Go.RowKit Go.Sort
set_option maxRecDepth 100000
def BlgP (n:Net) (fs:List Fmt) (gs:List Gro) (w:World) (e:Ending) (w':World):Prop:=∃v,e= .returned (.tuple #[v,.bool (ξa0 n fs gs)])∧Ofr w' w.heap.size (inD (ξai n fs gs)) v∧Below w.heap.size w w'
theorem ξbP (v vf vg:Value) (n:Net) (fs:List Fmt) (gs:List Gro) (w:World) (h:NetR w v n) (hf:Rdt w (flt 2 fmE fs) vf) (hg:Rdt w (flt 6 groE gs) vg):
 Calls Tryz.prog 29 #[v,vf,vg] w (BlgP n fs gs w):=by
 obtain⟨NP,hNP⟩:∃NP,NP=BlgP n fs gs w:=⟨_,rfl⟩
 rw[←hNP]
 have HNP:=ξh hNP
 have HP:=ξh (fun w' (hb:Below w.heap.size w w')=>ξaZ v vf vg n fs gs w' (h.behind hb) (hf.behind hb) (hg.behind hb))
 have hnet:=h
 obtain⟨u1,u2,rfl,-,-,-⟩:=h
 obtain⟨⟨a1,m1,c1,rfl⟩,a2,m2,c2,rfl⟩:=ξF hnet
 obtain⟨af,mf,cf,rfl,-,-,-,-⟩:=ξC (m:=2) (enc:=fmE) (fun _=>rfl) (by omega) ξJ hf
 obtain⟨ag,mg,cg,rfl,-,-,-,-⟩:=ξC (m:=6) (enc:=groE) (fun _=>rfl) (by omega) nilG hg
 have HB1:=ξh ((ξb w.heap.size w).alloc (ξr _) (.cells #[.slice a1 m1 c1,.slice a2 m2 c2] 35))
 clear hnet hf hg hNP
 go_enter Tryz.func29,Tryz.ntmps29
 go_wp2_with fail
 generalize w.alloc (.cells #[.slice a1 m1 c1,.slice a2 m2 c2] 35)=w1 at *
 refine(HP.out w1 HB1.out).mono ?_
 rintro e w2 ⟨b2,aw,ms,cs,a,m,c,rfl,hpl,hno⟩
 have HF:=ξh (show BlgP n fs gs w (.returned (.tuple #[.slice a m c,.bool (ξa0 n fs gs)])) w2 from⟨_,rfl,by
  cases hO:ξR n fs gs with
  | none=>
    obtain⟨k1,k2⟩:=ξap hO
    rw[k1,hno k2]
    exact Ofr.nil _ _ _
  | some x=>exact((hpl x.1 x.2 hO).2.1.mono HB1.size).ofr,HB1.trans (b2.mono HB1.size)⟩)
 generalize ξa0 n fs gs=K at *
 clear b2 hpl hno
 go_wp2
 rw[HNP.out]
 exact HF.out
open Go.RowKit
theorem ξbm {fs:List (List Nat)} :fs.flatten.Nodup↔(∀f∈fs,f.Nodup)∧List.Pairwise (fun a b=>∀x∈a,∀y∈b,x≠y) fs:=by
 unfold List.Nodup;exact List.pairwise_flatten
theorem below_put {B b:Nat} {u:World} (hB:B≤b) (us:List Value):∀{w:World} (o:Nat),Below B u w→Below B u (w.setCells b o us):=by
 induction us with
 | nil=>intro w o h;exact h
 | cons x us ih=>intro w o h;exact ih (o+1) (h.setCell (p:=⟨b,o,none⟩) hB _)
end Go.Proofs.YtofcicomhnkocaaGreat
