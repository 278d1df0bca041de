/- Plain Lean: the values of parameters, opened: growths. -/
import Derived.Test.YtphhenlokbodnaaOpn
import Derived.Test.YtphhenlokbodnaaLgr
namespace Go.Proofs.Ytphhenlokbodnaa
open Go.RowKit Go.WideShapes
set_option maxRecDepth 100000
section
variable {H : Type} {enc : TypeId × Value → H} {W : World} {r : Reach} {b0 : Nat} {v : Value} {d : DataW H} {ps : List MemPlace}
instance : Inhabited Gro := ⟨nilG⟩
theorem opens_dem : Opens enc Try.prog W 71 (fun z : Dem => [.leaf (.int .i64 z.a), .leaf (.int .i64 z.b), .leaf (.int .i64 z.r), .leaf (.int .i64 z.c)]) :=
  opens_map' (opens_struct4' (k0 := 1) (k1 := 1) (k2 := 1) (k3 := 1) Try.underlying71 (by kernel_rfl) rfl rfl rfl rfl (by kernel_rfl) (by kernel_rfl) (by kernel_rfl) (by kernel_rfl) opens_int_ opens_int_ opens_int_ opens_int_) (fun p => ⟨p.1, p.2.1, p.2.2.1, p.2.2.2⟩) (fun _ => rfl)
theorem opens_gro : Opens enc Try.prog W 73 (fun f : Gro => (groE f).map Dt.leaf) :=
  opens_map' (opens_struct3' (k0 := 4) (k1 := 1) (k2 := 1) Try.underlying73 (by kernel_rfl) rfl rfl rfl (by kernel_rfl) (by kernel_rfl) (by kernel_rfl) opens_dem opens_int_ opens_int_) (fun p => ⟨p.1, p.2.1, p.2.2⟩) (fun _ => rfl)
theorem open_growths (hval : Value.okWide Try.prog W r b0 26 v) (h : DataW.Trod enc Try.prog W 0 (fun _ => true) true 26 v d ps) : ∃ gs : List Gro, Rwt W (flt 6 groE gs) v :=
  opens_val Try.underlying26 hval (opens_flt (m := 6) (en := groE) (fun _ => rfl) (by decide) Try.underlying26 (by kernel_rfl) opens_gro) h
end
end Go.Proofs.Ytphhenlokbodnaa
