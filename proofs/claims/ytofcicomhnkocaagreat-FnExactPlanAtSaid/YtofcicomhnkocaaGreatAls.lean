/- Short names for lemmas of the kit that stand in nearly every row of the walks. -/
import Derived.Lib.Hide
import Derived.Below
import Derived.Laws.Rows
import Derived.IntWalk
namespace Go.Proofs.YtofcicomhnkocaaGreat
set_option maxHeartbeats 200000
open Go.RowKit
theorem ξh {p:Prop} (h:p):Hid p:=Lib.hid h
theorem ξr (n:Nat):n≤n:=Nat.le_refl n
theorem ξb (B:Nat) (w:World):Below B w w:=Below.refl B w
theorem ξg {α:Type} {l:List α} {i:Nat} (h:i<l.length):l[i]?= some l[i]:=List.getElem?_eq_getElem h
theorem ξf {p:Prop} [Decidable p] (h:¬p):decide p=false:=decide_eq_false h
theorem ξt {p:Prop} [Decidable p] (h:p):decide p=true:=decide_eq_true h
theorem ξo {α:Type} {a b:α} (h:some a=some b):a=b:=Option.some.inj h
theorem ξa {α:Type} {xs:Array α} {i:Nat} {a:α} (h:xs[i]?= some a):∃h:i<xs.size,xs[i]=a:=Array.getElem?_eq_some_iff.1 h
theorem ξl {α:Type} {xs:List α} {i:Nat} {a:α} (h:xs[i]?= some a):∃h:i<xs.length,xs[i]=a:=List.getElem?_eq_some_iff.1 h
theorem ξs {a b c:Nat} (h:a≤b) (k:b≤c):a≤c:=Nat.le_trans h k
theorem ξq {a b c:Nat} (h:a<b) (k:b≤c):a<c:=Nat.lt_of_lt_of_le h k
theorem ξn (w:World) (o:Obj):(w.alloc o).heap[w.heap.size]?= some o:=heap_alloc_new w o
theorem ξz (w:World) (g j:Nat) (cs:Array Value) (t:TypeId) (hg:w.heap[g]?= some (.cells cs t (0,0))):w.frozen? ⟨g,j,none⟩=false:=frozen_of_row w g j cs t hg
theorem ξi (n:Int) (h: -9223372036854775808≤n∧n≤9223372036854775807):IntKind.i64.wrap n=n:=IntWalk.i64_in n h
theorem ξw (n:Int) (h: -9223372036854775808≤n∧n≤9223372036854775807):wrap64 n=n:=IntWalk.wrap64_in n h
end Go.Proofs.YtofcicomhnkocaaGreat
