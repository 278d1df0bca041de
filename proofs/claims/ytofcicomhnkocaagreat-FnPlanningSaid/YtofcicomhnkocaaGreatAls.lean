/- Short names for lemmas of the kit that stand in nearly every row of the walks. -/
import Derived.Lib.Hide
import Derived.IntWalk
import Derived.Lib.QuietBelow
namespace Go.Proofs.YtofcicomhnkocaaGreat
set_option maxHeartbeats 200000
open Go.RowKit Go.Sort
theorem ξh {p:Prop} (h:p):Hid p:=Lib.hid h
theorem ξr (n:Nat):n≤n:=Nat.le_refl n
theorem ξb (B:Nat) (w:World):Below B w w:=Below.refl B w
theorem ξg {α:Type} {l:List α} {i:Nat} (h:i<l.length):l[i]?= some l[i]:=List.getElem?_eq_getElem h
theorem ξf {p:Prop} [Decidable p] (h:¬p):decide p=false:=decide_eq_false h
theorem ξt {p:Prop} [Decidable p] (h:p):decide p=true:=decide_eq_true h
theorem ξo {α:Type} {a b:α} (h:some a=some b):a=b:=Option.some.inj h
theorem ξa {α:Type} {xs:Array α} {i:Nat} {a:α} (h:xs[i]?= some a):∃h:i<xs.size,xs[i]=a:=Array.getElem?_eq_some_iff.1 h
theorem ξl {α:Type} {xs:List α} {i:Nat} {a:α} (h:xs[i]?= some a):∃h:i<xs.length,xs[i]=a:=List.getElem?_eq_some_iff.1 h
theorem ξs {a b c:Nat} (h:a≤b) (k:b≤c):a≤c:=Nat.le_trans h k
theorem ξq {a b c:Nat} (h:a<b) (k:b≤c):a<c:=Nat.lt_of_lt_of_le h k
theorem ξn (w:World) (o:Obj):(w.alloc o).heap[w.heap.size]?= some o:=heap_alloc_new w o
theorem ξz (w:World) (g j:Nat) (cs:Array Value) (t:TypeId) (hg:w.heap[g]?= some (.cells cs t (0,0))):w.frozen? ⟨g,j,none⟩=false:=frozen_of_row w g j cs t hg
theorem ξi (n:Int) (h: -9223372036854775808≤n∧n≤9223372036854775807):IntKind.i64.wrap n=n:=IntWalk.i64_in n h
theorem ξw (n:Int) (h: -9223372036854775808≤n∧n≤9223372036854775807):wrap64 n=n:=IntWalk.wrap64_in n h
theorem ξk {α:Type} {xs ys:List α} :(xs++ys).length=xs.length+ys.length:=List.length_append
theorem ξm (w:World) (a:Addr) (k:Nat) (v:Value) (h:k≠a.block):(w.setCell a v).heap[k]?= w.heap[k]?:=heap_setCell_other w a k v h
theorem ξe (w:World) (g i:Nat) (cs:Array Value) (t:TypeId) (v:Value) (hg:w.heap[g]?= some (.cells cs t (0,0))):(w.setCell ⟨g,i,none⟩ v).heap[g]?= some (.cells (cs.setIfInBounds i v) t (0,0)):=heap_setCell_same w g i cs t v hg
theorem ξc (w:World) (d:Nat) (os:Array Obj):Below w.heap.size w (grow (redrawn w d) os):=below_regrown w d os
theorem ξd (w:World) (a:Addr) {u:Value} (h:w.cell? a=some u):a.block<w.heap.size:=World.block_lt_of_cell? w a h
theorem ξj {α:Type} {l:List α} {i:Nat} (h:i<l.length):l[i]∈l:=List.getElem_mem h
theorem ξu (n:Nat):0≤n:=Nat.zero_le n
theorem ξv {P:Program} {id:Nat} {Q:Exit→Act→World→Prop} {a:Act} {w:World} {l:List Oper} (h:wpQuiet P l.toArray (fun w'=>∃p:Regrown,w'=grow (redrawn w p.d) p.os) (fun a'=>∀w',(∃p:Regrown,w'=grow (redrawn w p.d) p.os)→Q .normal a' w') l a) (hm:P.follows .mixedOrders=true:=by kernel_rfl) (hB:Region.lexB .any l.toArray=true:=by kernel_rfl):(Code.region id l.toArray true).wp P Q a w:=wp_region_quiet_below hm hB h
end Go.Proofs.YtofcicomhnkocaaGreat
