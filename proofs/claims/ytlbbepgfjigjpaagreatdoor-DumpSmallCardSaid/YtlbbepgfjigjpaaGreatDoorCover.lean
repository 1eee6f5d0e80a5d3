/- The prefixes that cover a range of addresses: what covers and Cover of package addr do. Two structs of integers compared by '==': one Bool, nothing split. -/
import Derived.Test.YtlbbepgfjigjpaaGreatDoorRange
import Derived.Test.YtlbbepgfjigjpaaGreatDoorAddr2
import Derived.Deep.DeepCutAuto
import Derived.Test.YtlbbepgfjigjpaaGreatDoorBase
namespace Go.Ab
open Go.RowKit
theorem Turn.of_up {p : Nat → Prop} {A B : World} (h : Up A B) : Turn p A B := ⟨none, ⟨h.os, h.tape, h.output, h.size, fun k hk _ => h.block k hk⟩, fun _ e => by cases e⟩
theorem Turn.of_setCell {p : Nat → Prop} (A : World) (a : Addr) (v : Value) (h : p a.block) : Turn p A (A.setCell a v) :=
  ⟨some a.block, ⟨rfl, rfl, rfl, by simp, fun k _ hk => Below.heap_setCell A a v k (fun e => hk (by rw [e]))⟩, fun _ e => by cases e; exact h⟩
theorem Kept.cell {p : Nat → Prop} {A B : World} (h : Kept p A B) {a : Addr} {v : Value} (hc : A.cell? a = some v) (hp : p a.block) : B.cell? a = some v :=
  (World.cell?_of_block (h.2 _ hp (cell_lt' hc))).trans hc
theorem Kept.frozen {p : Nat → Prop} {A B : World} (h : Kept p A B) {a : Addr} {v : Value} (hc : A.cell? a = some v) (hp : p a.block) : B.frozen? a = A.frozen? a :=
  World.frozen?_of_block (h.2 _ hp (cell_lt' hc))
end Go.Ab
namespace Go.Proofs.YtlbbepgfjigjpaaGreatDoor
open Go.RowKit Go.Ab
attribute [local go_sem] Oper.semAt_some

end Go.Proofs.YtlbbepgfjigjpaaGreatDoor
namespace Go.Proofs.YtlbbepgfjigjpaaGreatDoor
open Go.RowKit Go.Ab
theorem eq_key (w : World) (e1 s1 d1 sp1 dp1 e2 s2 d2 sp2 dp2 : Int) : (Op.equalIn 10000 29 (.agg #[.int .u8 e1, .int .u32 s1, .int .u32 d1, .int .u16 sp1, .int .u16 dp1]) (.agg #[.int .u8 e2, .int .u32 s2, .int .u32 d2, .int .u16 sp2, .int .u16 dp2])).run Tryz.prog w =
    .ok (e1 == e2 && (s1 == s2 && (d1 == d2 && (sp1 == sp2 && dp1 == dp2)))) w := by
  cases h1 : (e1 == e2) <;> cases h2 : (s1 == s2) <;> cases h3 : (d1 == d2) <;> cases h4 : (sp1 == sp2) <;> cases h5 : (dp1 == dp2) <;> simp [go_sem, h1, h2, h3, h4, h5] <;> simp_all
end Go.Proofs.YtlbbepgfjigjpaaGreatDoor
