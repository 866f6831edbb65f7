/- The kernel runs the closed call SpreadNames to its end: what was run once is looked up. -/
import Derived.KernelRfl
import Derived.Lib.TrailingZeros
import Derived.Test.YtgpokmkdnjhplaaGreatDoorProg
import Derived.Test.YtgpokmkdnjhplaaGreatDoorExI
namespace Go.Proofs.YtgpokmkdnjhplaaGreatDoor
open Go.Ex
noncomputable def known : Nat → Option (List Value) := fun g => Nat.rec (some (Lib.deBruijn32tab.map fun n : Nat => .int .u8 n)) (fun _ _ => none) g
namespace SpreadNames
theorem follows : Tryz.prog.follows .mixedOrders = true := by kernel_rfl
noncomputable def t0 : T (List Ent) := .e
theorem k0 : Known Tryz.prog known t0 := known_none
noncomputable def e1 : Ent := ⟨[.v (.a [cb false, cz, ci 0]), .v (.a [cb false, cz, ci 0])], [], .t [.a [cb false, cz, ci 0], .c (ci 0)], [], []⟩
noncomputable def t1 : T (List Ent) := t0.set 135 (e1 :: Option.rec [] (fun l => l) (T.get t0 135))
theorem c1 : chkA e1 ((execM t0 Tryz.prog known 1000).call 135 e1.args (memE e1.ins)) = true := by kernel_rfl
theorem k1 : Known Tryz.prog known t1 := Known.more follows k0 c1
noncomputable def e2 : Ent := ⟨[.v (.a [cb false, cz, ci 0]), .v (.a [cb false, cz, ci 0])], [], .t [.a [cb false, cz, ci 0], .c (ci 0)], [], []⟩
noncomputable def t2 : T (List Ent) := t1.set 72 (e2 :: Option.rec [] (fun l => l) (T.get t1 72))
theorem c2 : chkA e2 ((execM t1 Tryz.prog known 1000).call 72 e2.args (memE e2.ins)) = true := by kernel_rfl
theorem k2 : Known Tryz.prog known t2 := Known.more follows k1 c2
noncomputable def e3 : Ent := ⟨[.v (.a [cb false, .sl 0 0 1 1 .none, ci 0]), .v (.a [cb false, .sl 1 0 1 1 .none, ci 0])], [.cells 133 [c32 6], .cells 133 [c32 2]], .t [.a [cb false, .sl 2 0 1 1 (.some 1), ci 0], .c (ci 0)], [.cells 133 [c32 8]], []⟩
noncomputable def t3 : T (List Ent) := t2.set 135 (e3 :: Option.rec [] (fun l => l) (T.get t2 135))
theorem c3 : chkA e3 ((execM t2 Tryz.prog known 1000).call 135 e3.args (memE e3.ins)) = true := by kernel_rfl
theorem k3 : Known Tryz.prog known t3 := Known.more follows k2 c3
noncomputable def e4 : Ent := ⟨[.v (.a [cb false, .sl 0 0 1 1 (.some 1), ci 0]), .v (.a [cb true, .sl 1 0 1 1 .none, ci 0])], [.cells 133 [c32 4], .cells 133 [c32 6]], .t [.a [cb true, .sl 2 0 1 1 (.some 1), ci 0], .c (ci 0)], [.cells 133 [c32 2]], []⟩
noncomputable def t4 : T (List Ent) := t3.set 135 (e4 :: Option.rec [] (fun l => l) (T.get t3 135))
theorem c4 : chkA e4 ((execM t3 Tryz.prog known 1000).call 135 e4.args (memE e4.ins)) = true := by kernel_rfl
theorem k4 : Known Tryz.prog known t4 := Known.more follows k3 c4
noncomputable def e5 : Ent := ⟨[.v (.a [cb false, .sl 0 0 1 1 (.some 1), ci 0]), .v (.a [cb false, .sl 1 0 1 1 .none, ci 0])], [.cells 133 [c32 4], .cells 133 [c32 6]], .t [.a [cb true, .sl 2 0 1 1 (.some 1), ci 0], .c (ci 0)], [.cells 133 [c32 2]], []⟩
noncomputable def t5 : T (List Ent) := t4.set 72 (e5 :: Option.rec [] (fun l => l) (T.get t4 72))
theorem c5 : chkA e5 ((execM t4 Tryz.prog known 1000).call 72 e5.args (memE e5.ins)) = true := by kernel_rfl
theorem k5 : Known Tryz.prog known t5 := Known.more follows k4 c5
noncomputable def e6 : Ent := ⟨[.v (.a [cb false, .sl 0 0 1 1 .none, ci 0]), .v (.a [cb true, .sl 1 0 1 1 .none, ci 0])], [.cells 133 [c32 6], .cells 133 [c32 2]], .t [.a [cb false, .sl 2 0 1 1 (.some 1), ci 0], .c (ci 0)], [.cells 133 [c32 4]], []⟩
noncomputable def t6 : T (List Ent) := t5.set 135 (e6 :: Option.rec [] (fun l => l) (T.get t5 135))
theorem c6 : chkA e6 ((execM t5 Tryz.prog known 1000).call 135 e6.args (memE e6.ins)) = true := by kernel_rfl
theorem k6 : Known Tryz.prog known t6 := Known.more follows k5 c6
noncomputable def e7 : Ent := ⟨[.v (.a [cb false, .sl 0 0 1 1 .none, ci 0]), .v (.a [cb false, cz, ci 0])], [.cells 133 [c32 4]], .t [.a [cb false, .sl 1 0 1 1 (.some 1), ci 0], .c (ci 0)], [.cells 133 [c32 4]], []⟩
noncomputable def t7 : T (List Ent) := t6.set 135 (e7 :: Option.rec [] (fun l => l) (T.get t6 135))
theorem c7 : chkA e7 ((execM t6 Tryz.prog known 1000).call 135 e7.args (memE e7.ins)) = true := by kernel_rfl
theorem k7 : Known Tryz.prog known t7 := Known.more follows k6 c7
noncomputable def e8 : Ent := ⟨[.v (.a [cb false, .sl 0 0 1 1 (.some 1), ci 0]), .v (.a [cb true, .sl 1 0 1 1 .none, ci 0])], [.cells 133 [c32 2], .cells 133 [c32 4]], .t [.a [cb true, .sl 2 0 1 1 (.some 1), ci 0], .c (ci 0)], [.cells 133 [c32 2]], []⟩
noncomputable def t8 : T (List Ent) := t7.set 135 (e8 :: Option.rec [] (fun l => l) (T.get t7 135))
theorem c8 : chkA e8 ((execM t7 Tryz.prog known 1000).call 135 e8.args (memE e8.ins)) = true := by kernel_rfl
theorem k8 : Known Tryz.prog known t8 := Known.more follows k7 c8
noncomputable def e9 : Ent := ⟨[.v (.a [cb false, .sl 0 0 1 1 (.some 1), ci 0]), .v (.a [cb false, .sl 1 0 1 1 .none, ci 0])], [.cells 133 [c32 2], .cells 133 [c32 4]], .t [.a [cb true, .sl 2 0 1 1 (.some 1), ci 0], .c (ci 0)], [.cells 133 [c32 2]], []⟩
noncomputable def t9 : T (List Ent) := t8.set 72 (e9 :: Option.rec [] (fun l => l) (T.get t8 72))
theorem c9 : chkA e9 ((execM t8 Tryz.prog known 1000).call 72 e9.args (memE e9.ins)) = true := by kernel_rfl
theorem k9 : Known Tryz.prog known t9 := Known.more follows k8 c9
noncomputable def e10 : Ent := ⟨[.v (.a [cb false, .sl 0 0 1 1 .none, ci 0]), .v (.a [cb true, .sl 1 0 1 1 .none, ci 0])], [.cells 133 [c32 4], .cells 133 [c32 2]], .t [.a [cb false, .sl 2 0 1 1 (.some 1), ci 0], .c (ci 0)], [.cells 133 [c32 2]], []⟩
noncomputable def t10 : T (List Ent) := t9.set 135 (e10 :: Option.rec [] (fun l => l) (T.get t9 135))
theorem c10 : chkA e10 ((execM t9 Tryz.prog known 1000).call 135 e10.args (memE e10.ins)) = true := by kernel_rfl
theorem k10 : Known Tryz.prog known t10 := Known.more follows k9 c10
noncomputable def e11 : Ent := ⟨[.v (.c (.sl 0 0 3 12 (.some 3))), .v (.c (.sl 1 0 2 2 .none))], [.cells 28 [cb false, cz, ci 0, cb false, cz, ci 0, cb false, cz, ci 0, cb false, .sl 2 0 1 1 (.some 1), ci 0, cb false, cz, ci 0, cb false, cz, ci 0, cb false, cz, ci 0, cb false, .sl 3 0 1 1 (.some 1), ci 0, cb false, cz, ci 0, cb false, cz, ci 0, cb false, cz, ci 0, cb false, cz, ci 0], .cells 168 [ci 0, ci 1, ci 1, ci 2], .cells 133 [c32 6, c32 0], .cells 133 [c32 2, c32 0]], .t [.c (.sl 4 0 3 12 .none), .c (ci 0)], [.cells 28 [cb false, cz, ci 0, cb false, cz, ci 0, cb false, cz, ci 0, cb false, .sl 5 0 1 1 (.some 1), ci 0, cb false, cz, ci 0, cb false, cz, ci 0, cb false, cz, ci 0, cb false, .sl 6 0 1 1 (.some 1), ci 0, cb false, cz, ci 0, cb false, cz, ci 0, cb false, cz, ci 0, cb false, .sl 7 0 1 1 .none, ci 0], .cells 133 [c32 4], .cells 133 [c32 2], .cells 133 [c32 2]], []⟩
noncomputable def t11 : T (List Ent) := t10.set 29 (e11 :: Option.rec [] (fun l => l) (T.get t10 29))
theorem c11 : chkA e11 ((execM t10 Tryz.prog known 1000).call 29 e11.args (memE e11.ins)) = true := by kernel_rfl
theorem k11 : Known Tryz.prog known t11 := Known.more follows k10 c11
noncomputable def e12 : Ent := ⟨[.v (.c (.sl 0 0 1 12 (.some 1))), .v (.c (cz))], [.cells 28 [cb false, cz, ci 0, cb false, cz, ci 0, cb false, cz, ci 0, cb false, .sl 1 0 1 1 (.some 1), ci 0], .cells 133 [c32 6, c32 0]], .t [.c (cz), .c (ci 2)], [], []⟩
noncomputable def t12 : T (List Ent) := t11.set 29 (e12 :: Option.rec [] (fun l => l) (T.get t11 29))
theorem c12 : chkA e12 ((execM t11 Tryz.prog known 1000).call 29 e12.args (memE e12.ins)) = true := by kernel_rfl
theorem k12 : Known Tryz.prog known t12 := Known.more follows k11 c12
noncomputable def e13 : Ent := ⟨[.v (.c (.sl 0 0 2 12 (.some 2))), .v (.c (cz))], [.cells 28 [cb false, cz, ci 0, cb false, cz, ci 0, cb false, cz, ci 0, cb false, .sl 1 0 1 1 (.some 1), ci 0, cb false, cz, ci 1, cb false, cz, ci 0, cb false, cz, ci 0, cb false, cz, ci 0], .cells 133 [c32 6, c32 0]], .t [.c (cz), .c (ci 8)], [], []⟩
noncomputable def t13 : T (List Ent) := t12.set 29 (e13 :: Option.rec [] (fun l => l) (T.get t12 29))
theorem c13 : chkA e13 ((execM t12 Tryz.prog known 1000).call 29 e13.args (memE e13.ins)) = true := by kernel_rfl
theorem k13 : Known Tryz.prog known t13 := Known.more follows k12 c13
noncomputable def e14 : Ent := ⟨[.v (.a [cb false, .sl 0 0 1 1 .none, ci 0]), .v (.a [cb true, .sl 1 0 1 1 (.some 1), ci 0])], [.cells 133 [c32 8], .cells 133 [c32 2]], .t [.a [cb false, .sl 2 0 1 1 (.some 1), ci 0], .c (ci 0)], [.cells 133 [c32 6]], []⟩
noncomputable def t14 : T (List Ent) := t13.set 135 (e14 :: Option.rec [] (fun l => l) (T.get t13 135))
theorem c14 : chkA e14 ((execM t13 Tryz.prog known 1000).call 135 e14.args (memE e14.ins)) = true := by kernel_rfl
theorem k14 : Known Tryz.prog known t14 := Known.more follows k13 c14
noncomputable def e15 : Ent := ⟨[.v (.a [cb false, .sl 0 0 1 1 .none, ci 0]), .v (.a [cb false, .sl 1 0 1 1 (.some 1), ci 0])], [.cells 133 [c32 8], .cells 133 [c32 2]], .t [.a [cb false, .sl 2 0 1 1 (.some 1), ci 0], .c (ci 0)], [.cells 133 [c32 6]], []⟩
noncomputable def t15 : T (List Ent) := t14.set 72 (e15 :: Option.rec [] (fun l => l) (T.get t14 72))
theorem c15 : chkA e15 ((execM t14 Tryz.prog known 1000).call 72 e15.args (memE e15.ins)) = true := by kernel_rfl
theorem k15 : Known Tryz.prog known t15 := Known.more follows k14 c15
noncomputable def e16 : Ent := ⟨[], [], .v (.c (cb true)), [], []⟩
noncomputable def t16 : T (List Ent) := t15.set 34 (e16 :: Option.rec [] (fun l => l) (T.get t15 34))
theorem c16 : chkA e16 ((execM t15 Tryz.prog known 1000).call 34 e16.args (memE e16.ins)) = true := by kernel_rfl
theorem k16 : Known Tryz.prog known t16 := Known.more follows k15 c16
theorem ran : trueR ((execM t16 Tryz.prog known 1000).call 6 [] ⟨.e, 0, big⟩) = true := by kernel_rfl
theorem last : Known Tryz.prog known t16 := k16
end SpreadNames
end Go.Proofs.YtgpokmkdnjhplaaGreatDoor
