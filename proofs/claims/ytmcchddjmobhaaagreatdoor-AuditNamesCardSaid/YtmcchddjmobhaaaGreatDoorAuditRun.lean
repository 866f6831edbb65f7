/- The kernel runs the closed call AuditNames to its end: what was run once is looked up. -/
import Derived.KernelRfl
import Derived.Lib.TrailingZeros
import Derived.Test.YtmcchddjmobhaaaGreatDoorProg
import Derived.Test.YtmcchddjmobhaaaGreatDoorExI
namespace Go.Proofs.YtmcchddjmobhaaaGreatDoor
open Go.Ex
noncomputable def known : Nat → Option (List Value) := fun g => Nat.rec (some (Lib.deBruijn32tab.map fun n : Nat => .int .u8 n)) (fun _ _ => none) g
namespace AuditNames
theorem follows : Tryz.prog.follows .mixedOrders = true := by kernel_rfl
noncomputable def t0 : T (List Ent) := .e
theorem k0 : Known Tryz.prog known t0 := known_none
noncomputable def e1 : Ent := ⟨[.v (.a [cb false, cz, ci 0]), .v (.a [cb false, .sl 0 0 1 1 (.some 1), ci 0])], [.cells 61 [c32 4, c32 0]], .t [.a [cb false, .sl 1 0 1 1 (.some 1), ci 0], .c (ci 0)], [.cells 61 [c32 4]], []⟩
noncomputable def t1 : T (List Ent) := t0.set 104 (e1 :: Option.rec [] (fun l => l) (T.get t0 104))
theorem chk1 : chkA e1 ((execM t0 Tryz.prog known 3000).call 104 e1.args (memE e1.ins)) = true := by kernel_rfl
theorem k1 : Known Tryz.prog known t1 := Known.more follows k0 chk1
noncomputable def e2 : Ent := ⟨[.v (.a [cb false, cz, ci 0]), .v (.a [cb false, .sl 0 0 1 1 (.some 1), ci 0])], [.cells 61 [c32 1, c32 0]], .t [.a [cb false, .sl 1 0 1 1 (.some 1), ci 0], .c (ci 0)], [.cells 61 [c32 1]], []⟩
noncomputable def t2 : T (List Ent) := t1.set 104 (e2 :: Option.rec [] (fun l => l) (T.get t1 104))
theorem chk2 : chkA e2 ((execM t1 Tryz.prog known 3000).call 104 e2.args (memE e2.ins)) = true := by kernel_rfl
theorem k2 : Known Tryz.prog known t2 := Known.more follows k1 chk2
noncomputable def e3 : Ent := ⟨[.v (.a [cb false, .sl 0 0 1 1 (.some 1), ci 0]), .v (.a [cb false, .sl 1 0 1 1 (.some 1), ci 0])], [.cells 61 [c32 4], .cells 61 [c32 8, c32 0]], .t [.a [cb false, .sl 2 0 1 1 (.some 1), ci 0], .c (ci 0)], [.cells 61 [c32 12]], []⟩
noncomputable def t3 : T (List Ent) := t2.set 104 (e3 :: Option.rec [] (fun l => l) (T.get t2 104))
theorem chk3 : chkA e3 ((execM t2 Tryz.prog known 3000).call 104 e3.args (memE e3.ins)) = true := by kernel_rfl
theorem k3 : Known Tryz.prog known t3 := Known.more follows k2 chk3
noncomputable def e4 : Ent := ⟨[.v (.a [cb false, .sl 0 0 1 1 (.some 1), ci 0]), .v (.a [cb false, .sl 1 0 1 1 (.some 1), ci 0])], [.cells 61 [c32 1], .cells 61 [c32 1, c32 0]], .t [.a [cb false, .sl 2 0 1 1 (.some 1), ci 0], .c (ci 0)], [.cells 61 [c32 2]], []⟩
noncomputable def t4 : T (List Ent) := t3.set 104 (e4 :: Option.rec [] (fun l => l) (T.get t3 104))
theorem chk4 : chkA e4 ((execM t3 Tryz.prog known 3000).call 104 e4.args (memE e4.ins)) = true := by kernel_rfl
theorem k4 : Known Tryz.prog known t4 := Known.more follows k3 chk4
noncomputable def e5 : Ent := ⟨[.v (.a [cb false, .sl 0 0 1 1 (.some 1), ci 0]), .v (.a [cb false, cz, ci 0])], [.cells 61 [c32 1]], .t [.a [cb false, .sl 1 0 1 1 (.some 1), ci 0], .c (ci 0)], [.cells 61 [c32 1]], []⟩
noncomputable def t5 : T (List Ent) := t4.set 104 (e5 :: Option.rec [] (fun l => l) (T.get t4 104))
theorem chk5 : chkA e5 ((execM t4 Tryz.prog known 3000).call 104 e5.args (memE e5.ins)) = true := by kernel_rfl
theorem k5 : Known Tryz.prog known t5 := Known.more follows k4 chk5
noncomputable def e6 : Ent := ⟨[.v (.a [cb false, cz, ci 0]), .v (.a [cb false, .sl 0 0 1 1 .none, ci 0])], [.cells 61 [c32 4]], .t [.a [cb false, .sl 1 0 1 1 (.some 1), ci 0], .c (ci 0)], [.cells 61 [c32 4]], []⟩
noncomputable def t6 : T (List Ent) := t5.set 104 (e6 :: Option.rec [] (fun l => l) (T.get t5 104))
theorem chk6 : chkA e6 ((execM t5 Tryz.prog known 3000).call 104 e6.args (memE e6.ins)) = true := by kernel_rfl
theorem k6 : Known Tryz.prog known t6 := Known.more follows k5 chk6
noncomputable def e7 : Ent := ⟨[.v (.a [cb false, cz, ci 0]), .v (.a [cb false, .sl 0 0 1 1 .none, ci 0])], [.cells 61 [c32 1]], .t [.a [cb false, .sl 1 0 1 1 (.some 1), ci 0], .c (ci 0)], [.cells 61 [c32 1]], []⟩
noncomputable def t7 : T (List Ent) := t6.set 104 (e7 :: Option.rec [] (fun l => l) (T.get t6 104))
theorem chk7 : chkA e7 ((execM t6 Tryz.prog known 3000).call 104 e7.args (memE e7.ins)) = true := by kernel_rfl
theorem k7 : Known Tryz.prog known t7 := Known.more follows k6 chk7
noncomputable def e8 : Ent := ⟨[.v (.a [cb false, .sl 0 0 1 1 (.some 1), ci 0]), .v (.a [cb false, .sl 1 0 1 1 .none, ci 0])], [.cells 61 [c32 4], .cells 61 [c32 8]], .t [.a [cb false, .sl 2 0 1 1 (.some 1), ci 0], .c (ci 0)], [.cells 61 [c32 12]], []⟩
noncomputable def t8 : T (List Ent) := t7.set 104 (e8 :: Option.rec [] (fun l => l) (T.get t7 104))
theorem chk8 : chkA e8 ((execM t7 Tryz.prog known 3000).call 104 e8.args (memE e8.ins)) = true := by kernel_rfl
theorem k8 : Known Tryz.prog known t8 := Known.more follows k7 chk8
noncomputable def e9 : Ent := ⟨[.v (.a [cb false, .sl 0 0 1 1 (.some 1), ci 0]), .v (.a [cb false, .sl 1 0 1 1 .none, ci 0])], [.cells 61 [c32 1], .cells 61 [c32 1]], .t [.a [cb false, .sl 2 0 1 1 (.some 1), ci 0], .c (ci 0)], [.cells 61 [c32 2]], []⟩
noncomputable def t9 : T (List Ent) := t8.set 104 (e9 :: Option.rec [] (fun l => l) (T.get t8 104))
theorem chk9 : chkA e9 ((execM t8 Tryz.prog known 3000).call 104 e9.args (memE e9.ins)) = true := by kernel_rfl
theorem k9 : Known Tryz.prog known t9 := Known.more follows k8 chk9
noncomputable def e10 : Ent := ⟨[.v (.a [cb false, .sl 0 0 1 1 (.some 1), ci 0]), .v (.a [cb false, .sl 1 0 0 1 (.some 0), ci 0])], [.cells 61 [c32 1], .cells 61 []], .t [.a [cb false, .sl 2 0 1 1 (.some 1), ci 0], .c (ci 0)], [.cells 61 [c32 1]], []⟩
noncomputable def t10 : T (List Ent) := t9.set 104 (e10 :: Option.rec [] (fun l => l) (T.get t9 104))
theorem chk10 : chkA e10 ((execM t9 Tryz.prog known 3000).call 104 e10.args (memE e10.ins)) = true := by kernel_rfl
theorem k10 : Known Tryz.prog known t10 := Known.more follows k9 chk10
noncomputable def e11 : Ent := ⟨[.v (.a [cb false, .sl 0 0 1 1 (.some 1), ci 0]), .v (.a [cb false, .sl 1 0 1 1 .none, ci 0])], [.cells 61 [c32 4], .cells 61 [c32 9]], .t [.a [cb false, .sl 2 0 1 1 (.some 1), ci 0], .c (ci 0)], [.cells 61 [c32 13]], []⟩
noncomputable def t11 : T (List Ent) := t10.set 104 (e11 :: Option.rec [] (fun l => l) (T.get t10 104))
theorem chk11 : chkA e11 ((execM t10 Tryz.prog known 3000).call 104 e11.args (memE e11.ins)) = true := by kernel_rfl
theorem k11 : Known Tryz.prog known t11 := Known.more follows k10 chk11
noncomputable def e12 : Ent := ⟨[.v (.a [cb false, cz, ci 0]), .v (.a [cb false, .sl 0 0 1 1 (.some 1), ci 0])], [.cells 61 [c32 12]], .t [.a [cb false, .sl 1 0 1 1 (.some 1), ci 0], .c (ci 0)], [.cells 61 [c32 12]], []⟩
noncomputable def t12 : T (List Ent) := t11.set 104 (e12 :: Option.rec [] (fun l => l) (T.get t11 104))
theorem chk12 : chkA e12 ((execM t11 Tryz.prog known 3000).call 104 e12.args (memE e12.ins)) = true := by kernel_rfl
theorem k12 : Known Tryz.prog known t12 := Known.more follows k11 chk12
noncomputable def e13 : Ent := ⟨[.v (.a [cb false, cz, ci 0]), .v (.a [cb false, .sl 0 0 1 1 (.some 1), ci 0])], [.cells 61 [c32 2]], .t [.a [cb false, .sl 1 0 1 1 (.some 1), ci 0], .c (ci 0)], [.cells 61 [c32 2]], []⟩
noncomputable def t13 : T (List Ent) := t12.set 104 (e13 :: Option.rec [] (fun l => l) (T.get t12 104))
theorem chk13 : chkA e13 ((execM t12 Tryz.prog known 3000).call 104 e13.args (memE e13.ins)) = true := by kernel_rfl
theorem k13 : Known Tryz.prog known t13 := Known.more follows k12 chk13
noncomputable def e14 : Ent := ⟨[.v (.a [cb false, cz, ci 0]), .v (.a [cb false, .sl 0 0 1 1 (.some 1), ci 0])], [.cells 61 [c32 1]], .t [.a [cb false, .sl 1 0 1 1 (.some 1), ci 0], .c (ci 0)], [.cells 61 [c32 1]], []⟩
noncomputable def t14 : T (List Ent) := t13.set 104 (e14 :: Option.rec [] (fun l => l) (T.get t13 104))
theorem chk14 : chkA e14 ((execM t13 Tryz.prog known 3000).call 104 e14.args (memE e14.ins)) = true := by kernel_rfl
theorem k14 : Known Tryz.prog known t14 := Known.more follows k13 chk14
noncomputable def e15 : Ent := ⟨[.v (.a [cb false, cz, ci 0]), .v (.a [cb false, .sl 0 0 1 1 (.some 1), ci 0])], [.cells 61 [c32 13]], .t [.a [cb false, .sl 1 0 1 1 (.some 1), ci 0], .c (ci 0)], [.cells 61 [c32 13]], []⟩
noncomputable def t15 : T (List Ent) := t14.set 104 (e15 :: Option.rec [] (fun l => l) (T.get t14 104))
theorem chk15 : chkA e15 ((execM t14 Tryz.prog known 3000).call 104 e15.args (memE e15.ins)) = true := by kernel_rfl
theorem k15 : Known Tryz.prog known t15 := Known.more follows k14 chk15
noncomputable def e16 : Ent := ⟨[.v (.a [cb false, .sl 0 0 1 1 (.some 1), ci 0]), .v (.a [cb false, cz, ci 0])], [.cells 61 [c32 12]], .t [.a [cb false, .sl 1 0 1 1 (.some 1), ci 0], .c (ci 0)], [.cells 61 [c32 12]], []⟩
noncomputable def t16 : T (List Ent) := t15.set 104 (e16 :: Option.rec [] (fun l => l) (T.get t15 104))
theorem chk16 : chkA e16 ((execM t15 Tryz.prog known 3000).call 104 e16.args (memE e16.ins)) = true := by kernel_rfl
theorem k16 : Known Tryz.prog known t16 := Known.more follows k15 chk16
noncomputable def e17 : Ent := ⟨[.v (.a [cb false, .sl 0 0 1 1 (.some 1), ci 0]), .v (.a [cb false, cz, ci 0])], [.cells 61 [c32 2]], .t [.a [cb false, .sl 1 0 1 1 (.some 1), ci 0], .c (ci 0)], [.cells 61 [c32 2]], []⟩
noncomputable def t17 : T (List Ent) := t16.set 104 (e17 :: Option.rec [] (fun l => l) (T.get t16 104))
theorem chk17 : chkA e17 ((execM t16 Tryz.prog known 3000).call 104 e17.args (memE e17.ins)) = true := by kernel_rfl
theorem k17 : Known Tryz.prog known t17 := Known.more follows k16 chk17
noncomputable def e18 : Ent := ⟨[.v (.a [cb false, .sl 0 0 1 1 (.some 1), ci 0]), .v (.a [cb false, cz, ci 0])], [.cells 61 [c32 13]], .t [.a [cb false, .sl 1 0 1 1 (.some 1), ci 0], .c (ci 0)], [.cells 61 [c32 13]], []⟩
noncomputable def t18 : T (List Ent) := t17.set 104 (e18 :: Option.rec [] (fun l => l) (T.get t17 104))
theorem chk18 : chkA e18 ((execM t17 Tryz.prog known 3000).call 104 e18.args (memE e18.ins)) = true := by kernel_rfl
theorem k18 : Known Tryz.prog known t18 := Known.more follows k17 chk18
noncomputable def e19 : Ent := ⟨[.v (.a [cb false, cz, ci 0]), .v (.a [cb false, cz, ci 0])], [], .t [.a [cb false, cz, ci 0], .c (ci 0)], [], []⟩
noncomputable def t19 : T (List Ent) := t18.set 104 (e19 :: Option.rec [] (fun l => l) (T.get t18 104))
theorem chk19 : chkA e19 ((execM t18 Tryz.prog known 3000).call 104 e19.args (memE e19.ins)) = true := by kernel_rfl
theorem k19 : Known Tryz.prog known t19 := Known.more follows k18 chk19
noncomputable def e20 : Ent := ⟨[.v (.a [cb false, cz, ci 0]), .v (.a [cb false, .sl 0 0 1 1 .none, ci 0])], [.cells 61 [c32 2]], .t [.a [cb false, .sl 1 0 1 1 (.some 1), ci 0], .c (ci 0)], [.cells 61 [c32 2]], []⟩
noncomputable def t20 : T (List Ent) := t19.set 104 (e20 :: Option.rec [] (fun l => l) (T.get t19 104))
theorem chk20 : chkA e20 ((execM t19 Tryz.prog known 3000).call 104 e20.args (memE e20.ins)) = true := by kernel_rfl
theorem k20 : Known Tryz.prog known t20 := Known.more follows k19 chk20
noncomputable def e21 : Ent := ⟨[.v (.a [cb false, cz, ci 0]), .v (.a [cb false, .sl 0 0 1 1 .none, ci 1])], [.cells 61 [c32 1]], .t [.a [cb false, .sl 1 0 1 1 (.some 1), ci 1], .c (ci 0)], [.cells 61 [c32 1]], []⟩
noncomputable def t21 : T (List Ent) := t20.set 104 (e21 :: Option.rec [] (fun l => l) (T.get t20 104))
theorem chk21 : chkA e21 ((execM t20 Tryz.prog known 3000).call 104 e21.args (memE e21.ins)) = true := by kernel_rfl
theorem k21 : Known Tryz.prog known t21 := Known.more follows k20 chk21
noncomputable def e22 : Ent := ⟨[.v (.a [cb false, .sl 0 0 1 1 (.some 1), ci 0]), .v (.a [cb false, .sl 1 0 1 1 .none, ci 0])], [.cells 61 [c32 2], .cells 61 [c32 8]], .t [.a [cb false, .sl 2 0 1 1 (.some 1), ci 0], .c (ci 0)], [.cells 61 [c32 10]], []⟩
noncomputable def t22 : T (List Ent) := t21.set 104 (e22 :: Option.rec [] (fun l => l) (T.get t21 104))
theorem chk22 : chkA e22 ((execM t21 Tryz.prog known 3000).call 104 e22.args (memE e22.ins)) = true := by kernel_rfl
theorem k22 : Known Tryz.prog known t22 := Known.more follows k21 chk22
noncomputable def e23 : Ent := ⟨[.v (.a [cb false, .sl 0 0 1 1 (.some 1), ci 1]), .v (.a [cb false, .sl 1 0 1 1 .none, ci 0])], [.cells 61 [c32 1], .cells 61 [c32 1]], .t [.a [cb false, .sl 2 0 1 1 (.some 1), ci 1], .c (ci 0)], [.cells 61 [c32 3]], []⟩
noncomputable def t23 : T (List Ent) := t22.set 104 (e23 :: Option.rec [] (fun l => l) (T.get t22 104))
theorem chk23 : chkA e23 ((execM t22 Tryz.prog known 3000).call 104 e23.args (memE e23.ins)) = true := by kernel_rfl
theorem k23 : Known Tryz.prog known t23 := Known.more follows k22 chk23
noncomputable def e24 : Ent := ⟨[.v (.a [cb false, cz, ci 0]), .v (.a [cb false, .sl 0 0 1 1 (.some 1), ci 0])], [.cells 61 [c32 10]], .t [.a [cb false, .sl 1 0 1 1 (.some 1), ci 0], .c (ci 0)], [.cells 61 [c32 10]], []⟩
noncomputable def t24 : T (List Ent) := t23.set 104 (e24 :: Option.rec [] (fun l => l) (T.get t23 104))
theorem chk24 : chkA e24 ((execM t23 Tryz.prog known 3000).call 104 e24.args (memE e24.ins)) = true := by kernel_rfl
theorem k24 : Known Tryz.prog known t24 := Known.more follows k23 chk24
noncomputable def e25 : Ent := ⟨[.v (.a [cb false, cz, ci 0]), .v (.a [cb false, .sl 0 0 1 1 (.some 1), ci 1])], [.cells 61 [c32 3]], .t [.a [cb false, .sl 1 0 1 1 (.some 1), ci 1], .c (ci 0)], [.cells 61 [c32 3]], []⟩
noncomputable def t25 : T (List Ent) := t24.set 104 (e25 :: Option.rec [] (fun l => l) (T.get t24 104))
theorem chk25 : chkA e25 ((execM t24 Tryz.prog known 3000).call 104 e25.args (memE e25.ins)) = true := by kernel_rfl
theorem k25 : Known Tryz.prog known t25 := Known.more follows k24 chk25
noncomputable def e26 : Ent := ⟨[.v (.a [cb false, .sl 0 0 1 1 (.some 1), ci 0]), .v (.a [cb false, cz, ci 0])], [.cells 61 [c32 10]], .t [.a [cb false, .sl 1 0 1 1 (.some 1), ci 0], .c (ci 0)], [.cells 61 [c32 10]], []⟩
noncomputable def t26 : T (List Ent) := t25.set 104 (e26 :: Option.rec [] (fun l => l) (T.get t25 104))
theorem chk26 : chkA e26 ((execM t25 Tryz.prog known 3000).call 104 e26.args (memE e26.ins)) = true := by kernel_rfl
theorem k26 : Known Tryz.prog known t26 := Known.more follows k25 chk26
noncomputable def e27 : Ent := ⟨[.v (.a [cb false, .sl 0 0 1 1 (.some 1), ci 1]), .v (.a [cb false, cz, ci 0])], [.cells 61 [c32 3]], .t [.a [cb false, .sl 1 0 1 1 (.some 1), ci 1], .c (ci 0)], [.cells 61 [c32 3]], []⟩
noncomputable def t27 : T (List Ent) := t26.set 104 (e27 :: Option.rec [] (fun l => l) (T.get t26 104))
theorem chk27 : chkA e27 ((execM t26 Tryz.prog known 3000).call 104 e27.args (memE e27.ins)) = true := by kernel_rfl
theorem k27 : Known Tryz.prog known t27 := Known.more follows k26 chk27
noncomputable def e28 : Ent := ⟨[.v (.a [cb false, .sl 0 0 1 1 (.some 1), ci 0]), .v (.a [cb false, .sl 1 0 1 1 (.some 1), ci 0])], [.cells 61 [c32 10], .cells 61 [c32 2]], .t [.a [cb false, .sl 2 0 1 1 (.some 1), ci 0], .c (ci 0)], [.cells 61 [c32 12]], []⟩
noncomputable def t28 : T (List Ent) := t27.set 104 (e28 :: Option.rec [] (fun l => l) (T.get t27 104))
theorem chk28 : chkA e28 ((execM t27 Tryz.prog known 3000).call 104 e28.args (memE e28.ins)) = true := by kernel_rfl
theorem k28 : Known Tryz.prog known t28 := Known.more follows k27 chk28
noncomputable def e29 : Ent := ⟨[.v (.a [cb false, .sl 0 0 1 1 (.some 1), ci 1]), .v (.a [cb false, .sl 1 0 1 1 (.some 1), ci 1])], [.cells 61 [c32 3], .cells 61 [c32 1]], .t [.a [cb false, .sl 2 0 1 1 (.some 1), ci 0], .c (ci 0)], [.cells 61 [c32 2]], []⟩
noncomputable def t29 : T (List Ent) := t28.set 104 (e29 :: Option.rec [] (fun l => l) (T.get t28 104))
theorem chk29 : chkA e29 ((execM t28 Tryz.prog known 3000).call 104 e29.args (memE e29.ins)) = true := by kernel_rfl
theorem k29 : Known Tryz.prog known t29 := Known.more follows k28 chk29
noncomputable def e30 : Ent := ⟨[.v (.a [cb false, .sl 0 0 1 1 (.some 1), ci 0]), .v (.a [cb false, .sl 1 0 1 1 (.some 1), ci 0])], [.cells 61 [c32 4, c32 0], .cells 61 [c32 4]], .t [.c (ci 0), .c (ci 0)], [], []⟩
noncomputable def t30 : T (List Ent) := t29.set 129 (e30 :: Option.rec [] (fun l => l) (T.get t29 129))
theorem chk30 : chkA e30 ((execM t29 Tryz.prog known 3000).call 129 e30.args (memE e30.ins)) = true := by kernel_rfl
theorem k30 : Known Tryz.prog known t30 := Known.more follows k29 chk30
noncomputable def e31 : Ent := ⟨[.v (.a [cb false, .sl 0 0 1 1 (.some 1), ci 0]), .v (.a [cb false, .sl 1 0 1 1 (.some 1), ci 0])], [.cells 61 [c32 4], .cells 61 [c32 8, c32 0]], .t [.c (cm 0), .c (ci 0)], [], []⟩
noncomputable def t31 : T (List Ent) := t30.set 129 (e31 :: Option.rec [] (fun l => l) (T.get t30 129))
theorem chk31 : chkA e31 ((execM t30 Tryz.prog known 3000).call 129 e31.args (memE e31.ins)) = true := by kernel_rfl
theorem k31 : Known Tryz.prog known t31 := Known.more follows k30 chk31
noncomputable def e32 : Ent := ⟨[.v (.a [cb false, .sl 0 0 1 1 (.some 1), ci 0]), .v (.a [cb false, .sl 1 0 1 1 .none, ci 0])], [.cells 61 [c32 4, c32 0], .cells 61 [c32 4]], .t [.c (ci 0), .c (ci 0)], [], []⟩
noncomputable def t32 : T (List Ent) := t31.set 129 (e32 :: Option.rec [] (fun l => l) (T.get t31 129))
theorem chk32 : chkA e32 ((execM t31 Tryz.prog known 3000).call 129 e32.args (memE e32.ins)) = true := by kernel_rfl
theorem k32 : Known Tryz.prog known t32 := Known.more follows k31 chk32
noncomputable def e33 : Ent := ⟨[.v (.a [cb false, .sl 0 0 1 1 .none, ci 0]), .v (.a [cb false, .sl 1 0 1 1 (.some 1), ci 0])], [.cells 61 [c32 4], .cells 61 [c32 8, c32 0]], .t [.c (cm 0), .c (ci 0)], [], []⟩
noncomputable def t33 : T (List Ent) := t32.set 129 (e33 :: Option.rec [] (fun l => l) (T.get t32 129))
theorem chk33 : chkA e33 ((execM t32 Tryz.prog known 3000).call 129 e33.args (memE e33.ins)) = true := by kernel_rfl
theorem k33 : Known Tryz.prog known t33 := Known.more follows k32 chk33
noncomputable def e34 : Ent := ⟨[.v (.a [cb false, .sl 0 0 0 1 (.some 0), ci 0]), .v (.a [cb false, .sl 1 0 1 1 .none, ci 0])], [.cells 61 [c32 0, c32 0], .cells 61 [c32 1]], .t [.c (cm 0), .c (ci 0)], [], []⟩
noncomputable def t34 : T (List Ent) := t33.set 129 (e34 :: Option.rec [] (fun l => l) (T.get t33 129))
theorem chk34 : chkA e34 ((execM t33 Tryz.prog known 3000).call 129 e34.args (memE e34.ins)) = true := by kernel_rfl
theorem k34 : Known Tryz.prog known t34 := Known.more follows k33 chk34
noncomputable def e35 : Ent := ⟨[.v (.a [cb false, .sl 0 0 1 1 .none, ci 0]), .v (.a [cb false, .sl 1 0 1 1 (.some 1), ci 0])], [.cells 61 [c32 1], .cells 61 [c32 1, c32 0]], .t [.c (ci 0), .c (ci 0)], [], []⟩
noncomputable def t35 : T (List Ent) := t34.set 129 (e35 :: Option.rec [] (fun l => l) (T.get t34 129))
theorem chk35 : chkA e35 ((execM t34 Tryz.prog known 3000).call 129 e35.args (memE e35.ins)) = true := by kernel_rfl
theorem k35 : Known Tryz.prog known t35 := Known.more follows k34 chk35
noncomputable def e36 : Ent := ⟨[.v (.a [cb false, .sl 0 0 1 1 (.some 1), ci 0]), .v (.a [cb false, .sl 1 0 1 1 (.some 1), ci 0])], [.cells 61 [c32 4, c32 0], .cells 61 [c32 8]], .t [.c (cm 0), .c (ci 0)], [], []⟩
noncomputable def t36 : T (List Ent) := t35.set 129 (e36 :: Option.rec [] (fun l => l) (T.get t35 129))
theorem chk36 : chkA e36 ((execM t35 Tryz.prog known 3000).call 129 e36.args (memE e36.ins)) = true := by kernel_rfl
theorem k36 : Known Tryz.prog known t36 := Known.more follows k35 chk36
noncomputable def e37 : Ent := ⟨[.v (.a [cb false, .sl 0 0 1 1 (.some 1), ci 0]), .v (.a [cb false, .sl 1 0 1 1 (.some 1), ci 0])], [.cells 61 [c32 8], .cells 61 [c32 8, c32 0]], .t [.c (ci 0), .c (ci 0)], [], []⟩
noncomputable def t37 : T (List Ent) := t36.set 129 (e37 :: Option.rec [] (fun l => l) (T.get t36 129))
theorem chk37 : chkA e37 ((execM t36 Tryz.prog known 3000).call 129 e37.args (memE e37.ins)) = true := by kernel_rfl
theorem k37 : Known Tryz.prog known t37 := Known.more follows k36 chk37
noncomputable def e38 : Ent := ⟨[.v (.a [cb false, .sl 0 0 1 1 (.some 1), ci 0]), .v (.a [cb false, .sl 1 0 1 1 (.some 1), ci 0])], [.cells 61 [c32 4, c32 0], .cells 61 [c32 9, c32 0]], .t [.c (cm 0), .c (ci 0)], [], []⟩
noncomputable def t38 : T (List Ent) := t37.set 129 (e38 :: Option.rec [] (fun l => l) (T.get t37 129))
theorem chk38 : chkA e38 ((execM t37 Tryz.prog known 3000).call 129 e38.args (memE e38.ins)) = true := by kernel_rfl
theorem k38 : Known Tryz.prog known t38 := Known.more follows k37 chk38
noncomputable def e39 : Ent := ⟨[.v (.a [cb false, .sl 0 0 1 1 (.some 1), ci 0]), .v (.a [cb false, .sl 1 0 1 1 (.some 1), ci 0])], [.cells 61 [c32 9, c32 0], .cells 61 [c32 8, c32 0]], .t [.c (ci 1), .c (ci 0)], [], []⟩
noncomputable def t39 : T (List Ent) := t38.set 129 (e39 :: Option.rec [] (fun l => l) (T.get t38 129))
theorem chk39 : chkA e39 ((execM t38 Tryz.prog known 3000).call 129 e39.args (memE e39.ins)) = true := by kernel_rfl
theorem k39 : Known Tryz.prog known t39 := Known.more follows k38 chk39
noncomputable def e40 : Ent := ⟨[.v (.a [cb false, .sl 0 0 1 1 (.some 1), ci 0]), .v (.a [cb false, .sl 1 0 1 1 .none, ci 0])], [.cells 61 [c32 4, c32 0], .cells 61 [c32 8]], .t [.c (cm 0), .c (ci 0)], [], []⟩
noncomputable def t40 : T (List Ent) := t39.set 129 (e40 :: Option.rec [] (fun l => l) (T.get t39 129))
theorem chk40 : chkA e40 ((execM t39 Tryz.prog known 3000).call 129 e40.args (memE e40.ins)) = true := by kernel_rfl
theorem k40 : Known Tryz.prog known t40 := Known.more follows k39 chk40
noncomputable def e41 : Ent := ⟨[.v (.a [cb false, .sl 0 0 1 1 .none, ci 0]), .v (.a [cb false, .sl 1 0 1 1 (.some 1), ci 0])], [.cells 61 [c32 8], .cells 61 [c32 8, c32 0]], .t [.c (ci 0), .c (ci 0)], [], []⟩
noncomputable def t41 : T (List Ent) := t40.set 129 (e41 :: Option.rec [] (fun l => l) (T.get t40 129))
theorem chk41 : chkA e41 ((execM t40 Tryz.prog known 3000).call 129 e41.args (memE e41.ins)) = true := by kernel_rfl
theorem k41 : Known Tryz.prog known t41 := Known.more follows k40 chk41
noncomputable def e42 : Ent := ⟨[.v (.a [cb false, .sl 0 0 0 1 (.some 0), ci 0]), .v (.a [cb false, cz, ci 0])], [.cells 61 [c32 0, c32 0]], .t [.c (ci 0), .c (ci 0)], [], []⟩
noncomputable def t42 : T (List Ent) := t41.set 129 (e42 :: Option.rec [] (fun l => l) (T.get t41 129))
theorem chk42 : chkA e42 ((execM t41 Tryz.prog known 3000).call 129 e42.args (memE e42.ins)) = true := by kernel_rfl
theorem k42 : Known Tryz.prog known t42 := Known.more follows k41 chk42
noncomputable def e43 : Ent := ⟨[.v (.a [cb false, cz, ci 0]), .v (.a [cb false, .sl 0 0 1 1 (.some 1), ci 0])], [.cells 61 [c32 1, c32 0]], .t [.c (cm 0), .c (ci 0)], [], []⟩
noncomputable def t43 : T (List Ent) := t42.set 129 (e43 :: Option.rec [] (fun l => l) (T.get t42 129))
theorem chk43 : chkA e43 ((execM t42 Tryz.prog known 3000).call 129 e43.args (memE e43.ins)) = true := by kernel_rfl
theorem k43 : Known Tryz.prog known t43 := Known.more follows k42 chk43
noncomputable def e44 : Ent := ⟨[.v (.a [cb false, .sl 0 0 1 1 .none, ci 0]), .v (.a [cb false, .sl 1 0 1 1 .none, ci 0]), .v (.c (ci 0))], [.cells 61 [c32 4], .cells 61 [c32 1]], .t [.a [c32 4, c32 0, c32 0, c32 0, c32 0, c32 0, c32 0, c32 0, c32 0, c32 0, c32 0, c32 0, c32 0, c32 0, c32 0, c32 0, c32 0, c32 0, c32 0, c32 0, c32 0, c32 0, c32 0, c32 0, c32 0, c32 0, c32 0, c32 0, c32 0, c32 0, c32 0, c32 0, c32 0, c32 0, c32 0, c32 0, c32 0, c32 0, c32 0, c32 0, c32 0, c32 0, c32 0, c32 0, c32 0, c32 0, c32 0, c32 0, c32 0, c32 0, c32 0, c32 0, c32 0, c32 0, c32 0, c32 0, c32 0, c32 0, c32 0, c32 0, c32 0, c32 0, c32 0, c32 0, c32 0, c32 0, c32 0, c32 0, c32 0, c32 0, c32 0, c32 0, c32 0, c32 0, c32 0, c32 0], .c (cb false)], [], []⟩
noncomputable def t44 : T (List Ent) := t43.set 230 (e44 :: Option.rec [] (fun l => l) (T.get t43 230))
theorem chk44 : chkA e44 ((execM t43 Tryz.prog known 3000).call 230 e44.args (memE e44.ins)) = true := by kernel_rfl
theorem k44 : Known Tryz.prog known t44 := Known.more follows k43 chk44
noncomputable def e45 : Ent := ⟨[.v (.a [cb false, .sl 0 0 1 1 .none, ci 0]), .v (.a [cb false, .sl 1 0 1 1 .none, ci 0]), .v (.c (ci 0))], [.cells 61 [c32 8], .cells 61 [c32 1]], .t [.a [c32 8, c32 0, c32 0, c32 0, c32 0, c32 0, c32 0, c32 0, c32 0, c32 0, c32 0, c32 0, c32 0, c32 0, c32 0, c32 0, c32 0, c32 0, c32 0, c32 0, c32 0, c32 0, c32 0, c32 0, c32 0, c32 0, c32 0, c32 0, c32 0, c32 0, c32 0, c32 0, c32 0, c32 0, c32 0, c32 0, c32 0, c32 0, c32 0, c32 0, c32 0, c32 0, c32 0, c32 0, c32 0, c32 0, c32 0, c32 0, c32 0, c32 0, c32 0, c32 0, c32 0, c32 0, c32 0, c32 0, c32 0, c32 0, c32 0, c32 0, c32 0, c32 0, c32 0, c32 0, c32 0, c32 0, c32 0, c32 0, c32 0, c32 0, c32 0, c32 0, c32 0, c32 0, c32 0, c32 0], .c (cb false)], [], []⟩
noncomputable def t45 : T (List Ent) := t44.set 230 (e45 :: Option.rec [] (fun l => l) (T.get t44 230))
theorem chk45 : chkA e45 ((execM t44 Tryz.prog known 3000).call 230 e45.args (memE e45.ins)) = true := by kernel_rfl
theorem k45 : Known Tryz.prog known t45 := Known.more follows k44 chk45
noncomputable def e46 : Ent := ⟨[.v (.a [ci 0, ci 2, cz])], [], .v (.c (ci 0)), [], []⟩
noncomputable def t46 : T (List Ent) := t45.set 138 (e46 :: Option.rec [] (fun l => l) (T.get t45 138))
theorem chk46 : chkA e46 ((execM t45 Tryz.prog known 3000).call 138 e46.args (memE e46.ins)) = true := by kernel_rfl
theorem k46 : Known Tryz.prog known t46 := Known.more follows k45 chk46
noncomputable def e47 : Ent := ⟨[.v (.a [ci 0, ci 2, .sl 0 0 1 2 .none])], [.cells 122 [ci 1, ci 0]], .v (.c (ci 0)), [], []⟩
noncomputable def t47 : T (List Ent) := t46.set 138 (e47 :: Option.rec [] (fun l => l) (T.get t46 138))
theorem chk47 : chkA e47 ((execM t46 Tryz.prog known 3000).call 138 e47.args (memE e47.ins)) = true := by kernel_rfl
theorem k47 : Known Tryz.prog known t47 := Known.more follows k46 chk47
noncomputable def e48 : Ent := ⟨[.v (.a [ci 1, ci 2, cz])], [], .v (.c (ci 0)), [], []⟩
noncomputable def t48 : T (List Ent) := t47.set 138 (e48 :: Option.rec [] (fun l => l) (T.get t47 138))
theorem chk48 : chkA e48 ((execM t47 Tryz.prog known 3000).call 138 e48.args (memE e48.ins)) = true := by kernel_rfl
theorem k48 : Known Tryz.prog known t48 := Known.more follows k47 chk48
noncomputable def e49 : Ent := ⟨[.v (.a [ci 1, ci 2, .sl 0 0 1 2 .none])], [.cells 122 [ci 0, ci 0]], .v (.c (ci 0)), [], []⟩
noncomputable def t49 : T (List Ent) := t48.set 138 (e49 :: Option.rec [] (fun l => l) (T.get t48 138))
theorem chk49 : chkA e49 ((execM t48 Tryz.prog known 3000).call 138 e49.args (memE e49.ins)) = true := by kernel_rfl
theorem k49 : Known Tryz.prog known t49 := Known.more follows k48 chk49
noncomputable def e50 : Ent := ⟨[.v (.a [ci 0, ci 4, cb true, ci 9, ci 0, ci 0, ci 0, ci 0, cb false, cz, ci 0, cb false, cz, ci 0, cb false, cz, ci 0, cb false, cz, ci 0, cb false, ci 0, ci 0, cz, cb false, ci 0, ci 0, cz, ci 0, ci 2, .sl 0 0 1 2 .none, cz, cz])], [.cells 122 [ci 1, ci 0]], .v (.c (ci 0)), [], []⟩
noncomputable def t50 : T (List Ent) := t49.set 53 (e50 :: Option.rec [] (fun l => l) (T.get t49 53))
theorem chk50 : chkA e50 ((execM t49 Tryz.prog known 3000).call 53 e50.args (memE e50.ins)) = true := by kernel_rfl
theorem k50 : Known Tryz.prog known t50 := Known.more follows k49 chk50
noncomputable def e51 : Ent := ⟨[.v (.a [ci 1, ci 8, cb true, ci 9, ci 0, ci 0, ci 0, ci 0, cb false, cz, ci 0, cb false, cz, ci 0, cb false, cz, ci 0, cb false, cz, ci 0, cb false, ci 0, ci 0, cz, cb false, ci 0, ci 0, cz, ci 1, ci 2, .sl 0 0 1 2 .none, cz, cz])], [.cells 122 [ci 0, ci 0]], .v (.c (ci 0)), [], []⟩
noncomputable def t51 : T (List Ent) := t50.set 53 (e51 :: Option.rec [] (fun l => l) (T.get t50 53))
theorem chk51 : chkA e51 ((execM t50 Tryz.prog known 3000).call 53 e51.args (memE e51.ins)) = true := by kernel_rfl
theorem k51 : Known Tryz.prog known t51 := Known.more follows k50 chk51
noncomputable def e52 : Ent := ⟨[.v (.a [ci 0, ci 4, cb true, ci 9, ci 0, ci 0, ci 0, ci 0, cb false, .sl 0 0 1 1 (.some 1), ci 0, cb false, .sl 1 0 1 1 (.some 1), ci 0, cb false, .sl 2 0 1 1 (.some 1), ci 0, cb false, .sl 3 0 1 1 (.some 1), ci 0, cb true, ci 4, ci 4, .sl 4 0 4 1 .none, cb false, ci 0, ci 0, cz, ci 0, ci 2, .sl 5 0 1 2 .none, cz, cz])], [.cells 61 [c32 4, c32 0], .cells 61 [c32 1, c32 0], .cells 61 [c32 1, c32 0], .cells 61 [c32 4, c32 0], .cells 61 [c32 0, c32 372365339, c32 3135421029, c32 3801526361], .cells 122 [ci 1, ci 0]], .v (.c (ci 0)), [], []⟩
noncomputable def t52 : T (List Ent) := t51.set 53 (e52 :: Option.rec [] (fun l => l) (T.get t51 53))
theorem chk52 : chkA e52 ((execM t51 Tryz.prog known 3000).call 53 e52.args (memE e52.ins)) = true := by kernel_rfl
theorem k52 : Known Tryz.prog known t52 := Known.more follows k51 chk52
noncomputable def e53 : Ent := ⟨[.v (.a [ci 1, ci 8, cb true, ci 9, ci 0, ci 0, ci 0, ci 0, cb false, .sl 0 0 1 1 (.some 1), ci 0, cb false, .sl 1 0 1 1 (.some 1), ci 0, cb false, cz, ci 0, cb false, .sl 2 0 1 1 (.some 1), ci 0, cb true, ci 8, ci 8, .sl 3 0 4 1 .none, cb false, ci 0, ci 0, cz, ci 1, ci 2, .sl 4 0 1 2 .none, cz, cz])], [.cells 61 [c32 8, c32 0], .cells 61 [c32 1, c32 0], .cells 61 [c32 8, c32 0], .cells 61 [c32 2696510205, c32 3303887172, c32 3676883707, c32 4034285998], .cells 122 [ci 0, ci 0]], .v (.c (ci 0)), [], []⟩
noncomputable def t53 : T (List Ent) := t52.set 53 (e53 :: Option.rec [] (fun l => l) (T.get t52 53))
theorem chk53 : chkA e53 ((execM t52 Tryz.prog known 3000).call 53 e53.args (memE e53.ins)) = true := by kernel_rfl
theorem k53 : Known Tryz.prog known t53 := Known.more follows k52 chk53
noncomputable def e54 : Ent := ⟨[.v (.a [ci 0, ci 4, cb true, ci 9, ci 0, ci 0, ci 0, ci 0, cb false, .sl 0 0 1 1 .none, ci 0, cb false, .sl 1 0 1 1 .none, ci 0, cb false, .sl 2 0 1 1 .none, ci 0, cb false, .sl 3 0 1 1 .none, ci 0, cb true, ci 4, ci 4, .sl 4 0 4 1 .none, cb false, ci 0, ci 0, cz, ci 0, ci 2, .sl 5 0 1 2 .none, cz, cz])], [.cells 61 [c32 4], .cells 61 [c32 1], .cells 61 [c32 1], .cells 61 [c32 4], .cells 61 [c32 0, c32 372365339, c32 3135421029, c32 3801526361], .cells 122 [ci 1, ci 0]], .v (.c (ci 0)), [], []⟩
noncomputable def t54 : T (List Ent) := t53.set 53 (e54 :: Option.rec [] (fun l => l) (T.get t53 53))
theorem chk54 : chkA e54 ((execM t53 Tryz.prog known 3000).call 53 e54.args (memE e54.ins)) = true := by kernel_rfl
theorem k54 : Known Tryz.prog known t54 := Known.more follows k53 chk54
noncomputable def e55 : Ent := ⟨[.v (.a [ci 1, ci 8, cb true, ci 9, ci 0, ci 0, ci 0, ci 0, cb false, .sl 0 0 1 1 .none, ci 0, cb false, .sl 1 0 1 1 .none, ci 0, cb false, cz, ci 0, cb false, .sl 2 0 1 1 .none, ci 0, cb true, ci 8, ci 8, .sl 3 0 4 1 .none, cb false, ci 0, ci 0, cz, ci 1, ci 2, .sl 4 0 1 2 .none, cz, cz])], [.cells 61 [c32 8], .cells 61 [c32 1], .cells 61 [c32 8], .cells 61 [c32 2696510205, c32 3303887172, c32 3676883707, c32 4034285998], .cells 122 [ci 0, ci 0]], .v (.c (ci 0)), [], []⟩
noncomputable def t55 : T (List Ent) := t54.set 53 (e55 :: Option.rec [] (fun l => l) (T.get t54 53))
theorem chk55 : chkA e55 ((execM t54 Tryz.prog known 3000).call 53 e55.args (memE e55.ins)) = true := by kernel_rfl
theorem k55 : Known Tryz.prog known t55 := Known.more follows k54 chk55
noncomputable def e56 : Ent := ⟨[.v (.a [ci 0, ci 4, cb true, ci 9, ci 0, ci 0, ci 0, ci 0, cb false, .sl 0 0 1 1 .none, ci 0, cb false, .sl 1 0 1 1 .none, ci 0, cb false, .sl 2 0 1 1 .none, ci 0, cb false, .sl 3 0 1 1 .none, ci 0, cb true, ci 4, ci 4, .sl 4 0 4 1 .none, cb false, ci 0, ci 0, .sl 5 0 0 1 (.some 0), ci 0, ci 2, .sl 6 0 1 2 .none, cz, .sl 7 0 0 2 (.some 0)])], [.cells 61 [c32 4], .cells 61 [c32 1], .cells 61 [c32 1], .cells 61 [c32 4], .cells 61 [c32 0, c32 372365339, c32 3135421029, c32 3801526361], .cells 3 [], .cells 122 [ci 1, ci 0], .cells 237 []], .v (.c (ci 0)), [], []⟩
noncomputable def t56 : T (List Ent) := t55.set 53 (e56 :: Option.rec [] (fun l => l) (T.get t55 53))
theorem chk56 : chkA e56 ((execM t55 Tryz.prog known 3000).call 53 e56.args (memE e56.ins)) = true := by kernel_rfl
theorem k56 : Known Tryz.prog known t56 := Known.more follows k55 chk56
noncomputable def e57 : Ent := ⟨[.v (.a [ci 1, ci 8, cb true, ci 9, ci 0, ci 0, ci 0, ci 0, cb false, .sl 0 0 1 1 .none, ci 0, cb false, .sl 1 0 1 1 .none, ci 0, cb false, .sl 2 0 0 1 (.some 0), ci 0, cb false, .sl 3 0 1 1 (.some 1), ci 0, cb true, ci 8, ci 8, .sl 4 0 4 1 .none, cb false, ci 0, ci 0, .sl 5 0 0 1 (.some 0), ci 1, ci 2, .sl 6 0 1 2 .none, cz, .sl 7 0 0 2 (.some 0)])], [.cells 61 [c32 8], .cells 61 [c32 1], .cells 61 [], .cells 61 [c32 9, c32 0], .cells 61 [c32 2696510205, c32 3303887172, c32 3676883707, c32 4034285998], .cells 3 [], .cells 122 [ci 0, ci 0], .cells 237 []], .v (.c (ci 0)), [], []⟩
noncomputable def t57 : T (List Ent) := t56.set 53 (e57 :: Option.rec [] (fun l => l) (T.get t56 53))
theorem chk57 : chkA e57 ((execM t56 Tryz.prog known 3000).call 53 e57.args (memE e57.ins)) = true := by kernel_rfl
theorem k57 : Known Tryz.prog known t57 := Known.more follows k56 chk57
noncomputable def e58 : Ent := ⟨[.v (.a [ci 0, ci 4, cb true, ci 9, ci 0, ci 0, ci 0, ci 0, cb false, .sl 0 0 1 1 .none, ci 0, cb false, .sl 1 0 1 1 .none, ci 0, cb false, .sl 2 0 1 1 .none, ci 0, cb false, .sl 3 0 1 1 .none, ci 0, cb true, ci 3, ci 4, .sl 4 0 4 1 .none, cb false, ci 0, ci 0, .sl 5 0 0 1 (.some 0), ci 0, ci 2, .sl 6 0 1 2 .none, cz, .sl 7 0 0 2 (.some 0)])], [.cells 61 [c32 4], .cells 61 [c32 1], .cells 61 [c32 1], .cells 61 [c32 4], .cells 61 [c32 0, c32 372365339, c32 3135421029, c32 3801526361], .cells 3 [], .cells 122 [ci 1, ci 0], .cells 237 []], .v (.c (ci 0)), [], []⟩
noncomputable def t58 : T (List Ent) := t57.set 53 (e58 :: Option.rec [] (fun l => l) (T.get t57 53))
theorem chk58 : chkA e58 ((execM t57 Tryz.prog known 3000).call 53 e58.args (memE e58.ins)) = true := by kernel_rfl
theorem k58 : Known Tryz.prog known t58 := Known.more follows k57 chk58
noncomputable def e59 : Ent := ⟨[.v (.a [ci 1, ci 8, cb true, ci 9, ci 0, ci 0, ci 0, ci 0, cb false, .sl 0 0 1 1 .none, ci 0, cb false, .sl 1 0 1 1 .none, ci 0, cb false, .sl 2 0 0 1 (.some 0), ci 0, cb false, .sl 3 0 1 1 .none, ci 0, cb true, ci 8, ci 8, .sl 4 0 4 1 .none, cb false, ci 0, ci 0, .sl 5 0 0 1 (.some 0), ci 1, ci 2, .sl 6 0 1 2 .none, cz, .sl 7 0 0 2 (.some 0)])], [.cells 61 [c32 8], .cells 61 [c32 1], .cells 61 [], .cells 61 [c32 8], .cells 61 [c32 2696510205, c32 3303887172, c32 3676883707, c32 4034285998], .cells 3 [], .cells 122 [ci 0, ci 0], .cells 237 []], .v (.c (ci 0)), [], []⟩
noncomputable def t59 : T (List Ent) := t58.set 53 (e59 :: Option.rec [] (fun l => l) (T.get t58 53))
theorem chk59 : chkA e59 ((execM t58 Tryz.prog known 3000).call 53 e59.args (memE e59.ins)) = true := by kernel_rfl
theorem k59 : Known Tryz.prog known t59 := Known.more follows k58 chk59
noncomputable def e60 : Ent := ⟨[.v (.a [ci 0, ci 4, cb true, ci 9, ci 0, ci 0, ci 0, ci 0, cb false, .sl 0 0 1 1 .none, ci 0, cb false, .sl 1 0 1 1 .none, ci 0, cb false, .sl 2 0 1 1 .none, ci 0, cb false, .sl 3 0 1 1 .none, ci 0, cb true, ci 4, ci 4, .sl 4 1 3 1 .none, cb false, ci 0, ci 0, .sl 5 0 0 1 (.some 0), ci 0, ci 2, .sl 6 0 1 2 .none, cz, .sl 7 0 0 2 (.some 0)])], [.cells 61 [c32 4], .cells 61 [c32 1], .cells 61 [c32 1], .cells 61 [c32 4], .cells 61 [c32 0, c32 372365340, c32 3135421029, c32 3801526361], .cells 3 [], .cells 122 [ci 1, ci 0], .cells 237 []], .v (.c (ci 0)), [], []⟩
noncomputable def t60 : T (List Ent) := t59.set 53 (e60 :: Option.rec [] (fun l => l) (T.get t59 53))
theorem chk60 : chkA e60 ((execM t59 Tryz.prog known 3000).call 53 e60.args (memE e60.ins)) = true := by kernel_rfl
theorem k60 : Known Tryz.prog known t60 := Known.more follows k59 chk60
noncomputable def e61 : Ent := ⟨[.v (.a [ci 0, ci 4, cb true, ci 9, ci 0, ci 0, ci 0, ci 0, cb false, .sl 0 0 1 1 .none, ci 0, cb false, .sl 1 0 1 1 .none, ci 1, cb false, .sl 2 0 1 1 .none, ci 0, cb false, .sl 3 0 1 1 .none, ci 0, cb true, ci 4, ci 4, .sl 4 0 4 1 .none, cb false, ci 0, ci 0, cz, ci 0, ci 2, .sl 5 0 1 2 .none, cz, cz])], [.cells 61 [c32 2], .cells 61 [c32 1], .cells 61 [c32 1], .cells 61 [c32 4], .cells 61 [c32 0, c32 372365339, c32 3135421029, c32 3801526361], .cells 122 [ci 1, ci 0]], .v (.c (ci 0)), [], []⟩
noncomputable def t61 : T (List Ent) := t60.set 53 (e61 :: Option.rec [] (fun l => l) (T.get t60 53))
theorem chk61 : chkA e61 ((execM t60 Tryz.prog known 3000).call 53 e61.args (memE e61.ins)) = true := by kernel_rfl
theorem k61 : Known Tryz.prog known t61 := Known.more follows k60 chk61
noncomputable def e62 : Ent := ⟨[.v (.a [cb false, cz, ci 0, cb false, cz, ci 0, cb false, cz, ci 0, cb false, cz, ci 0]), .v (.a [cb false, .sl 0 0 1 1 (.some 1), ci 0, cb false, .sl 1 0 1 1 (.some 1), ci 0, cb false, .sl 2 0 1 1 (.some 1), ci 0, cb false, .sl 3 0 1 1 (.some 1), ci 0])], [.cells 61 [c32 4, c32 0], .cells 61 [c32 1, c32 0], .cells 61 [c32 1, c32 0], .cells 61 [c32 4, c32 0]], .t [.a [cb false, .sl 4 0 1 1 (.some 1), ci 0, cb false, .sl 5 0 1 1 (.some 1), ci 0, cb false, .sl 6 0 1 1 (.some 1), ci 0, cb false, .sl 7 0 1 1 (.some 1), ci 0], .c (ci 0)], [.cells 61 [c32 4], .cells 61 [c32 1], .cells 61 [c32 1], .cells 61 [c32 4]], []⟩
noncomputable def t62 : T (List Ent) := t61.set 51 (e62 :: Option.rec [] (fun l => l) (T.get t61 51))
theorem chk62 : chkA e62 ((execM t61 Tryz.prog known 3000).call 51 e62.args (memE e62.ins)) = true := by kernel_rfl
theorem k62 : Known Tryz.prog known t62 := Known.more follows k61 chk62
noncomputable def e63 : Ent := ⟨[.v (.a [cb false, .sl 0 0 1 1 (.some 1), ci 0, cb false, .sl 1 0 1 1 (.some 1), ci 0, cb false, .sl 2 0 1 1 (.some 1), ci 0, cb false, .sl 3 0 1 1 (.some 1), ci 0]), .v (.a [cb false, .sl 4 0 1 1 (.some 1), ci 0, cb false, .sl 5 0 1 1 (.some 1), ci 0, cb false, cz, ci 0, cb false, .sl 6 0 1 1 (.some 1), ci 0])], [.cells 61 [c32 4], .cells 61 [c32 1], .cells 61 [c32 1], .cells 61 [c32 4], .cells 61 [c32 8, c32 0], .cells 61 [c32 1, c32 0], .cells 61 [c32 8, c32 0]], .t [.a [cb false, .sl 7 0 1 1 (.some 1), ci 0, cb false, .sl 8 0 1 1 (.some 1), ci 0, cb false, .sl 9 0 1 1 (.some 1), ci 0, cb false, .sl 10 0 1 1 (.some 1), ci 0], .c (ci 0)], [.cells 61 [c32 12], .cells 61 [c32 2], .cells 61 [c32 1], .cells 61 [c32 12]], []⟩
noncomputable def t63 : T (List Ent) := t62.set 51 (e63 :: Option.rec [] (fun l => l) (T.get t62 51))
theorem chk63 : chkA e63 ((execM t62 Tryz.prog known 3000).call 51 e63.args (memE e63.ins)) = true := by kernel_rfl
theorem k63 : Known Tryz.prog known t63 := Known.more follows k62 chk63
noncomputable def e64 : Ent := ⟨[.v (.a [cb false, cz, ci 0, cb false, cz, ci 0, cb false, cz, ci 0, cb false, cz, ci 0]), .v (.a [cb false, .sl 0 0 1 1 .none, ci 0, cb false, .sl 1 0 1 1 .none, ci 0, cb false, .sl 2 0 1 1 .none, ci 0, cb false, .sl 3 0 1 1 .none, ci 0])], [.cells 61 [c32 4], .cells 61 [c32 1], .cells 61 [c32 1], .cells 61 [c32 4]], .t [.a [cb false, .sl 4 0 1 1 (.some 1), ci 0, cb false, .sl 5 0 1 1 (.some 1), ci 0, cb false, .sl 6 0 1 1 (.some 1), ci 0, cb false, .sl 7 0 1 1 (.some 1), ci 0], .c (ci 0)], [.cells 61 [c32 4], .cells 61 [c32 1], .cells 61 [c32 1], .cells 61 [c32 4]], []⟩
noncomputable def t64 : T (List Ent) := t63.set 51 (e64 :: Option.rec [] (fun l => l) (T.get t63 51))
theorem chk64 : chkA e64 ((execM t63 Tryz.prog known 3000).call 51 e64.args (memE e64.ins)) = true := by kernel_rfl
theorem k64 : Known Tryz.prog known t64 := Known.more follows k63 chk64
noncomputable def e65 : Ent := ⟨[.v (.a [cb false, .sl 0 0 1 1 (.some 1), ci 0, cb false, .sl 1 0 1 1 (.some 1), ci 0, cb false, .sl 2 0 1 1 (.some 1), ci 0, cb false, .sl 3 0 1 1 (.some 1), ci 0]), .v (.a [cb false, .sl 4 0 1 1 .none, ci 0, cb false, .sl 5 0 1 1 .none, ci 0, cb false, .sl 6 0 0 1 (.some 0), ci 0, cb false, .sl 7 0 1 1 .none, ci 0])], [.cells 61 [c32 4], .cells 61 [c32 1], .cells 61 [c32 1], .cells 61 [c32 4], .cells 61 [c32 8], .cells 61 [c32 1], .cells 61 [], .cells 61 [c32 9]], .t [.a [cb false, .sl 8 0 1 1 (.some 1), ci 0, cb false, .sl 9 0 1 1 (.some 1), ci 0, cb false, .sl 10 0 1 1 (.some 1), ci 0, cb false, .sl 11 0 1 1 (.some 1), ci 0], .c (ci 0)], [.cells 61 [c32 12], .cells 61 [c32 2], .cells 61 [c32 1], .cells 61 [c32 13]], []⟩
noncomputable def t65 : T (List Ent) := t64.set 51 (e65 :: Option.rec [] (fun l => l) (T.get t64 51))
theorem chk65 : chkA e65 ((execM t64 Tryz.prog known 3000).call 51 e65.args (memE e65.ins)) = true := by kernel_rfl
theorem k65 : Known Tryz.prog known t65 := Known.more follows k64 chk65
noncomputable def e66 : Ent := ⟨[.v (.a [cb false, cz, ci 0, cb false, cz, ci 0, cb false, cz, ci 0, cb false, cz, ci 0]), .v (.a [cb false, .sl 0 0 1 1 (.some 1), ci 0, cb false, .sl 1 0 1 1 (.some 1), ci 0, cb false, .sl 2 0 1 1 (.some 1), ci 0, cb false, .sl 3 0 1 1 (.some 1), ci 0])], [.cells 61 [c32 12], .cells 61 [c32 2], .cells 61 [c32 1], .cells 61 [c32 13]], .t [.a [cb false, .sl 4 0 1 1 (.some 1), ci 0, cb false, .sl 5 0 1 1 (.some 1), ci 0, cb false, .sl 6 0 1 1 (.some 1), ci 0, cb false, .sl 7 0 1 1 (.some 1), ci 0], .c (ci 0)], [.cells 61 [c32 12], .cells 61 [c32 2], .cells 61 [c32 1], .cells 61 [c32 13]], []⟩
noncomputable def t66 : T (List Ent) := t65.set 51 (e66 :: Option.rec [] (fun l => l) (T.get t65 51))
theorem chk66 : chkA e66 ((execM t65 Tryz.prog known 3000).call 51 e66.args (memE e66.ins)) = true := by kernel_rfl
theorem k66 : Known Tryz.prog known t66 := Known.more follows k65 chk66
noncomputable def e67 : Ent := ⟨[.v (.a [cb false, .sl 0 0 1 1 (.some 1), ci 0, cb false, .sl 1 0 1 1 (.some 1), ci 0, cb false, .sl 2 0 1 1 (.some 1), ci 0, cb false, .sl 3 0 1 1 (.some 1), ci 0]), .v (.a [cb false, cz, ci 0, cb false, cz, ci 0, cb false, cz, ci 0, cb false, cz, ci 0])], [.cells 61 [c32 12], .cells 61 [c32 2], .cells 61 [c32 1], .cells 61 [c32 13]], .t [.a [cb false, .sl 4 0 1 1 (.some 1), ci 0, cb false, .sl 5 0 1 1 (.some 1), ci 0, cb false, .sl 6 0 1 1 (.some 1), ci 0, cb false, .sl 7 0 1 1 (.some 1), ci 0], .c (ci 0)], [.cells 61 [c32 12], .cells 61 [c32 2], .cells 61 [c32 1], .cells 61 [c32 13]], []⟩
noncomputable def t67 : T (List Ent) := t66.set 51 (e67 :: Option.rec [] (fun l => l) (T.get t66 51))
theorem chk67 : chkA e67 ((execM t66 Tryz.prog known 3000).call 51 e67.args (memE e67.ins)) = true := by kernel_rfl
theorem k67 : Known Tryz.prog known t67 := Known.more follows k66 chk67
noncomputable def e68 : Ent := ⟨[.v (.a [cb false, cz, ci 0, cb false, cz, ci 0, cb false, cz, ci 0, cb false, cz, ci 0]), .v (.a [cb false, cz, ci 0, cb false, cz, ci 0, cb false, cz, ci 0, cb false, cz, ci 0])], [], .t [.a [cb false, cz, ci 0, cb false, cz, ci 0, cb false, cz, ci 0, cb false, cz, ci 0], .c (ci 0)], [], []⟩
noncomputable def t68 : T (List Ent) := t67.set 51 (e68 :: Option.rec [] (fun l => l) (T.get t67 51))
theorem chk68 : chkA e68 ((execM t67 Tryz.prog known 3000).call 51 e68.args (memE e68.ins)) = true := by kernel_rfl
theorem k68 : Known Tryz.prog known t68 := Known.more follows k67 chk68
noncomputable def e69 : Ent := ⟨[.v (.a [cb false, cz, ci 0, cb false, cz, ci 0, cb false, cz, ci 0, cb false, cz, ci 0]), .v (.a [cb false, .sl 0 0 1 1 .none, ci 0, cb false, .sl 1 0 1 1 .none, ci 1, cb false, .sl 2 0 1 1 .none, ci 0, cb false, .sl 3 0 1 1 .none, ci 0])], [.cells 61 [c32 2], .cells 61 [c32 1], .cells 61 [c32 1], .cells 61 [c32 4]], .t [.a [cb false, .sl 4 0 1 1 (.some 1), ci 0, cb false, .sl 5 0 1 1 (.some 1), ci 1, cb false, .sl 6 0 1 1 (.some 1), ci 0, cb false, .sl 7 0 1 1 (.some 1), ci 0], .c (ci 0)], [.cells 61 [c32 2], .cells 61 [c32 1], .cells 61 [c32 1], .cells 61 [c32 4]], []⟩
noncomputable def t69 : T (List Ent) := t68.set 51 (e69 :: Option.rec [] (fun l => l) (T.get t68 51))
theorem chk69 : chkA e69 ((execM t68 Tryz.prog known 3000).call 51 e69.args (memE e69.ins)) = true := by kernel_rfl
theorem k69 : Known Tryz.prog known t69 := Known.more follows k68 chk69
noncomputable def e70 : Ent := ⟨[.v (.a [cb false, .sl 0 0 1 1 (.some 1), ci 0, cb false, .sl 1 0 1 1 (.some 1), ci 1, cb false, .sl 2 0 1 1 (.some 1), ci 0, cb false, .sl 3 0 1 1 (.some 1), ci 0]), .v (.a [cb false, .sl 4 0 1 1 .none, ci 0, cb false, .sl 5 0 1 1 .none, ci 0, cb false, cz, ci 0, cb false, .sl 6 0 1 1 .none, ci 0])], [.cells 61 [c32 2], .cells 61 [c32 1], .cells 61 [c32 1], .cells 61 [c32 4], .cells 61 [c32 8], .cells 61 [c32 1], .cells 61 [c32 8]], .t [.a [cb false, .sl 7 0 1 1 (.some 1), ci 0, cb false, .sl 8 0 1 1 (.some 1), ci 1, cb false, .sl 9 0 1 1 (.some 1), ci 0, cb false, .sl 10 0 1 1 (.some 1), ci 0], .c (ci 0)], [.cells 61 [c32 10], .cells 61 [c32 3], .cells 61 [c32 1], .cells 61 [c32 12]], []⟩
noncomputable def t70 : T (List Ent) := t69.set 51 (e70 :: Option.rec [] (fun l => l) (T.get t69 51))
theorem chk70 : chkA e70 ((execM t69 Tryz.prog known 3000).call 51 e70.args (memE e70.ins)) = true := by kernel_rfl
theorem k70 : Known Tryz.prog known t70 := Known.more follows k69 chk70
noncomputable def e71 : Ent := ⟨[.v (.a [cb false, cz, ci 0, cb false, cz, ci 0, cb false, cz, ci 0, cb false, cz, ci 0]), .v (.a [cb false, .sl 0 0 1 1 .none, ci 0, cb false, .sl 1 0 1 1 .none, ci 1, cb false, cz, ci 0, cb false, cz, ci 0])], [.cells 61 [c32 2], .cells 61 [c32 1]], .t [.a [cb false, .sl 2 0 1 1 (.some 1), ci 0, cb false, .sl 3 0 1 1 (.some 1), ci 1, cb false, cz, ci 0, cb false, cz, ci 0], .c (ci 0)], [.cells 61 [c32 2], .cells 61 [c32 1]], []⟩
noncomputable def t71 : T (List Ent) := t70.set 51 (e71 :: Option.rec [] (fun l => l) (T.get t70 51))
theorem chk71 : chkA e71 ((execM t70 Tryz.prog known 3000).call 51 e71.args (memE e71.ins)) = true := by kernel_rfl
theorem k71 : Known Tryz.prog known t71 := Known.more follows k70 chk71
noncomputable def e72 : Ent := ⟨[.v (.a [cb false, cz, ci 0, cb false, cz, ci 0, cb false, cz, ci 0, cb false, cz, ci 0]), .v (.a [cb false, .sl 0 0 1 1 (.some 1), ci 0, cb false, .sl 1 0 1 1 (.some 1), ci 1, cb false, .sl 2 0 1 1 (.some 1), ci 0, cb false, .sl 3 0 1 1 (.some 1), ci 0])], [.cells 61 [c32 10], .cells 61 [c32 3], .cells 61 [c32 1], .cells 61 [c32 12]], .t [.a [cb false, .sl 4 0 1 1 (.some 1), ci 0, cb false, .sl 5 0 1 1 (.some 1), ci 1, cb false, .sl 6 0 1 1 (.some 1), ci 0, cb false, .sl 7 0 1 1 (.some 1), ci 0], .c (ci 0)], [.cells 61 [c32 10], .cells 61 [c32 3], .cells 61 [c32 1], .cells 61 [c32 12]], []⟩
noncomputable def t72 : T (List Ent) := t71.set 51 (e72 :: Option.rec [] (fun l => l) (T.get t71 51))
theorem chk72 : chkA e72 ((execM t71 Tryz.prog known 3000).call 51 e72.args (memE e72.ins)) = true := by kernel_rfl
theorem k72 : Known Tryz.prog known t72 := Known.more follows k71 chk72
noncomputable def e73 : Ent := ⟨[.v (.a [cb false, .sl 0 0 1 1 (.some 1), ci 0, cb false, .sl 1 0 1 1 (.some 1), ci 1, cb false, .sl 2 0 1 1 (.some 1), ci 0, cb false, .sl 3 0 1 1 (.some 1), ci 0]), .v (.a [cb false, cz, ci 0, cb false, cz, ci 0, cb false, cz, ci 0, cb false, cz, ci 0])], [.cells 61 [c32 10], .cells 61 [c32 3], .cells 61 [c32 1], .cells 61 [c32 12]], .t [.a [cb false, .sl 4 0 1 1 (.some 1), ci 0, cb false, .sl 5 0 1 1 (.some 1), ci 1, cb false, .sl 6 0 1 1 (.some 1), ci 0, cb false, .sl 7 0 1 1 (.some 1), ci 0], .c (ci 0)], [.cells 61 [c32 10], .cells 61 [c32 3], .cells 61 [c32 1], .cells 61 [c32 12]], []⟩
noncomputable def t73 : T (List Ent) := t72.set 51 (e73 :: Option.rec [] (fun l => l) (T.get t72 51))
theorem chk73 : chkA e73 ((execM t72 Tryz.prog known 3000).call 51 e73.args (memE e73.ins)) = true := by kernel_rfl
theorem k73 : Known Tryz.prog known t73 := Known.more follows k72 chk73
noncomputable def e74 : Ent := ⟨[.v (.a [cb false, .sl 0 0 1 1 (.some 1), ci 0, cb false, .sl 1 0 1 1 (.some 1), ci 1, cb false, .sl 2 0 1 1 (.some 1), ci 0, cb false, .sl 3 0 1 1 (.some 1), ci 0]), .v (.a [cb false, .sl 4 0 1 1 (.some 1), ci 0, cb false, .sl 5 0 1 1 (.some 1), ci 1, cb false, cz, ci 0, cb false, cz, ci 0])], [.cells 61 [c32 10], .cells 61 [c32 3], .cells 61 [c32 1], .cells 61 [c32 12], .cells 61 [c32 2], .cells 61 [c32 1]], .t [.a [cb false, .sl 6 0 1 1 (.some 1), ci 0, cb false, .sl 7 0 1 1 (.some 1), ci 0, cb false, .sl 8 0 1 1 (.some 1), ci 0, cb false, .sl 9 0 1 1 (.some 1), ci 0], .c (ci 0)], [.cells 61 [c32 12], .cells 61 [c32 2], .cells 61 [c32 1], .cells 61 [c32 12]], []⟩
noncomputable def t74 : T (List Ent) := t73.set 51 (e74 :: Option.rec [] (fun l => l) (T.get t73 51))
theorem chk74 : chkA e74 ((execM t73 Tryz.prog known 3000).call 51 e74.args (memE e74.ins)) = true := by kernel_rfl
theorem k74 : Known Tryz.prog known t74 := Known.more follows k73 chk74
noncomputable def e75 : Ent := ⟨[.v (.a [ci 2, ci 9, ci 3, ci 2, .sl 0 0 2 33 .none, cz, cz, cz, .sl 1 0 2 3 .none, ci 0])], [.cells 60 [ci 0, ci 4, cb true, ci 9, ci 0, ci 0, ci 0, ci 0, cb false, .sl 2 0 1 1 (.some 1), ci 0, cb false, .sl 3 0 1 1 (.some 1), ci 0, cb false, .sl 4 0 1 1 (.some 1), ci 0, cb false, .sl 5 0 1 1 (.some 1), ci 0, cb true, ci 4, ci 4, .sl 6 0 4 1 .none, cb false, ci 0, ci 0, cz, ci 0, ci 2, .sl 7 0 1 2 .none, cz, cz, ci 1, ci 8, cb true, ci 9, ci 0, ci 0, ci 0, ci 0, cb false, .sl 8 0 1 1 (.some 1), ci 0, cb false, .sl 9 0 1 1 (.some 1), ci 0, cb false, cz, ci 0, cb false, .sl 10 0 1 1 (.some 1), ci 0, cb true, ci 8, ci 8, .sl 11 0 4 1 .none, cb false, ci 0, ci 0, cz, ci 1, ci 2, .sl 12 0 1 2 .none, cz, cz], .cells 80 [ci 0, ci 0, ci 4, ci 0, ci 1, ci 8], .cells 61 [c32 4, c32 0], .cells 61 [c32 1, c32 0], .cells 61 [c32 1, c32 0], .cells 61 [c32 4, c32 0], .cells 61 [c32 0, c32 372365339, c32 3135421029, c32 3801526361], .cells 122 [ci 1, ci 0], .cells 61 [c32 8, c32 0], .cells 61 [c32 1, c32 0], .cells 61 [c32 8, c32 0], .cells 61 [c32 2696510205, c32 3303887172, c32 3676883707, c32 4034285998], .cells 122 [ci 0, ci 0]], .v (.c (ci 0)), [], []⟩
noncomputable def t75 : T (List Ent) := t74.set 37 (e75 :: Option.rec [] (fun l => l) (T.get t74 37))
theorem chk75 : chkA e75 ((execM t74 Tryz.prog known 3000).call 37 e75.args (memE e75.ins)) = true := by kernel_rfl
theorem k75 : Known Tryz.prog known t75 := Known.more follows k74 chk75
noncomputable def e76 : Ent := ⟨[.v (.a [ci 0, ci 0, ci 0, ci 0, cz, cz, cz, cz, cz, ci 0])], [], .v (.c (ci 8)), [], []⟩
noncomputable def t76 : T (List Ent) := t75.set 37 (e76 :: Option.rec [] (fun l => l) (T.get t75 37))
theorem chk76 : chkA e76 ((execM t75 Tryz.prog known 3000).call 37 e76.args (memE e76.ins)) = true := by kernel_rfl
theorem k76 : Known Tryz.prog known t76 := Known.more follows k75 chk76
noncomputable def e77 : Ent := ⟨[.v (.a [ci 2, ci 9, ci 3, ci 2, .sl 0 0 2 33 .none, cz, cz, cz, .sl 1 0 2 3 .none, ci 0])], [.cells 60 [ci 0, ci 4, cb true, ci 9, ci 0, ci 0, ci 0, ci 0, cb false, .sl 2 0 1 1 .none, ci 0, cb false, .sl 3 0 1 1 .none, ci 0, cb false, .sl 4 0 1 1 .none, ci 0, cb false, .sl 5 0 1 1 .none, ci 0, cb true, ci 4, ci 4, .sl 6 0 4 1 .none, cb false, ci 0, ci 0, cz, ci 0, ci 2, .sl 7 0 1 2 .none, cz, cz, ci 1, ci 8, cb true, ci 9, ci 0, ci 0, ci 0, ci 0, cb false, .sl 8 0 1 1 .none, ci 0, cb false, .sl 9 0 1 1 .none, ci 0, cb false, cz, ci 0, cb false, .sl 10 0 1 1 .none, ci 0, cb true, ci 8, ci 8, .sl 11 0 4 1 .none, cb false, ci 0, ci 0, cz, ci 1, ci 2, .sl 12 0 1 2 .none, cz, cz], .cells 80 [ci 0, ci 0, ci 4, ci 0, ci 1, ci 8], .cells 61 [c32 4], .cells 61 [c32 1], .cells 61 [c32 1], .cells 61 [c32 4], .cells 61 [c32 0, c32 372365339, c32 3135421029, c32 3801526361], .cells 122 [ci 1, ci 0], .cells 61 [c32 8], .cells 61 [c32 1], .cells 61 [c32 8], .cells 61 [c32 2696510205, c32 3303887172, c32 3676883707, c32 4034285998], .cells 122 [ci 0, ci 0]], .v (.c (ci 0)), [], []⟩
noncomputable def t77 : T (List Ent) := t76.set 37 (e77 :: Option.rec [] (fun l => l) (T.get t76 37))
theorem chk77 : chkA e77 ((execM t76 Tryz.prog known 3000).call 37 e77.args (memE e77.ins)) = true := by kernel_rfl
theorem k77 : Known Tryz.prog known t77 := Known.more follows k76 chk77
noncomputable def e78 : Ent := ⟨[.v (.a [ci 2, ci 9, ci 3, ci 2, .sl 0 0 2 33 .none, cz, cz, cz, .sl 1 0 2 3 .none, ci 0])], [.cells 60 [ci 0, ci 4, cb true, ci 9, ci 0, ci 0, ci 0, ci 0, cb false, .sl 2 0 1 1 .none, ci 0, cb false, .sl 3 0 1 1 .none, ci 0, cb false, .sl 4 0 1 1 .none, ci 0, cb false, .sl 5 0 1 1 .none, ci 0, cb true, ci 4, ci 4, .sl 6 0 4 1 .none, cb false, ci 0, ci 0, .sl 7 0 0 1 (.some 0), ci 0, ci 2, .sl 8 0 1 2 .none, cz, .sl 9 0 0 2 (.some 0), ci 1, ci 8, cb true, ci 9, ci 0, ci 0, ci 0, ci 0, cb false, .sl 10 0 1 1 .none, ci 0, cb false, .sl 11 0 1 1 .none, ci 0, cb false, .sl 12 0 0 1 (.some 0), ci 0, cb false, .sl 13 0 1 1 (.some 1), ci 0, cb true, ci 8, ci 8, .sl 14 0 4 1 .none, cb false, ci 0, ci 0, .sl 15 0 0 1 (.some 0), ci 1, ci 2, .sl 16 0 1 2 .none, cz, .sl 17 0 0 2 (.some 0)], .cells 80 [ci 0, ci 0, ci 4, ci 0, ci 1, ci 8], .cells 61 [c32 4], .cells 61 [c32 1], .cells 61 [c32 1], .cells 61 [c32 4], .cells 61 [c32 0, c32 372365339, c32 3135421029, c32 3801526361], .cells 3 [], .cells 122 [ci 1, ci 0], .cells 237 [], .cells 61 [c32 8], .cells 61 [c32 1], .cells 61 [], .cells 61 [c32 9, c32 0], .cells 61 [c32 2696510205, c32 3303887172, c32 3676883707, c32 4034285998], .cells 3 [], .cells 122 [ci 0, ci 0], .cells 237 []], .v (.c (ci 0)), [], []⟩
noncomputable def t78 : T (List Ent) := t77.set 37 (e78 :: Option.rec [] (fun l => l) (T.get t77 37))
theorem chk78 : chkA e78 ((execM t77 Tryz.prog known 3000).call 37 e78.args (memE e78.ins)) = true := by kernel_rfl
theorem k78 : Known Tryz.prog known t78 := Known.more follows k77 chk78
noncomputable def e79 : Ent := ⟨[.v (.a [ci 2, ci 9, ci 3, ci 2, .sl 0 0 2 33 .none, cz, cz, cz, .sl 1 0 2 3 .none, ci 0])], [.cells 60 [ci 0, ci 4, cb true, ci 9, ci 0, ci 0, ci 0, ci 0, cb false, .sl 2 0 1 1 .none, ci 0, cb false, .sl 3 0 1 1 .none, ci 0, cb false, .sl 4 0 1 1 .none, ci 0, cb false, .sl 5 0 1 1 .none, ci 0, cb true, ci 3, ci 4, .sl 6 0 4 1 .none, cb false, ci 0, ci 0, .sl 7 0 0 1 (.some 0), ci 0, ci 2, .sl 8 0 1 2 .none, cz, .sl 9 0 0 2 (.some 0), ci 1, ci 8, cb true, ci 9, ci 0, ci 0, ci 0, ci 0, cb false, .sl 10 0 1 1 .none, ci 0, cb false, .sl 11 0 1 1 .none, ci 0, cb false, .sl 12 0 0 1 (.some 0), ci 0, cb false, .sl 13 0 1 1 .none, ci 0, cb true, ci 8, ci 8, .sl 14 0 4 1 .none, cb false, ci 0, ci 0, .sl 15 0 0 1 (.some 0), ci 1, ci 2, .sl 16 0 1 2 .none, cz, .sl 17 0 0 2 (.some 0)], .cells 80 [ci 0, ci 0, ci 4, ci 0, ci 1, ci 8], .cells 61 [c32 4], .cells 61 [c32 1], .cells 61 [c32 1], .cells 61 [c32 4], .cells 61 [c32 0, c32 372365339, c32 3135421029, c32 3801526361], .cells 3 [], .cells 122 [ci 1, ci 0], .cells 237 [], .cells 61 [c32 8], .cells 61 [c32 1], .cells 61 [], .cells 61 [c32 8], .cells 61 [c32 2696510205, c32 3303887172, c32 3676883707, c32 4034285998], .cells 3 [], .cells 122 [ci 0, ci 0], .cells 237 []], .v (.c (ci 0)), [], []⟩
noncomputable def t79 : T (List Ent) := t78.set 37 (e79 :: Option.rec [] (fun l => l) (T.get t78 37))
theorem chk79 : chkA e79 ((execM t78 Tryz.prog known 3000).call 37 e79.args (memE e79.ins)) = true := by kernel_rfl
theorem k79 : Known Tryz.prog known t79 := Known.more follows k78 chk79
noncomputable def e80 : Ent := ⟨[.v (.a [ci 2, ci 9, ci 3, ci 2, .sl 0 0 2 33 .none, cz, cz, cz, .sl 1 0 2 3 .none, ci 0])], [.cells 60 [ci 0, ci 4, cb true, ci 9, ci 0, ci 0, ci 0, ci 0, cb false, .sl 2 0 1 1 .none, ci 0, cb false, .sl 3 0 1 1 .none, ci 0, cb false, .sl 4 0 1 1 .none, ci 0, cb false, .sl 5 0 1 1 .none, ci 0, cb true, ci 4, ci 4, .sl 6 1 3 1 .none, cb false, ci 0, ci 0, .sl 7 0 0 1 (.some 0), ci 0, ci 2, .sl 8 0 1 2 .none, cz, .sl 9 0 0 2 (.some 0), ci 1, ci 8, cb true, ci 9, ci 0, ci 0, ci 0, ci 0, cb false, .sl 10 0 1 1 .none, ci 0, cb false, .sl 11 0 1 1 .none, ci 0, cb false, .sl 12 0 0 1 (.some 0), ci 0, cb false, .sl 13 0 1 1 .none, ci 0, cb true, ci 8, ci 8, .sl 14 0 4 1 .none, cb false, ci 0, ci 0, .sl 15 0 0 1 (.some 0), ci 1, ci 2, .sl 16 0 1 2 .none, cz, .sl 17 0 0 2 (.some 0)], .cells 80 [ci 0, ci 0, ci 4, ci 0, ci 1, ci 8], .cells 61 [c32 4], .cells 61 [c32 1], .cells 61 [c32 1], .cells 61 [c32 4], .cells 61 [c32 0, c32 372365340, c32 3135421029, c32 3801526361], .cells 3 [], .cells 122 [ci 1, ci 0], .cells 237 [], .cells 61 [c32 8], .cells 61 [c32 1], .cells 61 [], .cells 61 [c32 8], .cells 61 [c32 2696510205, c32 3303887172, c32 3676883707, c32 4034285998], .cells 3 [], .cells 122 [ci 0, ci 0], .cells 237 []], .v (.c (ci 0)), [], []⟩
noncomputable def t80 : T (List Ent) := t79.set 37 (e80 :: Option.rec [] (fun l => l) (T.get t79 37))
theorem chk80 : chkA e80 ((execM t79 Tryz.prog known 3000).call 37 e80.args (memE e80.ins)) = true := by kernel_rfl
theorem k80 : Known Tryz.prog known t80 := Known.more follows k79 chk80
noncomputable def e81 : Ent := ⟨[.v (.a [ci 2, ci 9, ci 3, ci 2, .sl 0 0 2 33 .none, .sl 1 0 1 4 .none, .sl 2 0 1 15 .none, cz, .sl 3 0 2 3 .none, ci 1])], [.cells 60 [ci 0, ci 4, cb true, ci 9, ci 0, ci 0, ci 0, ci 0, cb false, .sl 4 0 1 1 .none, ci 0, cb false, .sl 5 0 1 1 .none, ci 1, cb false, .sl 6 0 1 1 .none, ci 0, cb false, .sl 7 0 1 1 .none, ci 0, cb true, ci 4, ci 4, .sl 8 0 4 1 .none, cb false, ci 0, ci 0, cz, ci 0, ci 2, .sl 9 0 1 2 .none, cz, cz, ci 1, ci 8, cb true, ci 9, ci 0, ci 0, ci 0, ci 0, cb false, .sl 10 0 1 1 .none, ci 0, cb false, .sl 11 0 1 1 .none, ci 0, cb false, cz, ci 0, cb false, .sl 12 0 1 1 .none, ci 0, cb true, ci 8, ci 8, .sl 13 0 4 1 .none, cb false, ci 0, ci 0, cz, ci 1, ci 2, .sl 14 0 1 2 .none, cz, cz], .cells 142 [ci 0, ci 1, .sl 15 0 32 1 .none, cb false], .cells 144 [ci 0, ci 0, ci 1, cb false, .sl 16 0 1 1 .none, ci 0, cb false, .sl 17 0 1 1 .none, ci 1, cb false, cz, ci 0, cb false, cz, ci 0], .cells 80 [ci 0, ci 0, ci 4, ci 0, ci 1, ci 8], .cells 61 [c32 2], .cells 61 [c32 1], .cells 61 [c32 1], .cells 61 [c32 4], .cells 61 [c32 0, c32 372365339, c32 3135421029, c32 3801526361], .cells 122 [ci 1, ci 0], .cells 61 [c32 8], .cells 61 [c32 1], .cells 61 [c32 8], .cells 61 [c32 2696510205, c32 3303887172, c32 3676883707, c32 4034285998], .cells 122 [ci 0, ci 0], .cells 5 [c8 72, c8 1, c8 1, c8 0, c8 23, c8 0, c8 1, c8 0, c8 0, c8 0, c8 0, c8 0, c8 0, c8 0, c8 0, c8 1, c8 0, c8 0, c8 0, c8 2, c8 0, c8 0, c8 1, c8 1, c8 0, c8 0, c8 0, c8 1, c8 157, c8 114, c8 49, c8 66], .cells 61 [c32 2], .cells 61 [c32 1]], .v (.c (ci 0)), [], []⟩
noncomputable def t81 : T (List Ent) := t80.set 37 (e81 :: Option.rec [] (fun l => l) (T.get t80 37))
theorem chk81 : chkA e81 ((execM t80 Tryz.prog known 3000).call 37 e81.args (memE e81.ins)) = true := by kernel_rfl
theorem k81 : Known Tryz.prog known t81 := Known.more follows k80 chk81
noncomputable def e82 : Ent := ⟨[.v (.a [ci 2, ci 9, ci 3, ci 2, .sl 0 0 2 33 .none, cz, .sl 1 0 0 15 (.some 0), .sl 2 0 1 14 .none, .sl 3 0 2 3 .none, ci 1])], [.cells 60 [ci 0, ci 4, cb true, ci 9, ci 0, ci 0, ci 0, ci 0, cb false, .sl 4 0 1 1 .none, ci 0, cb false, .sl 5 0 1 1 .none, ci 1, cb false, .sl 6 0 1 1 .none, ci 0, cb false, .sl 7 0 1 1 .none, ci 0, cb true, ci 4, ci 4, .sl 8 0 4 1 .none, cb false, ci 0, ci 0, cz, ci 0, ci 2, .sl 9 0 1 2 .none, cz, cz, ci 1, ci 8, cb true, ci 9, ci 0, ci 0, ci 0, ci 0, cb false, .sl 10 0 1 1 .none, ci 0, cb false, .sl 11 0 1 1 .none, ci 0, cb false, cz, ci 0, cb false, .sl 12 0 1 1 .none, ci 0, cb true, ci 8, ci 8, .sl 13 0 4 1 .none, cb false, ci 0, ci 0, cz, ci 1, ci 2, .sl 14 0 1 2 .none, cz, cz], .cells 144 [], .cells 136 [ci 0, c8 1, cb false, .sl 15 0 1 1 .none, ci 0, cb false, .sl 16 0 1 1 .none, ci 1, cb false, cz, ci 0, cb false, cz, ci 0], .cells 80 [ci 0, ci 0, ci 4, ci 0, ci 1, ci 8], .cells 61 [c32 2], .cells 61 [c32 1], .cells 61 [c32 1], .cells 61 [c32 4], .cells 61 [c32 0, c32 372365339, c32 3135421029, c32 3801526361], .cells 122 [ci 1, ci 0], .cells 61 [c32 8], .cells 61 [c32 1], .cells 61 [c32 8], .cells 61 [c32 2696510205, c32 3303887172, c32 3676883707, c32 4034285998], .cells 122 [ci 0, ci 0], .cells 61 [c32 2], .cells 61 [c32 1]], .v (.c (ci 0)), [], []⟩
noncomputable def t82 : T (List Ent) := t81.set 37 (e82 :: Option.rec [] (fun l => l) (T.get t81 37))
theorem chk82 : chkA e82 ((execM t81 Tryz.prog known 3000).call 37 e82.args (memE e82.ins)) = true := by kernel_rfl
theorem k82 : Known Tryz.prog known t82 := Known.more follows k81 chk82
noncomputable def e83 : Ent := ⟨[.v (.a [cb false, .sl 0 0 1 1 .none, ci 0, cb false, .sl 1 0 1 1 .none, ci 0, cb false, .sl 2 0 1 1 .none, ci 0, cb false, .sl 3 0 1 1 .none, ci 0]), .v (.c (ci 4)), .v (.c (ci 8))], [.cells 61 [c32 4], .cells 61 [c32 1], .cells 61 [c32 1], .cells 61 [c32 4]], .t [.c (cb true), .c (ci 0)], [], []⟩
noncomputable def t83 : T (List Ent) := t82.set 78 (e83 :: Option.rec [] (fun l => l) (T.get t82 78))
theorem chk83 : chkA e83 ((execM t82 Tryz.prog known 3000).call 78 e83.args (memE e83.ins)) = true := by kernel_rfl
theorem k83 : Known Tryz.prog known t83 := Known.more follows k82 chk83
noncomputable def e84 : Ent := ⟨[.v (.a [cb false, .sl 0 0 1 1 .none, ci 0, cb false, .sl 1 0 1 1 .none, ci 0, cb false, .sl 2 0 0 1 (.some 0), ci 0, cb false, .sl 3 0 1 1 (.some 1), ci 0]), .v (.c (ci 4)), .v (.c (ci 8))], [.cells 61 [c32 8], .cells 61 [c32 1], .cells 61 [], .cells 61 [c32 9, c32 0]], .t [.c (cb true), .c (ci 0)], [], []⟩
noncomputable def t84 : T (List Ent) := t83.set 78 (e84 :: Option.rec [] (fun l => l) (T.get t83 78))
theorem chk84 : chkA e84 ((execM t83 Tryz.prog known 3000).call 78 e84.args (memE e84.ins)) = true := by kernel_rfl
theorem k84 : Known Tryz.prog known t84 := Known.more follows k83 chk84
noncomputable def e85 : Ent := ⟨[.v (.a [cb false, .sl 0 0 1 1 .none, ci 0, cb false, .sl 1 0 1 1 .none, ci 0, cb false, cz, ci 0, cb false, .sl 2 0 1 1 .none, ci 0]), .v (.c (ci 4)), .v (.c (ci 8))], [.cells 61 [c32 8], .cells 61 [c32 1], .cells 61 [c32 8]], .t [.c (cb true), .c (ci 0)], [], []⟩
noncomputable def t85 : T (List Ent) := t84.set 78 (e85 :: Option.rec [] (fun l => l) (T.get t84 78))
theorem chk85 : chkA e85 ((execM t84 Tryz.prog known 3000).call 78 e85.args (memE e85.ins)) = true := by kernel_rfl
theorem k85 : Known Tryz.prog known t85 := Known.more follows k84 chk85
noncomputable def e86 : Ent := ⟨[], [], .v (.c (cb true)), [], []⟩
noncomputable def t86 : T (List Ent) := t85.set 14 (e86 :: Option.rec [] (fun l => l) (T.get t85 14))
theorem chk86 : chkA e86 ((execM t85 Tryz.prog known 3000).call 14 e86.args (memE e86.ins)) = true := by kernel_rfl
theorem k86 : Known Tryz.prog known t86 := Known.more follows k85 chk86
theorem ran : trueR ((execM t86 Tryz.prog known 3000).call 3 [] ⟨.e, 0, big⟩) = true := by kernel_rfl
theorem last : Known Tryz.prog known t86 := k86
end AuditNames
end Go.Proofs.YtmcchddjmobhaaaGreatDoor
