/- The kernel runs the closed call WorldNames to its end: what was run once is looked up. -/
import Derived.KernelRfl
import Derived.Lib.TrailingZeros
import Derived.Test.YtabhekdkgdfbdaaGreatDoorProg
import Derived.Test.YtabhekdkgdfbdaaGreatDoorExI
namespace Go.Proofs.YtabhekdkgdfbdaaGreatDoor
open Go.Ex
noncomputable def known : Nat → Option (List Value) := fun g => Nat.rec (some (Lib.deBruijn32tab.map fun n : Nat => .int .u8 n)) (fun _ _ => none) g
namespace WorldNames
theorem follows : Tryz.prog.follows .mixedOrders = true := by kernel_rfl
noncomputable def t0 : T (List Ent) := .e
theorem k0 : Known Tryz.prog known t0 := known_none
noncomputable def e1 : Ent := ⟨[.v (.a [ci 0, ci 0, ci 4]), .v (.c (.ptr 0 0))], [.cells 3 [ci 2]], .v (.c (cb false)), [], []⟩
noncomputable def t1 : T (List Ent) := t0.set 88 (e1 :: Option.rec [] (fun l => l) (T.get t0 88))
theorem chk1 : chkA e1 ((execM t0 Tryz.prog known 3000).call 88 e1.args (memE e1.ins)) = true := by kernel_rfl
theorem k1 : Known Tryz.prog known t1 := Known.more follows k0 chk1
noncomputable def e2 : Ent := ⟨[.v (.a [ci 0, ci 1, ci 8]), .v (.c (.ptr 0 0))], [.cells 3 [ci 2]], .v (.c (cb false)), [], []⟩
noncomputable def t2 : T (List Ent) := t1.set 88 (e2 :: Option.rec [] (fun l => l) (T.get t1 88))
theorem chk2 : chkA e2 ((execM t1 Tryz.prog known 3000).call 88 e2.args (memE e2.ins)) = true := by kernel_rfl
theorem k2 : Known Tryz.prog known t2 := Known.more follows k1 chk2
noncomputable def e3 : Ent := ⟨[.v (.a [ci 0, ci 2, ci 7]), .v (.c (.ptr 0 0))], [.cells 3 [ci 3]], .v (.c (cb false)), [], []⟩
noncomputable def t3 : T (List Ent) := t2.set 88 (e3 :: Option.rec [] (fun l => l) (T.get t2 88))
theorem chk3 : chkA e3 ((execM t2 Tryz.prog known 3000).call 88 e3.args (memE e3.ins)) = true := by kernel_rfl
theorem k3 : Known Tryz.prog known t3 := Known.more follows k2 chk3
noncomputable def e4 : Ent := ⟨[.v (.a [ci 0, ci 0, ci 0]), .v (.c (.ptr 0 0))], [.cells 3 [ci 2]], .v (.c (cb false)), [], []⟩
noncomputable def t4 : T (List Ent) := t3.set 88 (e4 :: Option.rec [] (fun l => l) (T.get t3 88))
theorem chk4 : chkA e4 ((execM t3 Tryz.prog known 3000).call 88 e4.args (memE e4.ins)) = true := by kernel_rfl
theorem k4 : Known Tryz.prog known t4 := Known.more follows k3 chk4
noncomputable def e5 : Ent := ⟨[.v (.a [ci 0, ci 2, cz])], [], .v (.c (ci 0)), [], []⟩
noncomputable def t5 : T (List Ent) := t4.set 70 (e5 :: Option.rec [] (fun l => l) (T.get t4 70))
theorem chk5 : chkA e5 ((execM t4 Tryz.prog known 3000).call 70 e5.args (memE e5.ins)) = true := by kernel_rfl
theorem k5 : Known Tryz.prog known t5 := Known.more follows k4 chk5
noncomputable def e6 : Ent := ⟨[.v (.a [ci 0, ci 2, .sl 0 0 1 2 .none])], [.cells 88 [ci 1, ci 0]], .v (.c (ci 0)), [], []⟩
noncomputable def t6 : T (List Ent) := t5.set 70 (e6 :: Option.rec [] (fun l => l) (T.get t5 70))
theorem chk6 : chkA e6 ((execM t5 Tryz.prog known 3000).call 70 e6.args (memE e6.ins)) = true := by kernel_rfl
theorem k6 : Known Tryz.prog known t6 := Known.more follows k5 chk6
noncomputable def e7 : Ent := ⟨[.v (.a [ci 1, ci 2, cz])], [], .v (.c (ci 0)), [], []⟩
noncomputable def t7 : T (List Ent) := t6.set 70 (e7 :: Option.rec [] (fun l => l) (T.get t6 70))
theorem chk7 : chkA e7 ((execM t6 Tryz.prog known 3000).call 70 e7.args (memE e7.ins)) = true := by kernel_rfl
theorem k7 : Known Tryz.prog known t7 := Known.more follows k6 chk7
noncomputable def e8 : Ent := ⟨[.v (.a [ci 1, ci 2, .sl 0 0 1 2 .none])], [.cells 88 [ci 0, ci 0]], .v (.c (ci 0)), [], []⟩
noncomputable def t8 : T (List Ent) := t7.set 70 (e8 :: Option.rec [] (fun l => l) (T.get t7 70))
theorem chk8 : chkA e8 ((execM t7 Tryz.prog known 3000).call 70 e8.args (memE e8.ins)) = true := by kernel_rfl
theorem k8 : Known Tryz.prog known t8 := Known.more follows k7 chk8
noncomputable def e9 : Ent := ⟨[.v (.a [ci 2, ci 1, cz])], [], .v (.c (ci 0)), [], []⟩
noncomputable def t9 : T (List Ent) := t8.set 70 (e9 :: Option.rec [] (fun l => l) (T.get t8 70))
theorem chk9 : chkA e9 ((execM t8 Tryz.prog known 3000).call 70 e9.args (memE e9.ins)) = true := by kernel_rfl
theorem k9 : Known Tryz.prog known t9 := Known.more follows k8 chk9
noncomputable def e10 : Ent := ⟨[.v (.a [ci 0, ci 4, cb true, ci 9, ci 0, ci 0, ci 0, ci 0, cb false, cz, ci 0, cb false, cz, ci 0, cb false, cz, ci 0, cb false, cz, ci 0, cb false, ci 0, ci 0, cz, cb false, ci 0, ci 0, cz, ci 0, ci 2, .sl 0 0 1 2 .none, cz, cz])], [.cells 88 [ci 1, ci 0]], .v (.c (ci 0)), [], []⟩
noncomputable def t10 : T (List Ent) := t9.set 94 (e10 :: Option.rec [] (fun l => l) (T.get t9 94))
theorem chk10 : chkA e10 ((execM t9 Tryz.prog known 3000).call 94 e10.args (memE e10.ins)) = true := by kernel_rfl
theorem k10 : Known Tryz.prog known t10 := Known.more follows k9 chk10
noncomputable def e11 : Ent := ⟨[.v (.a [ci 1, ci 8, cb true, ci 9, ci 0, ci 0, ci 0, ci 0, cb false, cz, ci 0, cb false, cz, ci 0, cb false, cz, ci 0, cb false, cz, ci 0, cb false, ci 0, ci 0, cz, cb false, ci 0, ci 0, cz, ci 1, ci 2, .sl 0 0 1 2 .none, cz, cz])], [.cells 88 [ci 0, ci 0]], .v (.c (ci 0)), [], []⟩
noncomputable def t11 : T (List Ent) := t10.set 94 (e11 :: Option.rec [] (fun l => l) (T.get t10 94))
theorem chk11 : chkA e11 ((execM t10 Tryz.prog known 3000).call 94 e11.args (memE e11.ins)) = true := by kernel_rfl
theorem k11 : Known Tryz.prog known t11 := Known.more follows k10 chk11
noncomputable def e12 : Ent := ⟨[.v (.a [ci 0, ci 4, cb true, ci 9, ci 0, ci 0, ci 0, ci 0, cb false, .sl 0 0 1 1 (.some 1), ci 0, cb false, .sl 1 0 1 1 (.some 1), ci 0, cb false, .sl 2 0 1 1 (.some 1), ci 0, cb false, .sl 3 0 1 1 (.some 1), ci 0, cb true, ci 4, ci 4, .sl 4 0 4 1 .none, cb false, ci 0, ci 0, cz, ci 0, ci 2, .sl 5 0 1 2 .none, cz, cz])], [.cells 128 [c32 4, c32 0], .cells 128 [c32 1, c32 0], .cells 128 [c32 1, c32 0], .cells 128 [c32 4, c32 0], .cells 128 [c32 0, c32 372365339, c32 3135421029, c32 3801526361], .cells 88 [ci 1, ci 0]], .v (.c (ci 0)), [], []⟩
noncomputable def t12 : T (List Ent) := t11.set 94 (e12 :: Option.rec [] (fun l => l) (T.get t11 94))
theorem chk12 : chkA e12 ((execM t11 Tryz.prog known 3000).call 94 e12.args (memE e12.ins)) = true := by kernel_rfl
theorem k12 : Known Tryz.prog known t12 := Known.more follows k11 chk12
noncomputable def e13 : Ent := ⟨[.v (.a [ci 1, ci 8, cb true, ci 9, ci 0, ci 0, ci 0, ci 0, cb false, .sl 0 0 1 1 (.some 1), ci 0, cb false, .sl 1 0 1 1 (.some 1), ci 0, cb false, cz, ci 0, cb false, .sl 2 0 1 1 (.some 1), ci 0, cb true, ci 8, ci 8, .sl 3 0 4 1 .none, cb false, ci 0, ci 0, cz, ci 1, ci 2, .sl 4 0 1 2 .none, cz, cz])], [.cells 128 [c32 8, c32 0], .cells 128 [c32 1, c32 0], .cells 128 [c32 8, c32 0], .cells 128 [c32 2696510205, c32 3303887172, c32 3676883707, c32 4034285998], .cells 88 [ci 0, ci 0]], .v (.c (ci 0)), [], []⟩
noncomputable def t13 : T (List Ent) := t12.set 94 (e13 :: Option.rec [] (fun l => l) (T.get t12 94))
theorem chk13 : chkA e13 ((execM t12 Tryz.prog known 3000).call 94 e13.args (memE e13.ins)) = true := by kernel_rfl
theorem k13 : Known Tryz.prog known t13 := Known.more follows k12 chk13
noncomputable def e14 : Ent := ⟨[.v (.a [ci 1, ci 8, cb true, ci 9, ci 0, ci 0, ci 0, ci 0, cb false, .sl 0 0 1 1 .none, ci 0, cb false, .sl 1 0 1 1 .none, ci 0, cb false, cz, ci 0, cb false, .sl 2 0 1 1 .none, ci 0, cb true, ci 8, ci 8, .sl 3 0 4 1 .none, cb false, ci 0, ci 0, cz, ci 1, ci 2, .sl 4 0 1 2 .none, cz, cz])], [.cells 128 [c32 8], .cells 128 [c32 1], .cells 128 [c32 8], .cells 128 [c32 2696510205, c32 3303887172, c32 3676883707, c32 4034285998], .cells 88 [ci 0, ci 0]], .v (.c (ci 0)), [], []⟩
noncomputable def t14 : T (List Ent) := t13.set 94 (e14 :: Option.rec [] (fun l => l) (T.get t13 94))
theorem chk14 : chkA e14 ((execM t13 Tryz.prog known 3000).call 94 e14.args (memE e14.ins)) = true := by kernel_rfl
theorem k14 : Known Tryz.prog known t14 := Known.more follows k13 chk14
noncomputable def e15 : Ent := ⟨[.v (.a [ci 0, ci 4, cb true, ci 9, ci 0, ci 0, ci 0, ci 0, cb false, .sl 0 0 1 1 .none, ci 0, cb false, .sl 1 0 1 1 .none, ci 0, cb false, .sl 2 0 1 1 .none, ci 0, cb false, .sl 3 0 1 1 .none, ci 0, cb true, ci 4, ci 4, .sl 4 0 4 1 .none, cb false, ci 0, ci 0, cz, ci 0, ci 2, .sl 5 0 1 2 .none, cz, cz])], [.cells 128 [c32 4], .cells 128 [c32 1], .cells 128 [c32 1], .cells 128 [c32 4], .cells 128 [c32 0, c32 372365339, c32 3135421029, c32 3801526361], .cells 88 [ci 1, ci 0]], .v (.c (ci 0)), [], []⟩
noncomputable def t15 : T (List Ent) := t14.set 94 (e15 :: Option.rec [] (fun l => l) (T.get t14 94))
theorem chk15 : chkA e15 ((execM t14 Tryz.prog known 3000).call 94 e15.args (memE e15.ins)) = true := by kernel_rfl
theorem k15 : Known Tryz.prog known t15 := Known.more follows k14 chk15
noncomputable def e16 : Ent := ⟨[.v (.a [ci 1, ci 0, cb false, ci 0, ci 0, ci 0, ci 0, ci 0, cb false, cz, ci 0, cb false, cz, ci 0, cb false, cz, ci 0, cb false, cz, ci 0, cb false, ci 0, ci 0, cz, cb false, ci 0, ci 0, cz, ci 0, ci 0, cz, cz, cz])], [], .v (.c (ci 0)), [], []⟩
noncomputable def t16 : T (List Ent) := t15.set 94 (e16 :: Option.rec [] (fun l => l) (T.get t15 94))
theorem chk16 : chkA e16 ((execM t15 Tryz.prog known 3000).call 94 e16.args (memE e16.ins)) = true := by kernel_rfl
theorem k16 : Known Tryz.prog known t16 := Known.more follows k15 chk16
noncomputable def e17 : Ent := ⟨[.v (.a [ci 0, ci 0, cb false, ci 0, ci 0, ci 0, ci 0, ci 0, cb false, cz, ci 0, cb false, cz, ci 0, cb false, cz, ci 0, cb false, cz, ci 0, cb false, ci 0, ci 0, cz, cb false, ci 0, ci 0, cz, ci 0, ci 0, cz, cz, cz])], [], .v (.c (ci 0)), [], []⟩
noncomputable def t17 : T (List Ent) := t16.set 94 (e17 :: Option.rec [] (fun l => l) (T.get t16 94))
theorem chk17 : chkA e17 ((execM t16 Tryz.prog known 3000).call 94 e17.args (memE e17.ins)) = true := by kernel_rfl
theorem k17 : Known Tryz.prog known t17 := Known.more follows k16 chk17
noncomputable def e18 : Ent := ⟨[.v (.a [ci 2, ci 0, cb false, ci 0, ci 0, ci 0, ci 0, ci 0, cb false, cz, ci 0, cb false, cz, ci 0, cb false, cz, ci 0, cb false, cz, ci 0, cb false, ci 0, ci 0, cz, cb false, ci 0, ci 0, cz, ci 0, ci 0, cz, cz, cz])], [], .v (.c (ci 0)), [], []⟩
noncomputable def t18 : T (List Ent) := t17.set 94 (e18 :: Option.rec [] (fun l => l) (T.get t17 94))
theorem chk18 : chkA e18 ((execM t17 Tryz.prog known 3000).call 94 e18.args (memE e18.ins)) = true := by kernel_rfl
theorem k18 : Known Tryz.prog known t18 := Known.more follows k17 chk18
noncomputable def e19 : Ent := ⟨[.v (.a [ci 2, ci 7, cb true, ci 1, ci 0, ci 0, ci 0, ci 0, cb false, cz, ci 0, cb false, cz, ci 0, cb false, cz, ci 0, cb false, cz, ci 0, cb false, ci 0, ci 0, cz, cb false, ci 0, ci 0, cz, ci 2, ci 1, cz, cz, cz])], [], .v (.c (ci 0)), [], []⟩
noncomputable def t19 : T (List Ent) := t18.set 94 (e19 :: Option.rec [] (fun l => l) (T.get t18 94))
theorem chk19 : chkA e19 ((execM t18 Tryz.prog known 3000).call 94 e19.args (memE e19.ins)) = true := by kernel_rfl
theorem k19 : Known Tryz.prog known t19 := Known.more follows k18 chk19
noncomputable def e20 : Ent := ⟨[.v (.a [ci 2, ci 7, cb true, ci 1, ci 0, ci 0, ci 0, ci 0, cb false, .sl 0 0 1 1 (.some 1), ci 0, cb false, .sl 1 0 1 1 (.some 1), ci 0, cb false, .sl 2 0 1 1 (.some 1), ci 0, cb false, .sl 3 0 1 1 (.some 1), ci 0, cb true, ci 7, ci 7, .sl 4 0 4 1 .none, cb false, ci 0, ci 0, cz, ci 2, ci 1, cz, cz, cz])], [.cells 128 [c32 7, c32 0], .cells 128 [c32 1, c32 0], .cells 128 [c32 1, c32 0], .cells 128 [c32 7, c32 0], .cells 128 [c32 226785554, c32 828227195, c32 1718716230, c32 3432887366]], .v (.c (ci 0)), [], []⟩
noncomputable def t20 : T (List Ent) := t19.set 94 (e20 :: Option.rec [] (fun l => l) (T.get t19 94))
theorem chk20 : chkA e20 ((execM t19 Tryz.prog known 3000).call 94 e20.args (memE e20.ins)) = true := by kernel_rfl
theorem k20 : Known Tryz.prog known t20 := Known.more follows k19 chk20
noncomputable def e21 : Ent := ⟨[.v (.a [ci 2, ci 7, cb true, ci 1, ci 0, ci 0, ci 0, ci 0, cb false, .sl 0 0 1 1 (.some 1), ci 0, cb false, .sl 1 0 1 1 (.some 1), ci 0, cb false, .sl 2 0 1 1 (.some 1), ci 0, cb false, .sl 3 0 1 1 (.some 1), ci 0, cb true, ci 7, ci 7, .sl 4 0 4 1 .none, cb false, ci 0, ci 0, .sl 5 0 1 1 (.some 1), ci 2, ci 1, cz, cz, cz])], [.cells 128 [c32 7, c32 0], .cells 128 [c32 1, c32 0], .cells 128 [c32 1, c32 0], .cells 128 [c32 7, c32 0], .cells 128 [c32 226785554, c32 828227195, c32 1718716230, c32 3432887366], .cells 3 [ci 0]], .v (.c (ci 0)), [], []⟩
noncomputable def t21 : T (List Ent) := t20.set 94 (e21 :: Option.rec [] (fun l => l) (T.get t20 94))
theorem chk21 : chkA e21 ((execM t20 Tryz.prog known 3000).call 94 e21.args (memE e21.ins)) = true := by kernel_rfl
theorem k21 : Known Tryz.prog known t21 := Known.more follows k20 chk21
noncomputable def e22 : Ent := ⟨[.v (.a [ci 0, ci 4, cb true, ci 9, ci 0, ci 0, ci 0, ci 0, cb false, .sl 0 0 1 1 .none, ci 0, cb false, .sl 1 0 1 1 .none, ci 1, cb false, .sl 2 0 1 1 .none, ci 0, cb false, .sl 3 0 1 1 .none, ci 0, cb true, ci 4, ci 4, .sl 4 0 4 1 .none, cb false, ci 0, ci 0, cz, ci 0, ci 2, .sl 5 0 1 2 .none, cz, cz])], [.cells 128 [c32 2], .cells 128 [c32 1], .cells 128 [c32 1], .cells 128 [c32 4], .cells 128 [c32 0, c32 372365339, c32 3135421029, c32 3801526361], .cells 88 [ci 1, ci 0]], .v (.c (ci 0)), [], []⟩
noncomputable def t22 : T (List Ent) := t21.set 94 (e22 :: Option.rec [] (fun l => l) (T.get t21 94))
theorem chk22 : chkA e22 ((execM t21 Tryz.prog known 3000).call 94 e22.args (memE e22.ins)) = true := by kernel_rfl
theorem k22 : Known Tryz.prog known t22 := Known.more follows k21 chk22
noncomputable def e23 : Ent := ⟨[.v (.a [ci 1, ci 8, cb true, ci 9, ci 0, ci 0, ci 0, ci 0, cb false, .sl 0 0 1 1 .none, ci 0, cb false, .sl 1 0 1 1 .none, ci 1, cb false, cz, ci 0, cb false, .sl 2 0 1 1 .none, ci 0, cb true, ci 8, ci 8, .sl 3 0 4 1 .none, cb false, ci 0, ci 0, .sl 4 0 1 1 .none, ci 1, ci 2, .sl 5 0 1 2 .none, cz, cz])], [.cells 128 [c32 10], .cells 128 [c32 3], .cells 128 [c32 8], .cells 128 [c32 2696510205, c32 3303887172, c32 3676883707, c32 4034285998], .cells 3 [ci 0], .cells 88 [ci 0, ci 0]], .v (.c (ci 0)), [], []⟩
noncomputable def t23 : T (List Ent) := t22.set 94 (e23 :: Option.rec [] (fun l => l) (T.get t22 94))
theorem chk23 : chkA e23 ((execM t22 Tryz.prog known 3000).call 94 e23.args (memE e23.ins)) = true := by kernel_rfl
theorem k23 : Known Tryz.prog known t23 := Known.more follows k22 chk23
noncomputable def e24 : Ent := ⟨[.v (.a [ci 1, ci 8, cb true, ci 9, ci 0, ci 0, ci 0, ci 0, cb false, .sl 0 0 1 1 .none, ci 0, cb false, .sl 1 0 1 1 .none, ci 1, cb false, cz, ci 0, cb false, .sl 2 0 1 1 .none, ci 0, cb true, ci 8, ci 8, .sl 3 0 4 1 .none, cb true, ci 1, ci 0, .sl 4 0 1 1 .none, ci 1, ci 2, .sl 5 0 1 2 .none, cz, .sl 6 0 1 2 .none])], [.cells 128 [c32 10], .cells 128 [c32 3], .cells 128 [c32 8], .cells 128 [c32 2696510205, c32 3303887172, c32 3676883707, c32 4034285998], .cells 3 [ci 0], .cells 88 [ci 0, ci 0], .cells 205 [ci 3, ci 1]], .v (.c (ci 0)), [], []⟩
noncomputable def t24 : T (List Ent) := t23.set 94 (e24 :: Option.rec [] (fun l => l) (T.get t23 94))
theorem chk24 : chkA e24 ((execM t23 Tryz.prog known 3000).call 94 e24.args (memE e24.ins)) = true := by kernel_rfl
theorem k24 : Known Tryz.prog known t24 := Known.more follows k23 chk24
noncomputable def e25 : Ent := ⟨[.v (.a [ci 0, ci 4, cb true, ci 9, ci 0, ci 0, ci 0, ci 0, cb false, .sl 0 0 1 1 .none, ci 0, cb false, .sl 1 0 1 1 .none, ci 2, cb false, .sl 2 0 1 1 .none, ci 0, cb false, .sl 3 0 1 1 .none, ci 0, cb true, ci 4, ci 4, .sl 4 0 4 1 .none, cb false, ci 0, ci 0, cz, ci 0, ci 2, .sl 5 0 1 2 .none, cz, cz])], [.cells 128 [c32 1], .cells 128 [c32 1], .cells 128 [c32 1], .cells 128 [c32 4], .cells 128 [c32 0, c32 372365339, c32 3135421029, c32 3801526361], .cells 88 [ci 1, ci 0]], .v (.c (ci 0)), [], []⟩
noncomputable def t25 : T (List Ent) := t24.set 94 (e25 :: Option.rec [] (fun l => l) (T.get t24 94))
theorem chk25 : chkA e25 ((execM t24 Tryz.prog known 3000).call 94 e25.args (memE e25.ins)) = true := by kernel_rfl
theorem k25 : Known Tryz.prog known t25 := Known.more follows k24 chk25
noncomputable def e26 : Ent := ⟨[.v (.c (.sl 0 0 32 1 .none))], [.cells 5 [c8 72, c8 1, c8 1, c8 0, c8 23, c8 0, c8 1, c8 0, c8 0, c8 0, c8 0, c8 0, c8 0, c8 0, c8 0, c8 1, c8 0, c8 0, c8 0, c8 2, c8 0, c8 0, c8 1, c8 1, c8 0, c8 0, c8 0, c8 1, c8 157, c8 114, c8 49, c8 66]], .t [.a [c8 1, ci 0, ci 1, ci 0, ci 0, ci 0, cb false, .sl 1 0 1 1 .none, ci 0, cb false, .sl 2 0 1 1 .none, ci 1, cb false, cz, ci 0, cb false, cz, ci 0, cb false, cz, cb false, ci 0, ci 0, cz], .c (ci 0)], [.cells 128 [c32 2], .cells 128 [c32 1]], []⟩
noncomputable def t26 : T (List Ent) := t25.set 64 (e26 :: Option.rec [] (fun l => l) (T.get t25 64))
theorem chk26 : chkA e26 ((execM t25 Tryz.prog known 3000).call 64 e26.args (memE e26.ins)) = true := by kernel_rfl
theorem k26 : Known Tryz.prog known t26 := Known.more follows k25 chk26
noncomputable def e27 : Ent := ⟨[], [], .v (.c (cb true)), [], []⟩
noncomputable def t27 : T (List Ent) := t26.set 14 (e27 :: Option.rec [] (fun l => l) (T.get t26 14))
theorem chk27 : chkA e27 ((execM t26 Tryz.prog known 3000).call 14 e27.args (memE e27.ins)) = true := by kernel_rfl
theorem k27 : Known Tryz.prog known t27 := Known.more follows k26 chk27
theorem ran : trueR ((execM t27 Tryz.prog known 3000).call 3 [] ⟨.e, 0, big⟩) = true := by kernel_rfl
theorem last : Known Tryz.prog known t27 := k27
end WorldNames
end Go.Proofs.YtabhekdkgdfbdaaGreatDoor
