/- The kernel runs the closed call ScriptNames to its end: what was run once is looked up. -/
import Derived.KernelRfl
import Derived.Lib.TrailingZeros
import Derived.Test.YtpjjhfmcbddgiaaGreatDoorProg
import Derived.Test.YtpjjhfmcbddgiaaGreatDoorExI
namespace Go.Proofs.YtpjjhfmcbddgiaaGreatDoor
open Go.Ex
noncomputable def known : Nat → Option (List Value) := fun g => Nat.rec (some (Lib.deBruijn32tab.map fun n : Nat => .int .u8 n)) (fun _ _ => none) g
namespace ScriptNames
theorem follows : Tryz.prog.follows .mixedOrders = true := by kernel_rfl
noncomputable def t0 : T (List Ent) := .e
theorem k0 : Known Tryz.prog known t0 := known_none
noncomputable def e1 : Ent := ⟨[.v (.a [cb false, .sl 0 0 1 1 .none, ci 0]), .v (.a [cb false, .sl 1 0 1 1 .none, ci 1]), .v (.c (ci 0))], [.cells 168 [c32 10], .cells 168 [c32 3]], .t [.a [c32 6, c32 0, c32 0, c32 0, c32 0, c32 0, c32 0, c32 0, c32 0, c32 0, c32 0, c32 0, c32 0, c32 0, c32 0, c32 0, c32 0, c32 0, c32 0, c32 0, c32 0, c32 0, c32 0, c32 0, c32 0, c32 0, c32 0, c32 0, c32 0, c32 0, c32 0, c32 0, c32 0, c32 0, c32 0, c32 0, c32 0, c32 0, c32 0, c32 0, c32 0, c32 0, c32 0, c32 0, c32 0, c32 0, c32 0, c32 0, c32 0, c32 0, c32 0, c32 0, c32 0, c32 0, c32 0, c32 0, c32 0, c32 0, c32 0, c32 0, c32 0, c32 0, c32 0, c32 0, c32 0, c32 0, c32 0, c32 0, c32 0, c32 0, c32 0, c32 0, c32 0, c32 0, c32 0, c32 0], .c (cb true)], [], []⟩
noncomputable def t1 : T (List Ent) := t0.set 374 (e1 :: Option.rec [] (fun l => l) (T.get t0 374))
theorem chk1 : chkA e1 ((execM t0 Tryz.prog known 3000).call 374 e1.args (memE e1.ins)) = true := by kernel_rfl
theorem k1 : Known Tryz.prog known t1 := Known.more follows k0 chk1
noncomputable def e2 : Ent := ⟨[.v (.a [ci 0, ci 2, cz])], [], .v (.c (ci 0)), [], []⟩
noncomputable def t2 : T (List Ent) := t1.set 104 (e2 :: Option.rec [] (fun l => l) (T.get t1 104))
theorem chk2 : chkA e2 ((execM t1 Tryz.prog known 3000).call 104 e2.args (memE e2.ins)) = true := by kernel_rfl
theorem k2 : Known Tryz.prog known t2 := Known.more follows k1 chk2
noncomputable def e3 : Ent := ⟨[.v (.a [ci 0, ci 2, .sl 0 0 1 2 .none])], [.cells 68 [ci 1, ci 0]], .v (.c (ci 0)), [], []⟩
noncomputable def t3 : T (List Ent) := t2.set 104 (e3 :: Option.rec [] (fun l => l) (T.get t2 104))
theorem chk3 : chkA e3 ((execM t2 Tryz.prog known 3000).call 104 e3.args (memE e3.ins)) = true := by kernel_rfl
theorem k3 : Known Tryz.prog known t3 := Known.more follows k2 chk3
noncomputable def e4 : Ent := ⟨[.v (.a [ci 1, ci 2, cz])], [], .v (.c (ci 0)), [], []⟩
noncomputable def t4 : T (List Ent) := t3.set 104 (e4 :: Option.rec [] (fun l => l) (T.get t3 104))
theorem chk4 : chkA e4 ((execM t3 Tryz.prog known 3000).call 104 e4.args (memE e4.ins)) = true := by kernel_rfl
theorem k4 : Known Tryz.prog known t4 := Known.more follows k3 chk4
noncomputable def e5 : Ent := ⟨[.v (.a [ci 1, ci 2, .sl 0 0 1 2 .none])], [.cells 68 [ci 0, ci 0]], .v (.c (ci 0)), [], []⟩
noncomputable def t5 : T (List Ent) := t4.set 104 (e5 :: Option.rec [] (fun l => l) (T.get t4 104))
theorem chk5 : chkA e5 ((execM t4 Tryz.prog known 3000).call 104 e5.args (memE e5.ins)) = true := by kernel_rfl
theorem k5 : Known Tryz.prog known t5 := Known.more follows k4 chk5
noncomputable def e6 : Ent := ⟨[.v (.a [ci 0, ci 0, cb false, ci 0, ci 0, ci 0, ci 0, ci 0, cb false, cz, ci 0, cb false, cz, ci 0, cb false, cz, ci 0, cb false, cz, ci 0, cb false, ci 0, ci 0, cz, cb false, ci 0, ci 0, cz, ci 0, ci 0, cz, cz, cz])], [], .v (.c (ci 0)), [], []⟩
noncomputable def t6 : T (List Ent) := t5.set 74 (e6 :: Option.rec [] (fun l => l) (T.get t5 74))
theorem chk6 : chkA e6 ((execM t5 Tryz.prog known 3000).call 74 e6.args (memE e6.ins)) = true := by kernel_rfl
theorem k6 : Known Tryz.prog known t6 := Known.more follows k5 chk6
noncomputable def e7 : Ent := ⟨[.v (.a [ci 1, ci 0, cb false, ci 0, ci 0, ci 0, ci 0, ci 0, cb false, cz, ci 0, cb false, cz, ci 0, cb false, cz, ci 0, cb false, cz, ci 0, cb false, ci 0, ci 0, cz, cb false, ci 0, ci 0, cz, ci 0, ci 0, cz, cz, cz])], [], .v (.c (ci 0)), [], []⟩
noncomputable def t7 : T (List Ent) := t6.set 74 (e7 :: Option.rec [] (fun l => l) (T.get t6 74))
theorem chk7 : chkA e7 ((execM t6 Tryz.prog known 3000).call 74 e7.args (memE e7.ins)) = true := by kernel_rfl
theorem k7 : Known Tryz.prog known t7 := Known.more follows k6 chk7
noncomputable def e8 : Ent := ⟨[.v (.a [ci 0, ci 1, cb true, ci 9, ci 0, ci 0, ci 0, ci 0, cb false, cz, ci 0, cb false, cz, ci 0, cb false, cz, ci 0, cb false, cz, ci 0, cb false, ci 0, ci 0, cz, cb false, ci 0, ci 0, cz, ci 0, ci 2, .sl 0 0 1 2 .none, cz, cz])], [.cells 68 [ci 1, ci 0]], .v (.c (ci 0)), [], []⟩
noncomputable def t8 : T (List Ent) := t7.set 74 (e8 :: Option.rec [] (fun l => l) (T.get t7 74))
theorem chk8 : chkA e8 ((execM t7 Tryz.prog known 3000).call 74 e8.args (memE e8.ins)) = true := by kernel_rfl
theorem k8 : Known Tryz.prog known t8 := Known.more follows k7 chk8
noncomputable def e9 : Ent := ⟨[.v (.a [ci 1, ci 2, cb true, ci 9, ci 0, ci 0, ci 0, ci 0, cb false, cz, ci 0, cb false, cz, ci 0, cb false, cz, ci 0, cb false, cz, ci 0, cb false, ci 0, ci 0, cz, cb false, ci 0, ci 0, cz, ci 1, ci 2, .sl 0 0 1 2 .none, cz, cz])], [.cells 68 [ci 0, ci 0]], .v (.c (ci 0)), [], []⟩
noncomputable def t9 : T (List Ent) := t8.set 74 (e9 :: Option.rec [] (fun l => l) (T.get t8 74))
theorem chk9 : chkA e9 ((execM t8 Tryz.prog known 3000).call 74 e9.args (memE e9.ins)) = true := by kernel_rfl
theorem k9 : Known Tryz.prog known t9 := Known.more follows k8 chk9
noncomputable def e10 : Ent := ⟨[.v (.a [ci 0, ci 1, cb true, ci 9, ci 0, ci 0, ci 0, ci 0, cb false, .sl 0 0 1 1 (.some 1), ci 0, cb false, .sl 1 0 1 1 (.some 1), ci 0, cb false, .sl 2 0 1 1 (.some 1), ci 0, cb false, .sl 3 0 1 1 (.some 1), ci 0, cb true, ci 1, ci 1, .sl 4 0 4 1 .none, cb false, ci 0, ci 0, cz, ci 0, ci 2, .sl 5 0 1 2 .none, cz, cz])], [.cells 168 [c32 1, c32 0], .cells 168 [c32 1, c32 0], .cells 168 [c32 1, c32 0], .cells 168 [c32 1, c32 0], .cells 168 [c32 0, c32 372365339, c32 3135421029, c32 3801526361], .cells 68 [ci 1, ci 0]], .v (.c (ci 0)), [], []⟩
noncomputable def t10 : T (List Ent) := t9.set 74 (e10 :: Option.rec [] (fun l => l) (T.get t9 74))
theorem chk10 : chkA e10 ((execM t9 Tryz.prog known 3000).call 74 e10.args (memE e10.ins)) = true := by kernel_rfl
theorem k10 : Known Tryz.prog known t10 := Known.more follows k9 chk10
noncomputable def e11 : Ent := ⟨[.v (.a [ci 1, ci 2, cb true, ci 9, ci 0, ci 0, ci 0, ci 0, cb false, .sl 0 0 1 1 (.some 1), ci 0, cb false, .sl 1 0 1 1 (.some 1), ci 0, cb false, cz, ci 0, cb false, .sl 2 0 1 1 (.some 1), ci 0, cb true, ci 2, ci 2, .sl 3 0 4 1 .none, cb false, ci 0, ci 0, cz, ci 1, ci 2, .sl 4 0 1 2 .none, cz, cz])], [.cells 168 [c32 2, c32 0], .cells 168 [c32 1, c32 0], .cells 168 [c32 2, c32 0], .cells 168 [c32 2696510205, c32 3303887172, c32 3676883707, c32 4034285998], .cells 68 [ci 0, ci 0]], .v (.c (ci 0)), [], []⟩
noncomputable def t11 : T (List Ent) := t10.set 74 (e11 :: Option.rec [] (fun l => l) (T.get t10 74))
theorem chk11 : chkA e11 ((execM t10 Tryz.prog known 3000).call 74 e11.args (memE e11.ins)) = true := by kernel_rfl
theorem k11 : Known Tryz.prog known t11 := Known.more follows k10 chk11
noncomputable def e12 : Ent := ⟨[.v (.a [ci 0, ci 4, cb true, ci 9, ci 0, ci 0, ci 0, ci 0, cb false, cz, ci 0, cb false, cz, ci 0, cb false, cz, ci 0, cb false, cz, ci 0, cb false, ci 0, ci 0, cz, cb false, ci 0, ci 0, cz, ci 0, ci 2, .sl 0 0 1 2 .none, cz, cz])], [.cells 68 [ci 1, ci 0]], .v (.c (ci 0)), [], []⟩
noncomputable def t12 : T (List Ent) := t11.set 74 (e12 :: Option.rec [] (fun l => l) (T.get t11 74))
theorem chk12 : chkA e12 ((execM t11 Tryz.prog known 3000).call 74 e12.args (memE e12.ins)) = true := by kernel_rfl
theorem k12 : Known Tryz.prog known t12 := Known.more follows k11 chk12
noncomputable def e13 : Ent := ⟨[.v (.a [ci 1, ci 8, cb true, ci 9, ci 0, ci 0, ci 0, ci 0, cb false, cz, ci 0, cb false, cz, ci 0, cb false, cz, ci 0, cb false, cz, ci 0, cb false, ci 0, ci 0, cz, cb false, ci 0, ci 0, cz, ci 1, ci 2, .sl 0 0 1 2 .none, cz, cz])], [.cells 68 [ci 0, ci 0]], .v (.c (ci 0)), [], []⟩
noncomputable def t13 : T (List Ent) := t12.set 74 (e13 :: Option.rec [] (fun l => l) (T.get t12 74))
theorem chk13 : chkA e13 ((execM t12 Tryz.prog known 3000).call 74 e13.args (memE e13.ins)) = true := by kernel_rfl
theorem k13 : Known Tryz.prog known t13 := Known.more follows k12 chk13
noncomputable def e14 : Ent := ⟨[.v (.a [ci 0, ci 4, cb true, ci 9, ci 0, ci 0, ci 0, ci 0, cb false, .sl 0 0 1 1 (.some 1), ci 0, cb false, .sl 1 0 1 1 (.some 1), ci 0, cb false, .sl 2 0 1 1 (.some 1), ci 0, cb false, .sl 3 0 1 1 (.some 1), ci 0, cb true, ci 4, ci 4, .sl 4 0 4 1 .none, cb false, ci 0, ci 0, cz, ci 0, ci 2, .sl 5 0 1 2 .none, cz, cz])], [.cells 168 [c32 4, c32 0], .cells 168 [c32 1, c32 0], .cells 168 [c32 1, c32 0], .cells 168 [c32 4, c32 0], .cells 168 [c32 0, c32 372365339, c32 3135421029, c32 3801526361], .cells 68 [ci 1, ci 0]], .v (.c (ci 0)), [], []⟩
noncomputable def t14 : T (List Ent) := t13.set 74 (e14 :: Option.rec [] (fun l => l) (T.get t13 74))
theorem chk14 : chkA e14 ((execM t13 Tryz.prog known 3000).call 74 e14.args (memE e14.ins)) = true := by kernel_rfl
theorem k14 : Known Tryz.prog known t14 := Known.more follows k13 chk14
noncomputable def e15 : Ent := ⟨[.v (.a [ci 1, ci 8, cb true, ci 9, ci 0, ci 0, ci 0, ci 0, cb false, .sl 0 0 1 1 (.some 1), ci 0, cb false, .sl 1 0 1 1 (.some 1), ci 0, cb false, cz, ci 0, cb false, .sl 2 0 1 1 (.some 1), ci 0, cb true, ci 8, ci 8, .sl 3 0 4 1 .none, cb false, ci 0, ci 0, cz, ci 1, ci 2, .sl 4 0 1 2 .none, cz, cz])], [.cells 168 [c32 8, c32 0], .cells 168 [c32 1, c32 0], .cells 168 [c32 8, c32 0], .cells 168 [c32 2696510205, c32 3303887172, c32 3676883707, c32 4034285998], .cells 68 [ci 0, ci 0]], .v (.c (ci 0)), [], []⟩
noncomputable def t15 : T (List Ent) := t14.set 74 (e15 :: Option.rec [] (fun l => l) (T.get t14 74))
theorem chk15 : chkA e15 ((execM t14 Tryz.prog known 3000).call 74 e15.args (memE e15.ins)) = true := by kernel_rfl
theorem k15 : Known Tryz.prog known t15 := Known.more follows k14 chk15
noncomputable def e16 : Ent := ⟨[.v (.a [ci 0, ci 4, cb true, ci 9, ci 0, ci 0, ci 0, ci 0, cb false, .sl 0 0 1 1 .none, ci 0, cb false, .sl 1 0 1 1 .none, ci 0, cb false, .sl 2 0 1 1 .none, ci 0, cb false, .sl 3 0 1 1 .none, ci 0, cb true, ci 4, ci 4, .sl 4 0 4 1 .none, cb false, ci 0, ci 0, cz, ci 0, ci 2, .sl 5 0 1 2 .none, cz, cz])], [.cells 168 [c32 4], .cells 168 [c32 1], .cells 168 [c32 1], .cells 168 [c32 4], .cells 168 [c32 0, c32 372365339, c32 3135421029, c32 3801526361], .cells 68 [ci 1, ci 0]], .v (.c (ci 0)), [], []⟩
noncomputable def t16 : T (List Ent) := t15.set 74 (e16 :: Option.rec [] (fun l => l) (T.get t15 74))
theorem chk16 : chkA e16 ((execM t15 Tryz.prog known 3000).call 74 e16.args (memE e16.ins)) = true := by kernel_rfl
theorem k16 : Known Tryz.prog known t16 := Known.more follows k15 chk16
noncomputable def e17 : Ent := ⟨[.v (.a [ci 0, ci 4, cb true, ci 9, ci 0, ci 0, ci 0, ci 0, cb false, .sl 0 0 1 1 .none, ci 0, cb false, .sl 1 0 1 1 .none, ci 1, cb false, .sl 2 0 1 1 .none, ci 0, cb false, .sl 3 0 1 1 .none, ci 0, cb true, ci 4, ci 4, .sl 4 0 4 1 .none, cb false, ci 0, ci 0, cz, ci 0, ci 2, .sl 5 0 1 2 .none, cz, cz])], [.cells 168 [c32 2], .cells 168 [c32 1], .cells 168 [c32 1], .cells 168 [c32 4], .cells 168 [c32 0, c32 372365339, c32 3135421029, c32 3801526361], .cells 68 [ci 1, ci 0]], .v (.c (ci 0)), [], []⟩
noncomputable def t17 : T (List Ent) := t16.set 74 (e17 :: Option.rec [] (fun l => l) (T.get t16 74))
theorem chk17 : chkA e17 ((execM t16 Tryz.prog known 3000).call 74 e17.args (memE e17.ins)) = true := by kernel_rfl
theorem k17 : Known Tryz.prog known t17 := Known.more follows k16 chk17
noncomputable def e18 : Ent := ⟨[.v (.a [ci 1, ci 8, cb true, ci 9, ci 0, ci 0, ci 0, ci 0, cb false, .sl 0 0 1 1 .none, ci 0, cb false, .sl 1 0 1 1 .none, ci 0, cb false, cz, ci 0, cb false, .sl 2 0 1 1 .none, ci 0, cb true, ci 8, ci 8, .sl 3 0 4 1 .none, cb false, ci 0, ci 0, cz, ci 1, ci 2, .sl 4 0 1 2 .none, cz, cz])], [.cells 168 [c32 8], .cells 168 [c32 1], .cells 168 [c32 8], .cells 168 [c32 2696510205, c32 3303887172, c32 3676883707, c32 4034285998], .cells 68 [ci 0, ci 0]], .v (.c (ci 0)), [], []⟩
noncomputable def t18 : T (List Ent) := t17.set 74 (e18 :: Option.rec [] (fun l => l) (T.get t17 74))
theorem chk18 : chkA e18 ((execM t17 Tryz.prog known 3000).call 74 e18.args (memE e18.ins)) = true := by kernel_rfl
theorem k18 : Known Tryz.prog known t18 := Known.more follows k17 chk18
noncomputable def e19 : Ent := ⟨[.v (.a [ci 1, ci 8, cb true, ci 9, ci 0, ci 0, ci 0, ci 0, cb false, .sl 0 0 1 1 .none, ci 0, cb false, .sl 1 0 1 1 .none, ci 1, cb false, cz, ci 0, cb false, .sl 2 0 1 1 .none, ci 0, cb true, ci 8, ci 8, .sl 3 0 4 1 .none, cb false, ci 0, ci 0, .sl 4 0 1 1 .none, ci 1, ci 2, .sl 5 0 1 2 .none, cz, cz])], [.cells 168 [c32 10], .cells 168 [c32 3], .cells 168 [c32 8], .cells 168 [c32 2696510205, c32 3303887172, c32 3676883707, c32 4034285998], .cells 3 [ci 0], .cells 68 [ci 0, ci 0]], .v (.c (ci 0)), [], []⟩
noncomputable def t19 : T (List Ent) := t18.set 74 (e19 :: Option.rec [] (fun l => l) (T.get t18 74))
theorem chk19 : chkA e19 ((execM t18 Tryz.prog known 3000).call 74 e19.args (memE e19.ins)) = true := by kernel_rfl
theorem k19 : Known Tryz.prog known t19 := Known.more follows k18 chk19
noncomputable def e20 : Ent := ⟨[], [], .v (.c (cb true)), [], []⟩
noncomputable def t20 : T (List Ent) := t19.set 9 (e20 :: Option.rec [] (fun l => l) (T.get t19 9))
theorem chk20 : chkA e20 ((execM t19 Tryz.prog known 3000).call 9 e20.args (memE e20.ins)) = true := by kernel_rfl
theorem k20 : Known Tryz.prog known t20 := Known.more follows k19 chk20
theorem ran : trueR ((execM t20 Tryz.prog known 3000).call 3 [] ⟨.e, 0, big⟩) = true := by kernel_rfl
theorem last : Known Tryz.prog known t20 := k20
end ScriptNames
end Go.Proofs.YtpjjhfmcbddgiaaGreatDoor
