/- The kernel runs the closed call NodeNames to its end: what was run once is looked up. -/
import Derived.KernelRfl
import Derived.Lib.TrailingZeros
import Derived.Test.YtmbgfnpkkkjipaaGreatProg
import Derived.Test.YtmbgfnpkkkjipaaGreatExI
namespace Go.Proofs.YtmbgfnpkkkjipaaGreat
open Go.Ex
noncomputable def known : Nat → Option (List Value) := fun _ => none
namespace NodeNames
noncomputable def nthV (l : List Value) : Nat → Value := List.rec (fun _ => .nilFunc) (fun x _ ih i => Nat.rec x (fun j _ => ih j) i) l
noncomputable def zeroFrozen : List Value := [.nilFunc, .bool false, .slice none 0 0, .int .i64 (.ofNat 0), .bool false, .slice none 0 0, .int .i64 (.ofNat 0), .bool false, .slice none 0 0, .int .i64 (.ofNat 0), .bool false, .slice none 0 0, .int .i64 (.ofNat 0), .bool false, .int .i64 (.ofNat 0), .int .i64 (.ofNat 0), .slice none 0 0]
noncomputable def pastG (i : Nat) : Value := Bool.rec (nthV zeroFrozen (Nat.mod i 17)) (.int .i64 (.ofNat (Nat.div i 17))) (Nat.beq (Nat.mod i 17) 0)
theorem follows : Tryz.prog.follows .mixedOrders = true := by kernel_rfl
noncomputable def t0 : T (List Ent) := .e
theorem k0 : Known Tryz.prog known t0 := known_none
noncomputable def e1 : Ent := ⟨[.v (.a [cb false, cz, ci 0, cb false, cz, ci 0, cb false, cz, ci 0, cb false, cz, ci 0, cb false, ci 0, ci 0, cz])], [], .v (.c (ci 0)), [], []⟩
noncomputable def t1 : T (List Ent) := t0.set 50 (e1 :: Option.rec [] (fun l => l) (T.get t0 50))
theorem c1 : chkA e1 ((execM t0 Tryz.prog known 3000).call 50 e1.args (memE e1.ins)) = true := by kernel_rfl
theorem k1 : Known Tryz.prog known t1 := Known.more follows k0 c1
noncomputable def e2 : Ent := ⟨[.v (.a [cb false, .sl 0 0 1 1 (.some 1), ci 0, cb false, .sl 1 0 1 1 (.some 1), ci 0, cb false, cz, ci 0, cb false, .sl 2 0 1 1 (.some 1), ci 0, cb true, ci 5, ci 5, .sl 3 0 4 1 .none])], [.cells 85 [c32 5, c32 0], .cells 85 [c32 1, c32 0], .cells 85 [c32 5, c32 0], .cells 85 [c32 2696510205, c32 3303887172, c32 3676883707, c32 4034285998]], .v (.c (ci 0)), [], []⟩
noncomputable def t2 : T (List Ent) := t1.set 50 (e2 :: Option.rec [] (fun l => l) (T.get t1 50))
theorem c2 : chkA e2 ((execM t1 Tryz.prog known 3000).call 50 e2.args (memE e2.ins)) = true := by kernel_rfl
theorem k2 : Known Tryz.prog known t2 := Known.more follows k1 c2
noncomputable def e3 : Ent := ⟨[.v (.a [cb false, .sl 0 0 1 1 .none, ci 0, cb false, .sl 1 0 1 1 .none, ci 0, cb false, cz, ci 0, cb false, .sl 2 0 1 1 .none, ci 0, cb true, ci 5, ci 5, .sl 3 0 4 1 .none])], [.cells 85 [c32 5], .cells 85 [c32 1], .cells 85 [c32 5], .cells 85 [c32 2696510205, c32 3303887172, c32 3676883707, c32 4034285998]], .v (.c (ci 0)), [], []⟩
noncomputable def t3 : T (List Ent) := t2.set 50 (e3 :: Option.rec [] (fun l => l) (T.get t2 50))
theorem c3 : chkA e3 ((execM t2 Tryz.prog known 3000).call 50 e3.args (memE e3.ins)) = true := by kernel_rfl
theorem k3 : Known Tryz.prog known t3 := Known.more follows k2 c3
noncomputable def e4 : Ent := ⟨[.v (.a [cb false, .sl 0 0 1 1 (.some 1), ci 0, cb false, .sl 1 0 1 1 (.some 1), ci 0, cb false, .sl 2 0 1 1 (.some 1), ci 0, cb false, .sl 3 0 1 1 (.some 1), ci 0, cb true, ci 5, ci 5, .sl 4 0 4 1 .none])], [.cells 85 [c32 5, c32 0], .cells 85 [c32 1, c32 0], .cells 85 [c32 1, c32 0], .cells 85 [c32 5, c32 0], .cells 85 [c32 134249518, c32 1018572535, c32 2280897752, c32 3015672980]], .v (.c (ci 0)), [], []⟩
noncomputable def t4 : T (List Ent) := t3.set 50 (e4 :: Option.rec [] (fun l => l) (T.get t3 50))
theorem c4 : chkA e4 ((execM t3 Tryz.prog known 3000).call 50 e4.args (memE e4.ins)) = true := by kernel_rfl
theorem k4 : Known Tryz.prog known t4 := Known.more follows k3 c4
noncomputable def e5 : Ent := ⟨[], [], .v (.c (cb true)), [], []⟩
noncomputable def t5 : T (List Ent) := t4.set 11 (e5 :: Option.rec [] (fun l => l) (T.get t4 11))
theorem c5 : chkA e5 ((execM t4 Tryz.prog known 3000).call 11 e5.args (memE e5.ins)) = true := by kernel_rfl
theorem k5 : Known Tryz.prog known t5 := Known.more follows k4 c5
noncomputable def e6 : Ent := ⟨[.v (.a [cb false, cz, ci 0, cb false, cz, ci 0, cb false, cz, ci 0, cb false, cz, ci 0, cb false, ci 0, ci 0, cz])], [], .v (.a [cb false, cz, ci 0, cb false, cz, ci 0, cb false, cz, ci 0, cb false, cz, ci 0, cb false, ci 0, ci 0, cz]), [], []⟩
noncomputable def t6 : T (List Ent) := t5.set 63 (e6 :: Option.rec [] (fun l => l) (T.get t5 63))
theorem c6 : chkA e6 ((execM t5 Tryz.prog known 3000).call 63 e6.args (memE e6.ins)) = true := by kernel_rfl
theorem k6 : Known Tryz.prog known t6 := Known.more follows k5 c6
noncomputable def e7 : Ent := ⟨[.v (.c (.sl 0 0 1024 17 (.some 1024)))], [.gen 53 17408 pastG], .v (.c (ci 0)), [], []⟩
noncomputable def t7 : T (List Ent) := t6.set 59 (e7 :: Option.rec [] (fun l => l) (T.get t6 59))
theorem c7 : chkA e7 ((execM t6 Tryz.prog known 3000).call 59 e7.args (memE e7.ins)) = true := by kernel_rfl
theorem k7 : Known Tryz.prog known t7 := Known.more follows k6 c7
noncomputable def e8 : Ent := ⟨[.v (.c (.sl 0 0 1024 17 .none))], [.gen 53 17408 pastG], .v (.c (ci 0)), [], []⟩
noncomputable def t8 : T (List Ent) := t7.set 59 (e8 :: Option.rec [] (fun l => l) (T.get t7 59))
theorem c8 : chkA e8 ((execM t7 Tryz.prog known 3000).call 59 e8.args (memE e8.ins)) = true := by kernel_rfl
theorem k8 : Known Tryz.prog known t8 := Known.more follows k7 c8
noncomputable def e9 : Ent := ⟨[.v (.c (.sl 0 0 1024 17 (.some 1024)))], [.gen 53 17408 pastG], .v (.c (.sl 1 0 1024 17 .none)), [.gen 53 17408 pastG], []⟩
noncomputable def t9 : T (List Ent) := t8.set 66 (e9 :: Option.rec [] (fun l => l) (T.get t8 66))
theorem c9 : chkA e9 ((execM t8 Tryz.prog known 3000).call 66 e9.args (memE e9.ins)) = true := by kernel_rfl
theorem k9 : Known Tryz.prog known t9 := Known.more follows k8 c9
theorem ran : trueR ((execM t9 Tryz.prog known 3000).call 3 [] ⟨.e, 0, big⟩) = true := by kernel_rfl
theorem last : Known Tryz.prog known t9 := k9
end NodeNames
end Go.Proofs.YtmbgfnpkkkjipaaGreat
