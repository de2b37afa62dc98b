/- Each Go function that the law reaches as a Lean function, and that its call comes to that function's answer. -/
import Derived.Test.YtbahagcidhmojaaDoorVEventDecodes
import Derived.Test.YtbahagcidhmojaaDoorProg
import Derived.Test.YtbahagcidhmojaaDoorShelf
import Derived.Below
import Derived.Deep.Draws
import Derived.Deep.AppendLies
import Derived.Maps.AppendAt
import Derived.OwnWalk
import Derived.Laws.BytesArg
import Derived.Laws.MakeOwn
import Derived.Laws.OwnMore
import Derived.Deep.OwnRows
import Derived.Tactics
import Derived.Lib.ConvBytes
import Derived.Laws.Slices
import Derived.WalkKit
import Derived.KernelRfl
import Derived.RowKit3
import Derived.Deep.LoopGhost
import Derived.Deep.QuietTactic
import Derived.BigQuiet
import Derived.WideLaws
import Derived.Deep.DeepCutAuto
import Derived.Deep.CutBlock
import Derived.Deep.RegionHeld3
import Derived.Laws.Rows
import Derived.Lib.AppendStr
import Derived.ArgAppend
import Derived.Laws.IdiomCopy
import Derived.OrdersHeld
import Derived.Laws.BitsLemmas
import Derived.RowKit
import Derived.LoopN
import Derived.Laws.EntriesVeiled
import Derived.LaidSub
import Derived.MakeChecks
import Derived.Lib.LaidTab
namespace Go.Proofs.YtbahagcidhmojaaDoor.PA
open Go.RowKit Go.Proofs.YtbahagcidhmojaaDoorW.PrintWords Go.Proofs.YtbahagcidhmojaaDoorW.PrintLast Go.Proofs.YtbahagcidhmojaaDoorW.PrintMore
attribute [local go_sem] max2_int min2_int max_two min_two max_three min_three max_four min_four
set_option linter.unusedVariables false
set_option linter.unusedSimpArgs false
def errW : Option Int → Value
 | none => .nilIface
 | some c => .iface 0 (.int .i64 c)
theorem errW_none : errW none = .nilIface := rfl
theorem errW_some (c : Int) : errW (some c) = .iface 0 (.int .i64 c) := rfl
theorem info3 : (Tryd.prog.info? 3).map (fun i => (i.zero, i.size, i.bytes)) = some (some (.int .i64 0), 1, 8) := by kernel_rfl
theorem info5 : (Tryd.prog.info? 5).map (fun i => (i.zero, i.size, i.bytes)) = some (some (.int .u8 0), 1, 1) := by kernel_rfl
end Go.Proofs.YtbahagcidhmojaaDoor.PA
namespace Go.Proofs.YtbahagcidhmojaaDoor.PA
open Go.RowKit Go.Proofs.YtbahagcidhmojaaDoorW.PrintWords Go.Proofs.YtbahagcidhmojaaDoorW.PrintLast Go.Proofs.YtbahagcidhmojaaDoorW.PrintMore
attribute [local go_sem] max2_int min2_int max_two min_two max_three min_three max_four min_four
set_option linter.unusedVariables false
set_option linter.unusedSimpArgs false
def ident_Letter.l0 : Nat → ByteArray → Int → Int → Int → Option (Int)
 | 0, _, _, _, _ => none
 | k + 1, x0, x3, x6, x7 => if x7 < x6 then (if 0 ≤ x7 then (if x7 < (x0.size : Int) then (ident_Letter.l0 k x0 (Int.tmod (wrap64 (x3 + (wrap64 ((wrap64 ((Int.tmod x7 23) + 1)) * (wrap64 (bt x0 x7)))))) 23) x6 (wrap64 (x7 + 1))) else (none)) else (none)) else (some ((65 + ((x3) % 256)) % 256))
def ident_Letter.f (k : Nat) (a0 : ByteArray) : Option (Int) := ident_Letter.l0 k a0 0 (a0.size : Int) 0
theorem ident_Letter.mono_l : ∀ k, (∀ y0 y1 y2 y3, LeO (ident_Letter.l0 k y0 y1 y2 y3) (ident_Letter.l0 (k + 1) y0 y1 y2 y3))
 | 0 => fun _ _ _ _ r h => by simp [ident_Letter.l0] at h
 | k + 1 => by
  have ih0 := ident_Letter.mono_l k
  ·intro y0 y1 y2 y3
   unfold ident_Letter.l0
   repeat' first
   | (with_reducible exact ih0 _ _ _ _)
   | (with_reducible exact LeO.refl _)
   | (with_reducible exact LeO.none _)
   | (with_reducible refine LeO.ite ?_ ?_)
   | (with_reducible refine LeO.bind ?_ (fun _ => ?_))
   | exact ih0 _ _ _ _
   | exact LeO.none _
   | refine LeO.ite ?_ ?_
   | refine LeO.bind ?_ (fun _ => ?_)
theorem ident_Letter.mono : ∀ a0 k, LeO (ident_Letter.f k a0) (ident_Letter.f (k + 1) a0) := by
 intro a0 k
 have ih0 := ident_Letter.mono_l k
 unfold ident_Letter.f
 repeat' first
   | (with_reducible exact ih0 _ _ _ _)
   | (with_reducible exact LeO.refl _)
   | (with_reducible exact LeO.none _)
   | (with_reducible refine LeO.ite ?_ ?_)
   | (with_reducible refine LeO.bind ?_ (fun _ => ?_))
   | exact ih0 _ _ _ _
   | exact LeO.none _
   | refine LeO.ite ?_ ?_
   | refine LeO.bind ?_ (fun _ => ?_)
set_option maxHeartbeats 8000000 in
set_option maxRecDepth 100000 in
theorem ident_Letter.calls (k : Nat) (a0 : ByteArray) (r : Int) (w : World) (h : ident_Letter.f k a0 = some r) :
  Calls Tryd.prog 83 #[.string a0] w fun e w' => e = .returned (.int .u8 r) ∧ Drawn0 w w' := by
 have H : (ident_Letter.l0 k a0 0 (a0.size : Int) 0) = some r := h
 clear h
 have H' := Aside0.mk H
 clear H
 go_enter Tryd.func83, Tryd.ntmps83
 go_wp2
 go_loopg [3, 7] k (fun kq v3 v7 w' => ∃ (x3_1 : Int) (x7_1 : Int), v3 = .int .i64 x3_1 ∧ v7 = .int .i64 x7_1 ∧ Aside0 (ident_Letter.l0 kq a0 x3_1 (a0.size : Int) x7_1 = some r) ∧ Aside0 (kq ≤ k) ∧ Drawn0 w w')
 case atStart => exact ⟨(0), (0), (by first | rfl | (simp; done) | (simp [*]; done)), (by first | rfl | (simp; done) | (simp [*]; done)), H', ⟨Nat.le_refl _⟩, by repeat (first | exact Drawn0.refl _ | apply Drawn0.step)⟩
 case round =>
  clear H'
  obtain ⟨x3_1, x7_1, rfl, rfl, HA, HK1, ⟨m1, rfl⟩⟩ := hrel
  cases gk with
  | zero => exact absurd HA.out (by simp [ident_Letter.l0])
  | succ k1 =>
   have H := HA.out
   clear HA
   simp only [ident_Letter.l0] at H
   by_cases c2 : x7_1 < (a0.size : Int)
   ·rw [if_pos c2] at H
    have c2b0 : decide (x7_1 < (a0.size : Int)) = true := decide_eq_true c2
    clear c2
    by_cases c3 : 0 ≤ x7_1
    ·rw [if_pos c3] at H
     have c3b0 : decide (0 ≤ x7_1) = true := decide_eq_true c3
     clear c3
     by_cases c4 : x7_1 < (a0.size : Int)
     ·rw [if_pos c4] at H
      have c4b0 : decide (x7_1 < (a0.size : Int)) = true := decide_eq_true c4
      clear c4
      have H' := Aside0.mk H
      clear H
      have p5 : 0 ≤ (x7_1 : Int) := of_decide_eq_true (by first | (with_reducible assumption) | assumption)
      have q5 : x7_1 < (a0.size : Int) := of_decide_eq_true (by first | (with_reducible assumption) | assumption)
      have hx5 := bt_at a0 x7_1
      replace p5 := eq_true p5
      replace q5 := eq_true q5
      go_wp2
      go_roundg k1
      case measure => have := HK1.out; omega
      case rel => exact ⟨(Int.tmod (wrap64 (x3_1 + (wrap64 ((wrap64 ((Int.tmod x7_1 23) + 1)) * (wrap64 (bt a0 x7_1)))))) 23), (wrap64 (x7_1 + 1)), (by first | rfl | (simp; done) | (simp [*]; done)), (by first | rfl | (simp; done) | (simp [*]; done)), H', ⟨by have := HK1.out; omega⟩, by repeat (first | exact Drawn0.refl _ | apply Drawn0.step)⟩
     ·rw [if_neg c4] at H
      exact absurd H (by simp)
    ·rw [if_neg c3] at H
     exact absurd H (by simp)
   ·rw [if_neg c2] at H
    have c2b0 : decide (x7_1 < (a0.size : Int)) = false := decide_eq_false c2
    clear c2
    obtain rfl := Option.some.inj H
    go_wp2
    go_ret
    exact ⟨by first | rfl | (simp; done) | (simp [*]; done), by repeat (first | exact Drawn0.refl _ | apply Drawn0.step)⟩
def ident_capital.f (a0 : Int) : Option (Bool) := if 65 ≤ a0 then (some (decide (a0 ≤ 90))) else (some false)
set_option maxHeartbeats 8000000 in
set_option maxRecDepth 100000 in
theorem ident_capital.calls (a0 : Int) (r : Bool) (w : World) (h : ident_capital.f a0 = some r) :
  Calls Tryd.prog 90 #[.int .u8 a0] w fun e w' => e = .returned (.bool r) ∧ Drawn0 w w' := by
 have H : (if 65 ≤ a0 then (some (decide (a0 ≤ 90))) else (some false)) = some r := h
 clear h
 by_cases c2 : 65 ≤ a0
 ·rw [if_pos c2] at H
  have c2b0 : decide (65 ≤ a0) = true := decide_eq_true c2
  clear c2
  obtain rfl := Option.some.inj H
  go_enter Tryd.func90, Tryd.ntmps90
  go_wp2
  go_ret
  exact ⟨by first | rfl | (simp; done) | (simp [*]; done), by repeat (first | exact Drawn0.refl _ | apply Drawn0.step)⟩
 ·rw [if_neg c2] at H
  have c2b0 : decide (65 ≤ a0) = false := decide_eq_false c2
  clear c2
  obtain rfl := Option.some.inj H
  go_enter Tryd.func90, Tryd.ntmps90
  go_wp2
  go_ret
  exact ⟨by first | rfl | (simp; done) | (simp [*]; done), by repeat (first | exact Drawn0.refl _ | apply Drawn0.step)⟩
def ident_digit.f (a0 : Int) : Option (Bool) := if 48 ≤ a0 then (some (decide (a0 ≤ 57))) else (some false)
set_option maxHeartbeats 8000000 in
set_option maxRecDepth 100000 in
theorem ident_digit.calls (a0 : Int) (r : Bool) (w : World) (h : ident_digit.f a0 = some r) :
  Calls Tryd.prog 91 #[.int .u8 a0] w fun e w' => e = .returned (.bool r) ∧ Drawn0 w w' := by
 have H : (if 48 ≤ a0 then (some (decide (a0 ≤ 57))) else (some false)) = some r := h
 clear h
 by_cases c2 : 48 ≤ a0
 ·rw [if_pos c2] at H
  have c2b0 : decide (48 ≤ a0) = true := decide_eq_true c2
  clear c2
  obtain rfl := Option.some.inj H
  go_enter Tryd.func91, Tryd.ntmps91
  go_wp2
  go_ret
  exact ⟨by first | rfl | (simp; done) | (simp [*]; done), by repeat (first | exact Drawn0.refl _ | apply Drawn0.step)⟩
 ·rw [if_neg c2] at H
  have c2b0 : decide (48 ≤ a0) = false := decide_eq_false c2
  clear c2
  obtain rfl := Option.some.inj H
  go_enter Tryd.func91, Tryd.ntmps91
  go_wp2
  go_ret
  exact ⟨by first | rfl | (simp; done) | (simp [*]; done), by repeat (first | exact Drawn0.refl _ | apply Drawn0.step)⟩
set_option maxHeartbeats 1000000 in
set_option maxRecDepth 100000 in
theorem form_calls (w : World) : Calls Tryd.prog 82 #[] w fun e w' => e = .returned (.slice (some ⟨w.heap.size, 0, none⟩) 2 2) ∧ w' = w.alloc (.cells #[.int .i64 0, .int .i64 1, .func (.func 90) #[] #[], .int .i64 10, .int .i64 1, .int .i64 7, .func (.func 91) #[] #[], .int .i64 5] 104) := by
 go_enter Tryd.func82, Tryd.ntmps82
 go_wp2
 go_ret
 exact ⟨rfl, rfl⟩
def capB (c : Int) : Bool := decide (65 ≤ c ∧ c ≤ 90)
def digB (c : Int) : Bool := decide (48 ≤ c ∧ c ≤ 57)
theorem cap_calls (c : Int) (w : World) : Calls Tryd.prog 90 #[.int .u8 c] w fun e w' => e = .returned (.bool (capB c)) ∧ Drawn0 w w' :=
 ident_capital.calls c (capB c) w (by unfold ident_capital.f capB; split <;> simp [*])
theorem dig_calls (c : Int) (w : World) : Calls Tryd.prog 91 #[.int .u8 c] w fun e w' => e = .returned (.bool (digB c)) ∧ Drawn0 w w' :=
 ident_digit.calls c (digB c) w (by unfold ident_digit.f digB; split <;> simp [*])
theorem alloc_drewN (w : World) (n : Nat) (o : Obj) : (w.drewN n).alloc o = (w.alloc o).drewN n := rfl
theorem setCell_drewN (w : World) (n : Nat) (p : Addr) (v : Value) : (w.drewN n).setCell p v = (w.setCell p v).drewN n := by
 unfold World.setCell
 rfl
attribute [local go_sem] alloc_drewN setCell_drewN
theorem quiet_of_drawn {P : Program} {f : Nat} {args : Array Value} {w : World} {v : Value} (h : Calls P f args w fun e w' => e = .returned v ∧ Drawn0 w w') : Calls P f args w fun e w' => e = .returned v ∧ ∃ n, w' = w.drewN n :=
 h.mono fun _ _ ⟨he, hd⟩ => ⟨he, hd.out⟩
set_option maxHeartbeats 1000000 in
set_option maxRecDepth 100000 in
theorem split_short (a0 : ByteArray) (w : World) (h : ((a0.size : Int) != 8) = true) :
  Calls Tryd.prog 74 #[.string a0] w fun e w' => e = .returned (.tuple #[.int .u8 0, .int .i64 0, .int .i64 3]) ∧ w' = w := by
 go_enter Tryd.func74, Tryd.ntmps74
 go_wp2
 go_ret3
 exact ⟨rfl, rfl⟩
set_option maxHeartbeats 1000000 in
set_option maxRecDepth 100000 in
theorem split_nocap (a0 : ByteArray) (w : World) (h8 : a0.size = 8) (hc : capB (bt a0 0) = false) :
  Calls Tryd.prog 74 #[.string a0] w fun e w' => e = .returned (.tuple #[.int .u8 0, .int .i64 0, .int .i64 10]) ∧ Below w.heap.size w w' := by
 have h : ((a0.size : Int) != 8) = false := by rw [h8]; rfl
 have hx0 : ∀ h : 0 < a0.size, ((a0[0]'h).toNat : Int) = bt a0 0 := bt_at a0 0
 have hq : 0 < a0.size := by omega
 have HC := Aside0.mk hc
 clear hc h8
 have huF := Tryd.underlying104
 go_enter Tryd.func74, Tryd.ntmps74
 go_wp2_with (go_at_call 82; refine (form_calls _).mono ?_; rintro e w' ⟨rfl, rfl⟩)
 refine wp_loop_rounds 1 ?_
 rw [rounds_succ]
 go_wp2
 refine wp_loop_rounds 1 ?_
 rw [rounds_succ]
 go_wp2
 go_quiet ((go_at_call 90; (try simp only [hx0]); exact Calls.quiet_of (quiet_of_drawn (cap_calls _ _))))
 rw [HC.out]
 go_wp2
 go_quiet (fail)
 go_wp2
 go_ret3
 exact ⟨rfl, by repeat (first | exact Below.refl _ _ | apply pA | apply pN | apply below_drew)⟩
def allDig (a0 : ByteArray) : Bool := (List.range 6).all fun i => digB (bt a0 ((i + 1 : Nat) : Int))
theorem allDig_false (a0 : ByteArray) (k : Nat) (h1 : 1 ≤ k) (h2 : k < 7) (h : digB (bt a0 k) = false) : allDig a0 = false := by
 rw [allDig, List.all_eq_false]
 refine ⟨k - 1, by simp; omega, ?_⟩
 rw [Nat.sub_add_cancel h1, h]
 simp
theorem allDig_true (a0 : ByteArray) (h : ∀ j : Nat, 1 ≤ j → j < 7 → digB (bt a0 j) = true) : allDig a0 = true := by
 rw [allDig, List.all_eq_true]
 intro i hi
 exact h (i + 1) (by omega) (by simp at hi; omega)
def codeNum (s : ByteArray) : Int := 100000 * (bt s 1 - 48) + 10000 * (bt s 2 - 48) + 1000 * (bt s 3 - 48) + 100 * (bt s 4 - 48) + 10 * (bt s 5 - 48) + (bt s 6 - 48)
theorem dig_val (b : UInt8) (h : digB (b.toNat : Int) = true) : Lib.digitVal b = some (b.toNat - 48) ∧ 48 ≤ b.toNat ∧ b ≠ 45 ∧ b ≠ 43 := by
 have h' : 48 ≤ b.toNat ∧ b.toNat ≤ 57 := by simp [digB] at h; omega
 refine ⟨?_, h'.1, ?_, ?_⟩
 ·unfold Lib.digitVal
  rw [if_pos h']
 ·rintro rfl
  simp at h'
 ·rintro rfl
  simp at h'
theorem atoi_code (s : ByteArray) (h8 : s.size = 8) (h : allDig s = true) : (s.extract 1 7).size ≤ 18 ∧ Lib.atoi (s.extract 1 7).data.toList = some (codeNum s) := by
 obtain ⟨⟨l⟩⟩ := s
 match l, h8, h with
 | [b0, b1, b2, b3, b4, b5, b6, b7], _, h =>
  have h' : (digB (b1.toNat : Int) && (digB (b2.toNat : Int) && (digB (b3.toNat : Int) && (digB (b4.toNat : Int) && (digB (b5.toNat : Int) && (digB (b6.toNat : Int) && true)))))) = true := h
  simp only [Bool.and_eq_true, and_true] at h'
  obtain ⟨h1, h2, h3, h4, h5, h6⟩ := h'
  have e : (ByteArray.extract ⟨⟨[b0, b1, b2, b3, b4, b5, b6, b7]⟩⟩ 1 7).data.toList = [b1, b2, b3, b4, b5, b6] := by
   rw [Lib.extract_data]
   simp
  refine ⟨by rw [Lib.size_eq, e]; simp, ?_⟩
  rw [e]
  obtain ⟨v1, g1, n1, m1⟩ := dig_val b1 h1
  obtain ⟨v2, g2, -, -⟩ := dig_val b2 h2
  obtain ⟨v3, g3, -, -⟩ := dig_val b3 h3
  obtain ⟨v4, g4, -, -⟩ := dig_val b4 h4
  obtain ⟨v5, g5, -, -⟩ := dig_val b5 h5
  obtain ⟨v6, g6, -, -⟩ := dig_val b6 h6
  have c : codeNum ⟨⟨[b0, b1, b2, b3, b4, b5, b6, b7]⟩⟩ = 100000 * ((b1.toNat : Int) - 48) + 10000 * ((b2.toNat : Int) - 48) + 1000 * ((b3.toNat : Int) - 48) + 100 * ((b4.toNat : Int) - 48) + 10 * ((b5.toNat : Int) - 48) + ((b6.toNat : Int) - 48) := rfl
  rw [c]
  simp only [Lib.atoi, beq_iff_eq, n1, m1, if_false, Lib.decNat, List.isEmpty_cons, Lib.decFrom, v1, v2, v3, v4, v5, v6, Bool.false_eq_true, Option.map_some, Option.some.injEq]
  omega
def splitRes (a0 : ByteArray) (t : Int) : Int × Int × Int :=
 if allDig a0 = true then (if t = bt a0 7 then (bt a0 0, codeNum a0, 0) else (0, 0, 16)) else (0, 0, 5)
def SplitPost (a0 : ByteArray) (t : Int) (w : World) (e : Ending) (w' : World) : Prop :=
 e = .returned (.tuple #[.int .u8 (splitRes a0 t).1, .int .i64 (splitRes a0 t).2.1, .int .i64 (splitRes a0 t).2.2]) ∧ Below w.heap.size w w'
theorem splitPost_of {a0 : ByteArray} {t : Int} {w w' : World} {e : Ending} (x y z : Int) (he : e = .returned (.tuple #[.int .u8 x, .int .i64 y, .int .i64 z])) (hr : splitRes a0 t = (x, y, z)) (hb : Below w.heap.size w w') : SplitPost a0 t w e w' := by
 unfold SplitPost
 rw [hr]
 exact ⟨he, hb⟩
set_option maxHeartbeats 2000000 in
set_option maxRecDepth 100000 in
theorem split_main (k : Nat) (a0 : ByteArray) (t : Int) (w : World) (h8 : a0.size = 8) (hc : capB (bt a0 0) = true) (hL : allDig a0 = true → ident_Letter.f k (a0.extract 0 7) = some t) :
  Calls Tryd.prog 74 #[.string a0] w (SplitPost a0 t w) := by
 have h : ((a0.size : Int) != 8) = false := by rw [h8]; rfl
 have HX0 := q_ (show ∀ h : 0 < a0.size, ((a0[0]'h).toNat : Int) = bt a0 0 from bt_at a0 0)
 have HX1 := q_ (show ∀ h : 1 < a0.size, ((a0[1]'h).toNat : Int) = bt a0 1 from bt_at a0 1)
 have HX2 := q_ (show ∀ h : 2 < a0.size, ((a0[2]'h).toNat : Int) = bt a0 2 from bt_at a0 2)
 have HX3 := q_ (show ∀ h : 3 < a0.size, ((a0[3]'h).toNat : Int) = bt a0 3 from bt_at a0 3)
 have HX4 := q_ (show ∀ h : 4 < a0.size, ((a0[4]'h).toNat : Int) = bt a0 4 from bt_at a0 4)
 have HX5 := q_ (show ∀ h : 5 < a0.size, ((a0[5]'h).toNat : Int) = bt a0 5 from bt_at a0 5)
 have HX6 := q_ (show ∀ h : 6 < a0.size, ((a0[6]'h).toNat : Int) = bt a0 6 from bt_at a0 6)
 have HX7 := q_ (show ∀ h : 7 < a0.size, ((a0[7]'h).toNat : Int) = bt a0 7 from bt_at a0 7)
 have hq0 : 0 < a0.size := by omega
 have hq1 : 1 < a0.size := by omega
 have hq2 : 2 < a0.size := by omega
 have hq3 : 3 < a0.size := by omega
 have hq4 : 4 < a0.size := by omega
 have hq5 : 5 < a0.size := by omega
 have hq6 : 6 < a0.size := by omega
 have hq7 : 7 < a0.size := by omega
 have hz1 : (1 : Int) < (a0.size : Int) := by omega
 have hz2 : (2 : Int) < (a0.size : Int) := by omega
 have hz3 : (3 : Int) < (a0.size : Int) := by omega
 have hz4 : (4 : Int) < (a0.size : Int) := by omega
 have hz5 : (5 : Int) < (a0.size : Int) := by omega
 have hz6 : (6 : Int) < (a0.size : Int) := by omega
 have hz7 : (7 : Int) < (a0.size : Int) := by omega
 have H8 := Aside0.mk h8
 have HC := Aside0.mk hc
 have HLL := Aside0.mk hL
 clear hc h8 hL
 have huF := Tryd.underlying104
 go_enter Tryd.func74, Tryd.ntmps74
 go_wp2_with (go_at_call 82; refine (form_calls _).mono ?_; rintro e w' ⟨rfl, rfl⟩)
 refine wp_loop_rounds 3 ?_
 rw [rounds_succ]
 go_wp2
 refine wp_loop_rounds 2 ?_
 rw [rounds_succ]
 go_wp2
 go_quiet ((go_at_call 90; (try simp only [HX0.out]); exact Calls.quiet_of (quiet_of_drawn (cap_calls _ _))))
 rw [HC.out]
 go_wp2
 rw [rounds_succ]
 go_wp2
 rw [rounds_succ]
 go_wp2
 generalize hW : World.drewN _ _ = W1
 have hc1 : W1.cell? ⟨w.heap.size + 1 + 1, 1, none⟩ = some (.int .i64 7) := by rw [← hW]; clear hW; go_simp
 have hc2 : W1.cell? ⟨w.heap.size + 1 + 1, 2, none⟩ = some (.func (.func 91) #[] #[]) := by rw [← hW]; clear hW; go_simp
 have hc3 : W1.cell? ⟨w.heap.size + 1 + 1, 3, none⟩ = some (.int .i64 5) := by rw [← hW]; clear hW; go_simp
 have hb1 : Below w.heap.size w W1 := by rw [← hW]; repeat (first | exact Below.refl _ _ | apply pA | apply pN)
 have HB1 := Aside0.mk hb1
 clear hW hb1
 refine wp_loop_rounds 7 ?_
 rw [rounds_succ]
 go_wp2
 go_quiet ((go_at_call 91; (try simp only [HX1.out]); exact Calls.quiet_of (quiet_of_drawn (dig_calls _ _))))
 cases hd1 : digB (bt a0 1)
 ·have HD := Aside0.mk hd1
  clear hd1
  go_wp2
  go_quiet (fail)
  go_wp2
  go_ret3
  exact splitPost_of 0 0 5 rfl (by unfold splitRes; rw [allDig_false a0 1 (by omega) (by omega) HD.out]; rfl) (by repeat (first | exact HB1.out | apply pA | apply pN | apply below_drew))
 have HD1 := Aside0.mk hd1
 clear hd1
 go_wp2
 generalize hW : World.drewN W1 _ = W2
 replace hc1 : W2.cell? ⟨w.heap.size + 1 + 1, 1, none⟩ = some (.int .i64 7) := by rw [← hW]; exact hc1
 replace hc2 : W2.cell? ⟨w.heap.size + 1 + 1, 2, none⟩ = some (.func (.func 91) #[] #[]) := by rw [← hW]; exact hc2
 replace hc3 : W2.cell? ⟨w.heap.size + 1 + 1, 3, none⟩ = some (.int .i64 5) := by rw [← hW]; exact hc3
 replace HB1 : Aside0 (Below w.heap.size w W2) := by rw [← hW]; exact q_ (pN HB1.out _)
 clear hW
 rw [rounds_succ]
 go_wp2
 go_quiet ((go_at_call 91; (try simp only [HX2.out]); exact Calls.quiet_of (quiet_of_drawn (dig_calls _ _))))
 cases hd2 : digB (bt a0 2)
 ·have HD := Aside0.mk hd2
  clear hd2
  go_wp2
  go_quiet (fail)
  go_wp2
  go_ret3
  exact splitPost_of 0 0 5 rfl (by unfold splitRes; rw [allDig_false a0 2 (by omega) (by omega) HD.out]; rfl) (by repeat (first | exact HB1.out | apply pA | apply pN | apply below_drew))
 have HD2 := Aside0.mk hd2
 clear hd2
 go_wp2
 generalize hW : World.drewN W2 _ = W3
 replace hc1 : W3.cell? ⟨w.heap.size + 1 + 1, 1, none⟩ = some (.int .i64 7) := by rw [← hW]; exact hc1
 replace hc2 : W3.cell? ⟨w.heap.size + 1 + 1, 2, none⟩ = some (.func (.func 91) #[] #[]) := by rw [← hW]; exact hc2
 replace hc3 : W3.cell? ⟨w.heap.size + 1 + 1, 3, none⟩ = some (.int .i64 5) := by rw [← hW]; exact hc3
 replace HB1 : Aside0 (Below w.heap.size w W3) := by rw [← hW]; exact q_ (pN HB1.out _)
 clear hW
 rw [rounds_succ]
 go_wp2
 go_quiet ((go_at_call 91; (try simp only [HX3.out]); exact Calls.quiet_of (quiet_of_drawn (dig_calls _ _))))
 cases hd3 : digB (bt a0 3)
 ·have HD := Aside0.mk hd3
  clear hd3
  go_wp2
  go_quiet (fail)
  go_wp2
  go_ret3
  exact splitPost_of 0 0 5 rfl (by unfold splitRes; rw [allDig_false a0 3 (by omega) (by omega) HD.out]; rfl) (by repeat (first | exact HB1.out | apply pA | apply pN | apply below_drew))
 have HD3 := Aside0.mk hd3
 clear hd3
 go_wp2
 generalize hW : World.drewN W3 _ = W4
 replace hc1 : W4.cell? ⟨w.heap.size + 1 + 1, 1, none⟩ = some (.int .i64 7) := by rw [← hW]; exact hc1
 replace hc2 : W4.cell? ⟨w.heap.size + 1 + 1, 2, none⟩ = some (.func (.func 91) #[] #[]) := by rw [← hW]; exact hc2
 replace hc3 : W4.cell? ⟨w.heap.size + 1 + 1, 3, none⟩ = some (.int .i64 5) := by rw [← hW]; exact hc3
 replace HB1 : Aside0 (Below w.heap.size w W4) := by rw [← hW]; exact q_ (pN HB1.out _)
 clear hW
 rw [rounds_succ]
 go_wp2
 go_quiet ((go_at_call 91; (try simp only [HX4.out]); exact Calls.quiet_of (quiet_of_drawn (dig_calls _ _))))
 cases hd4 : digB (bt a0 4)
 ·have HD := Aside0.mk hd4
  clear hd4
  go_wp2
  go_quiet (fail)
  go_wp2
  go_ret3
  exact splitPost_of 0 0 5 rfl (by unfold splitRes; rw [allDig_false a0 4 (by omega) (by omega) HD.out]; rfl) (by repeat (first | exact HB1.out | apply pA | apply pN | apply below_drew))
 have HD4 := Aside0.mk hd4
 clear hd4
 go_wp2
 generalize hW : World.drewN W4 _ = W5
 replace hc1 : W5.cell? ⟨w.heap.size + 1 + 1, 1, none⟩ = some (.int .i64 7) := by rw [← hW]; exact hc1
 replace hc2 : W5.cell? ⟨w.heap.size + 1 + 1, 2, none⟩ = some (.func (.func 91) #[] #[]) := by rw [← hW]; exact hc2
 replace hc3 : W5.cell? ⟨w.heap.size + 1 + 1, 3, none⟩ = some (.int .i64 5) := by rw [← hW]; exact hc3
 replace HB1 : Aside0 (Below w.heap.size w W5) := by rw [← hW]; exact q_ (pN HB1.out _)
 clear hW
 rw [rounds_succ]
 go_wp2
 go_quiet ((go_at_call 91; (try simp only [HX5.out]); exact Calls.quiet_of (quiet_of_drawn (dig_calls _ _))))
 cases hd5 : digB (bt a0 5)
 ·have HD := Aside0.mk hd5
  clear hd5
  go_wp2
  go_quiet (fail)
  go_wp2
  go_ret3
  exact splitPost_of 0 0 5 rfl (by unfold splitRes; rw [allDig_false a0 5 (by omega) (by omega) HD.out]; rfl) (by repeat (first | exact HB1.out | apply pA | apply pN | apply below_drew))
 have HD5 := Aside0.mk hd5
 clear hd5
 go_wp2
 generalize hW : World.drewN W5 _ = W6
 replace hc1 : W6.cell? ⟨w.heap.size + 1 + 1, 1, none⟩ = some (.int .i64 7) := by rw [← hW]; exact hc1
 replace hc2 : W6.cell? ⟨w.heap.size + 1 + 1, 2, none⟩ = some (.func (.func 91) #[] #[]) := by rw [← hW]; exact hc2
 replace hc3 : W6.cell? ⟨w.heap.size + 1 + 1, 3, none⟩ = some (.int .i64 5) := by rw [← hW]; exact hc3
 replace HB1 : Aside0 (Below w.heap.size w W6) := by rw [← hW]; exact q_ (pN HB1.out _)
 clear hW
 rw [rounds_succ]
 go_wp2
 go_quiet ((go_at_call 91; (try simp only [HX6.out]); exact Calls.quiet_of (quiet_of_drawn (dig_calls _ _))))
 cases hd6 : digB (bt a0 6)
 ·have HD := Aside0.mk hd6
  clear hd6
  go_wp2
  go_quiet (fail)
  go_wp2
  go_ret3
  exact splitPost_of 0 0 5 rfl (by unfold splitRes; rw [allDig_false a0 6 (by omega) (by omega) HD.out]; rfl) (by repeat (first | exact HB1.out | apply pA | apply pN | apply below_drew))
 have HD6 := Aside0.mk hd6
 clear hd6
 go_wp2
 generalize hW : World.drewN W6 _ = W7
 replace hc1 : W7.cell? ⟨w.heap.size + 1 + 1, 1, none⟩ = some (.int .i64 7) := by rw [← hW]; exact hc1
 replace hc2 : W7.cell? ⟨w.heap.size + 1 + 1, 2, none⟩ = some (.func (.func 91) #[] #[]) := by rw [← hW]; exact hc2
 replace hc3 : W7.cell? ⟨w.heap.size + 1 + 1, 3, none⟩ = some (.int .i64 5) := by rw [← hW]; exact hc3
 replace HB1 : Aside0 (Below w.heap.size w W7) := by rw [← hW]; exact q_ (pN HB1.out _)
 clear hW
 rw [rounds_succ]
 go_wp2
 rw [rounds_succ]
 go_wp2
 have hall : allDig a0 = true := by
  show (digB (bt a0 1) && (digB (bt a0 2) && (digB (bt a0 3) && (digB (bt a0 4) && (digB (bt a0 5) && (digB (bt a0 6) && true)))))) = true
  rw [HD1.out, HD2.out, HD3.out, HD4.out, HD5.out, HD6.out]
  rfl
 have HL := q_ (HLL.out hall)
 have HALL := Aside0.mk hall
 clear hall
 go_quiet ((go_at_call 83; exact Calls.quiet_of (quiet_of_drawn (ident_Letter.calls k _ t _ HL.out))))
 rw [HX7.out hq7]
 by_cases ht : t = bt a0 7
 ·have hb : (t != bt a0 7) = false := oD ht
  have HR := q_ (show splitRes a0 t = (bt a0 0, codeNum a0, 0) by unfold splitRes; rw [if_pos HALL.out, if_pos ht])
  have hle7 : (7 : Int) ≤ (a0.size : Int) := by omega
  have hle7n : 7 ≤ a0.size := by omega
  have HAT := q_ (atoi_code a0 H8.out HALL.out)
  clear ht
  rw [hb]
  clear hb
  go_wp2_with (go_at_call 84; refine (Tryd.strconv_Atoi _ _ HAT.out.1 HAT.out.2 _).mono ?_; rintro e w' ⟨rfl, ⟨tb, rfl⟩⟩)
  rw [HX0.out hq0]
  go_ret3
  exact splitPost_of _ _ _ rfl HR.out (bytes_below (by repeat (first | exact HB1.out | apply pA | apply pN | apply below_drew)) (pZ (by repeat (first | exact HB1.out | apply pA | apply pN | apply below_drew))) _ _)
 ·have hb : (t != bt a0 7) = true := bne_iff_ne.mpr ht
  have HR := q_ (show splitRes a0 t = (0, 0, 16) by unfold splitRes; rw [if_pos HALL.out, if_neg ht])
  clear ht
  rw [hb]
  clear hb
  go_wp2
  go_ret3
  exact splitPost_of _ _ _ rfl HR.out (by repeat (first | exact HB1.out | apply pA | apply pN | apply below_drew))
def ident_Split.f (k : Nat) (a0 : ByteArray) : Option (Int × Int × Int) :=
 if (a0.size : Int) = 8 then
  (if capB (bt a0 0) = true then (if allDig a0 = true then (ident_Letter.f k (a0.extract 0 7)).bind fun t => some (splitRes a0 t) else some (0, 0, 5)) else some (0, 0, 10))
 else some (0, 0, 3)
theorem ident_Split.mono : ∀ a0 k, LeO (ident_Split.f k a0) (ident_Split.f (k + 1) a0) := by
 intro a0 k
 unfold ident_Split.f
 repeat' first
  | (with_reducible exact ident_Letter.mono _ _)
  | (with_reducible exact LeO.refl _)
  | (with_reducible refine LeO.ite ?_ ?_)
  | (with_reducible refine LeO.bind ?_ (fun _ => ?_))
theorem ident_Split.calls (k : Nat) (a0 : ByteArray) (r1 r2 r3 : Int) (w : World) (h : ident_Split.f k a0 = some (r1, r2, r3)) :
  Calls Tryd.prog 74 #[.string a0] w fun e w' => e = .returned (.tuple #[.int .u8 r1, .int .i64 r2, .int .i64 r3]) ∧ Below w.heap.size w w' := by
 unfold ident_Split.f at h
 by_cases h8 : (a0.size : Int) = 8
 ·rw [if_pos h8] at h
  by_cases hc : capB (bt a0 0) = true
  ·rw [if_pos hc] at h
   by_cases hd : allDig a0 = true
   ·rw [if_pos hd] at h
    obtain ⟨t, ht, h⟩ := oB h
    have h := Option.some.inj h
    refine (split_main k a0 t w (by omega) hc (fun _ => ht)).mono ?_
    rintro e w' ⟨he, hb⟩
    rw [h] at he
    exact ⟨he, hb⟩
   ·rw [if_neg hd] at h
    have h := Option.some.inj h
    refine (split_main k a0 0 w (by omega) hc (fun hh => absurd hh hd)).mono ?_
    rintro e w' ⟨he, hb⟩
    have hr : splitRes a0 0 = (0, 0, 5) := by unfold splitRes; rw [if_neg hd]
    rw [hr, h] at he
    exact ⟨he, hb⟩
  ·rw [if_neg hc] at h
   have h := Option.some.inj h
   refine (split_nocap a0 w (by omega) (by simpa using hc)).mono ?_
   rintro e w' ⟨he, hb⟩
   simp only [Prod.mk.injEq] at h
   obtain ⟨rfl, rfl, rfl⟩ := h
   exact ⟨he, hb⟩
 ·rw [if_neg h8] at h
  have h := Option.some.inj h
  refine (split_short a0 w (bne_iff_ne.mpr h8)).mono ?_
  rintro e w' ⟨he, rfl⟩
  simp only [Prod.mk.injEq] at h
  obtain ⟨rfl, rfl, rfl⟩ := h
  exact ⟨he, Below.refl _ _⟩
def ident_Is.f (k : Nat) (a0 : ByteArray) (a1 : Int) : Option (Bool) := (ident_Split.f k a0).bind fun bt102 => (if bt102.2.2 = 0 then (some (bt102.1 == a1)) else (some false))
theorem ident_Is.mono : ∀ a0 a1 k, LeO (ident_Is.f k a0 a1) (ident_Is.f (k + 1) a0 a1) := by
 intro a0 a1 k
 unfold ident_Is.f
 repeat' first
   | (with_reducible exact ident_Split.mono _ _)
   | (with_reducible exact LeO.refl _)
   | (with_reducible exact LeO.none _)
   | (with_reducible refine LeO.ite ?_ ?_)
   | (with_reducible refine LeO.bind ?_ (fun _ => ?_))
   | exact ident_Split.mono _ _
   | exact LeO.none _
   | refine LeO.ite ?_ ?_
   | refine LeO.bind ?_ (fun _ => ?_)
set_option maxHeartbeats 8000000 in
set_option maxRecDepth 100000 in
theorem ident_Is.calls (k : Nat) (a0 : ByteArray) (a1 : Int) (r : Bool) (w : World) (h : ident_Is.f k a0 a1 = some r) :
  Calls Tryd.prog 52 #[.string a0, .int .u8 a1] w fun e w' => e = .returned (.bool r) ∧ Below w.heap.size w w' := by
 have HB := q_ (Below.refl w.heap.size w)
 have H : ((ident_Split.f k a0).bind fun bt102 => (if bt102.2.2 = 0 then (some (bt102.1 == a1)) else (some false))) = some r := h
 clear h
 replace H := oB H
 obtain ⟨⟨t102, t103, t104⟩, A30, H⟩ := H
 replace H : (if t104 = 0 then (some (t102 == a1)) else (some false)) = some r := H
 have A3 := Aside0.mk A30
 clear A30
 by_cases c4 : t104 = 0
 ·rw [if_pos c4] at H
  have c4b0 : (t104 == 0) = true := beq_iff_eq.mpr c4
  have c4b1 : (t104 != 0) = false := oD c4
  clear c4
  obtain rfl := Option.some.inj H
  go_enter Tryd.func52, Tryd.ntmps52
  go_wp2_with (first | ((with_reducible refine gate_callee (f := 74) rfl ?_); refine goesL_ (some 10) rfl rfl Tryd.func74 (by kernel_rfl) rfl #[.string a0] rfl (by first | rfl | (simp only [List.map_toArray]; rfl)) ?_; (with_reducible refine (ident_Split.calls k a0 t102 t103 t104 _ A3.out).mono ?_); rintro e w5 ⟨rfl, hb⟩; refine ⟨_, rfl, ?_⟩; have n0_ := q_ (pT (by repeat (first | (with_reducible first | exact HB.out | apply pA | apply pN | apply p1) | exact HB.out)) hb); clear HB; have HB := n0_; clear n0_; (try clear hb); (try clear hb2); (try clear hk); (try clear hi)))
  go_ret
  exact ⟨by first | rfl | (simp [*] <;> rfl), by repeat (first | (with_reducible first | exact HB.out | apply pA | apply pN | apply p1) | exact HB.out)⟩
 ·rw [if_neg c4] at H
  have c4b0 : (t104 == 0) = false := oC c4
  have c4b1 : (t104 != 0) = true := bne_iff_ne.mpr c4
  obtain rfl := Option.some.inj H
  go_enter Tryd.func52, Tryd.ntmps52
  go_wp2_with (first | ((with_reducible refine gate_callee (f := 74) rfl ?_); refine goesL_ (some 10) rfl rfl Tryd.func74 (by kernel_rfl) rfl #[.string a0] rfl (by first | rfl | (simp only [List.map_toArray]; rfl)) ?_; (with_reducible refine (ident_Split.calls k a0 t102 t103 t104 _ A3.out).mono ?_); rintro e w6 ⟨rfl, hb⟩; refine ⟨_, rfl, ?_⟩; have n0_ := q_ (pT (by repeat (first | (with_reducible first | exact HB.out | apply pA | apply pN | apply p1) | exact HB.out)) hb); clear HB; have HB := n0_; clear n0_; (try clear hb); (try clear hb2); (try clear hk); (try clear hi)))
  go_ret
  exact ⟨by first | rfl | (simp [*] <;> rfl), by repeat (first | (with_reducible first | exact HB.out | apply pA | apply pN | apply p1) | exact HB.out)⟩
def event_isCode.f (k : Nat) (a0 : ByteArray) (a1 : Int) : Option (Bool) := if a1 = 0 then (some (a0.toList == ([] : List UInt8))) else ((ident_Is.f k a0 a1).bind fun t105 => (some t105))
theorem event_isCode.mono : ∀ a0 a1 k, LeO (event_isCode.f k a0 a1) (event_isCode.f (k + 1) a0 a1) := by
 intro a0 a1 k
 unfold event_isCode.f
 repeat' first
   | (with_reducible exact ident_Is.mono _ _ _)
   | (with_reducible exact LeO.refl _)
   | (with_reducible exact LeO.none _)
   | (with_reducible refine LeO.ite ?_ ?_)
   | (with_reducible refine LeO.bind ?_ (fun _ => ?_))
   | exact ident_Is.mono _ _ _
   | exact LeO.none _
   | refine LeO.ite ?_ ?_
   | refine LeO.bind ?_ (fun _ => ?_)
set_option maxHeartbeats 8000000 in
set_option maxRecDepth 100000 in
theorem event_isCode.calls (k : Nat) (a0 : ByteArray) (a1 : Int) (r : Bool) (w : World) (h : event_isCode.f k a0 a1 = some r) :
  Calls Tryd.prog 25 #[.string a0, .int .u8 a1] w fun e w' => e = .returned (.bool r) ∧ Below w.heap.size w w' := by
 have HB := q_ (Below.refl w.heap.size w)
 have H : (if a1 = 0 then (some (a0.toList == ([] : List UInt8))) else ((ident_Is.f k a0 a1).bind fun t105 => (some t105))) = some r := h
 clear h
 by_cases c3 : a1 = 0
 ·rw [if_pos c3] at H
  have c3b0 : (a1 == 0) = true := beq_iff_eq.mpr c3
  have c3b1 : (a1 != 0) = false := oD c3
  clear c3
  obtain rfl := Option.some.inj H
  go_enter Tryd.func25, Tryd.ntmps25
  go_wp2
  go_ret
  exact ⟨by first | rfl | (simp [*] <;> rfl), by repeat (first | (with_reducible first | exact HB.out | apply pA | apply pN | apply p1) | exact HB.out)⟩
 ·rw [if_neg c3] at H
  have c3b0 : (a1 == 0) = false := oC c3
  have c3b1 : (a1 != 0) = true := bne_iff_ne.mpr c3
  replace H := oB H
  obtain ⟨t105, A40, H⟩ := H
  replace H : (some t105) = some r := H
  have A4 := Aside0.mk A40
  clear A40
  obtain rfl := Option.some.inj H
  go_enter Tryd.func25, Tryd.ntmps25
  go_wp2_with (first | ((with_reducible refine gate_callee (f := 52) rfl ?_); refine goesL_ (some 11) rfl rfl Tryd.func52 (by kernel_rfl) rfl #[.string a0, .int .u8 a1] rfl (by first | rfl | (simp only [List.map_toArray]; rfl)) ?_; (with_reducible refine (ident_Is.calls k a0 a1 t105 _ A4.out).mono ?_); rintro e w5 ⟨rfl, hb⟩; refine ⟨_, rfl, ?_⟩; have n0_ := q_ (pT (by repeat (first | (with_reducible first | exact HB.out | apply pA | apply pN | apply p1) | exact HB.out)) hb); clear HB; have HB := n0_; clear n0_; (try clear hb); (try clear hb2); (try clear hk); (try clear hi)))
  go_ret
  exact ⟨by first | rfl | (simp [*] <;> rfl), by repeat (first | (with_reducible first | exact HB.out | apply pA | apply pN | apply p1) | exact HB.out)⟩
end Go.Proofs.YtbahagcidhmojaaDoor.PA
namespace Go.Proofs.YtbahagcidhmojaaDoor.PA
open Go.RowKit Go.Proofs.YtbahagcidhmojaaDoorW.PrintWords Go.Proofs.YtbahagcidhmojaaDoorW.PrintLast Go.Proofs.YtbahagcidhmojaaDoorW.PrintMore
attribute [local go_sem] max2_int min2_int max_two min_two max_three min_three max_four min_four
set_option linter.unusedVariables false
set_option linter.unusedSimpArgs false
def kName (n : Int) : ByteArray := if n = 1 then (⟨#[112, 101, 114, 109, 105, 116]⟩ : ByteArray) else if n = 2 then (⟨#[102, 101, 108, 108]⟩ : ByteArray) else if n = 3 then (⟨#[115, 99, 97, 110]⟩ : ByteArray) else if n = 4 then (⟨#[115, 97, 119]⟩ : ByteArray) else if n = 5 then (⟨#[112, 97, 99, 107]⟩ : ByteArray) else if n = 6 then (⟨#[100, 114, 121]⟩ : ByteArray) else if n = 7 then (⟨#[103, 114, 97, 100, 101]⟩ : ByteArray) else if n = 8 then (⟨#[111, 114, 100, 101, 114]⟩ : ByteArray) else if n = 9 then (⟨#[97, 115, 115, 105, 103, 110]⟩ : ByteArray) else if n = 10 then (⟨#[115, 104, 105, 112]⟩ : ByteArray) else if n = 11 then (⟨#[115, 101, 108, 108]⟩ : ByteArray) else if n = 12 then (⟨#[102, 97, 105, 108]⟩ : ByteArray) else if n = 13 then (⟨#[116, 114, 105, 109]⟩ : ByteArray) else if n = 14 then (⟨#[114, 101, 115, 97, 119]⟩ : ByteArray) else (⟨#[]⟩ : ByteArray)
def kItem (n : Int) : Int := if n = 1 then 80 else if n = 2 then 76 else if n = 3 then 76 else if n = 4 then 76 else if n = 5 then 75 else if n = 6 then 67 else if n = 7 then 66 else if n = 8 then 79 else if n = 9 then 0 else if n = 10 then 79 else if n = 11 then 0 else if n = 12 then 0 else if n = 13 then 66 else if n = 14 then 66 else 0
def kOf (n : Int) : Int := if n = 2 then 80 else 0
def kNum (n : Int) : Value := if n = 1 then (.iface 73 (.int .i64 3)) else if n = 2 then (.iface 73 (.int .i64 0)) else if n = 3 then (.iface 73 (.int .i64 0)) else if n = 4 then (.iface 74 (.int .i64 2)) else if n = 5 then (.iface 74 (.int .i64 0)) else if n = 6 then (.iface 76 (.agg #[])) else if n = 7 then (.iface 73 (.int .i64 1)) else if n = 8 then (.iface 73 (.int .i64 0)) else if n = 9 then (.iface 77 (.int .i64 0)) else if n = 10 then (.iface 73 (.int .i64 0)) else if n = 11 then (.iface 73 (.int .i64 2)) else if n = 12 then (.iface 73 (.int .i64 0)) else if n = 13 then (.iface 77 (.int .i64 1)) else if n = 14 then (.iface 74 (.int .i64 1)) else (.iface 73 (.int .i64 0))
def dryFits (l : List Int) : Bool := if (l.length : Int) < 2 then false else decide (0 ≤ rd l 1) && (decide (rd l 1 ≤ (l.length : Int) - 2) && decide (((l.length : Int) - 2 - rd l 1) % 3 = 0))
def kFits (n : Int) (l : List Int) : Bool := if n = 1 then decide ((l.length : Int) = 3) else if n = 2 then decide ((l.length : Int) = 0) else if n = 3 then decide ((l.length : Int) = 0) else if n = 4 then decide ((l.length : Int) ≥ 2) else if n = 5 then decide ((l.length : Int) ≥ 0) else if n = 6 then dryFits l else if n = 7 then decide ((l.length : Int) = 1) else if n = 8 then decide ((l.length : Int) = 0) else if n = 9 then (decide ((l.length : Int) ≥ 0) && decide (((l.length : Int) - 0) % 2 = 0)) else if n = 10 then decide ((l.length : Int) = 0) else if n = 11 then decide ((l.length : Int) = 2) else if n = 12 then decide ((l.length : Int) = 0) else if n = 13 then (decide ((l.length : Int) ≥ 1) && decide (((l.length : Int) - 1) % 2 = 0)) else if n = 14 then decide ((l.length : Int) ≥ 1) else decide ((l.length : Int) = 0)
set_option maxHeartbeats 400000 in
theorem kind_1 (w : World) : Calls Tryd.prog 24 #[.int .i64 1] w fun e w' => e = .returned (.agg #[.string (kName 1), .int .u8 (kItem 1), .int .u8 (kOf 1), kNum 1]) ∧ Below w.heap.size w w' := by
 show Calls Tryd.prog 24 #[.int .i64 1] w fun e w' => e = .returned (.agg #[.string (⟨#[112, 101, 114, 109, 105, 116]⟩ : ByteArray), .int .u8 80, .int .u8 0, (.iface 73 (.int .i64 3))]) ∧ Below w.heap.size w w'
 go_enter Tryd.func24, Tryd.ntmps24
 go_wp2
 refine bodyPost_ret (v := .agg #[.string (⟨#[112, 101, 114, 109, 105, 116]⟩ : ByteArray), .int .u8 80, .int .u8 0, (.iface 73 (.int .i64 3))]) (by simp [results, Tryd.results24, go_sem]) rfl ⟨rfl, by repeat (first | exact Below.refl _ _ | apply pA)⟩
set_option maxHeartbeats 400000 in
theorem kind_2 (w : World) : Calls Tryd.prog 24 #[.int .i64 2] w fun e w' => e = .returned (.agg #[.string (kName 2), .int .u8 (kItem 2), .int .u8 (kOf 2), kNum 2]) ∧ Below w.heap.size w w' := by
 show Calls Tryd.prog 24 #[.int .i64 2] w fun e w' => e = .returned (.agg #[.string (⟨#[102, 101, 108, 108]⟩ : ByteArray), .int .u8 76, .int .u8 80, (.iface 73 (.int .i64 0))]) ∧ Below w.heap.size w w'
 go_enter Tryd.func24, Tryd.ntmps24
 go_wp2
 refine bodyPost_ret (v := .agg #[.string (⟨#[102, 101, 108, 108]⟩ : ByteArray), .int .u8 76, .int .u8 80, (.iface 73 (.int .i64 0))]) (by simp [results, Tryd.results24, go_sem]) rfl ⟨rfl, by repeat (first | exact Below.refl _ _ | apply pA)⟩
set_option maxHeartbeats 400000 in
theorem kind_3 (w : World) : Calls Tryd.prog 24 #[.int .i64 3] w fun e w' => e = .returned (.agg #[.string (kName 3), .int .u8 (kItem 3), .int .u8 (kOf 3), kNum 3]) ∧ Below w.heap.size w w' := by
 show Calls Tryd.prog 24 #[.int .i64 3] w fun e w' => e = .returned (.agg #[.string (⟨#[115, 99, 97, 110]⟩ : ByteArray), .int .u8 76, .int .u8 0, (.iface 73 (.int .i64 0))]) ∧ Below w.heap.size w w'
 go_enter Tryd.func24, Tryd.ntmps24
 go_wp2
 refine bodyPost_ret (v := .agg #[.string (⟨#[115, 99, 97, 110]⟩ : ByteArray), .int .u8 76, .int .u8 0, (.iface 73 (.int .i64 0))]) (by simp [results, Tryd.results24, go_sem]) rfl ⟨rfl, by repeat (first | exact Below.refl _ _ | apply pA)⟩
set_option maxHeartbeats 400000 in
theorem kind_4 (w : World) : Calls Tryd.prog 24 #[.int .i64 4] w fun e w' => e = .returned (.agg #[.string (kName 4), .int .u8 (kItem 4), .int .u8 (kOf 4), kNum 4]) ∧ Below w.heap.size w w' := by
 show Calls Tryd.prog 24 #[.int .i64 4] w fun e w' => e = .returned (.agg #[.string (⟨#[115, 97, 119]⟩ : ByteArray), .int .u8 76, .int .u8 0, (.iface 74 (.int .i64 2))]) ∧ Below w.heap.size w w'
 go_enter Tryd.func24, Tryd.ntmps24
 go_wp2
 refine bodyPost_ret (v := .agg #[.string (⟨#[115, 97, 119]⟩ : ByteArray), .int .u8 76, .int .u8 0, (.iface 74 (.int .i64 2))]) (by simp [results, Tryd.results24, go_sem]) rfl ⟨rfl, by repeat (first | exact Below.refl _ _ | apply pA)⟩
set_option maxHeartbeats 400000 in
theorem kind_5 (w : World) : Calls Tryd.prog 24 #[.int .i64 5] w fun e w' => e = .returned (.agg #[.string (kName 5), .int .u8 (kItem 5), .int .u8 (kOf 5), kNum 5]) ∧ Below w.heap.size w w' := by
 show Calls Tryd.prog 24 #[.int .i64 5] w fun e w' => e = .returned (.agg #[.string (⟨#[112, 97, 99, 107]⟩ : ByteArray), .int .u8 75, .int .u8 0, (.iface 74 (.int .i64 0))]) ∧ Below w.heap.size w w'
 go_enter Tryd.func24, Tryd.ntmps24
 go_wp2
 refine bodyPost_ret (v := .agg #[.string (⟨#[112, 97, 99, 107]⟩ : ByteArray), .int .u8 75, .int .u8 0, (.iface 74 (.int .i64 0))]) (by simp [results, Tryd.results24, go_sem]) rfl ⟨rfl, by repeat (first | exact Below.refl _ _ | apply pA)⟩
set_option maxHeartbeats 400000 in
theorem kind_6 (w : World) : Calls Tryd.prog 24 #[.int .i64 6] w fun e w' => e = .returned (.agg #[.string (kName 6), .int .u8 (kItem 6), .int .u8 (kOf 6), kNum 6]) ∧ Below w.heap.size w w' := by
 show Calls Tryd.prog 24 #[.int .i64 6] w fun e w' => e = .returned (.agg #[.string (⟨#[100, 114, 121]⟩ : ByteArray), .int .u8 67, .int .u8 0, (.iface 76 (.agg #[]))]) ∧ Below w.heap.size w w'
 go_enter Tryd.func24, Tryd.ntmps24
 go_wp2
 refine bodyPost_ret (v := .agg #[.string (⟨#[100, 114, 121]⟩ : ByteArray), .int .u8 67, .int .u8 0, (.iface 76 (.agg #[]))]) (by simp [results, Tryd.results24, go_sem]) rfl ⟨rfl, by repeat (first | exact Below.refl _ _ | apply pA)⟩
set_option maxHeartbeats 400000 in
theorem kind_7 (w : World) : Calls Tryd.prog 24 #[.int .i64 7] w fun e w' => e = .returned (.agg #[.string (kName 7), .int .u8 (kItem 7), .int .u8 (kOf 7), kNum 7]) ∧ Below w.heap.size w w' := by
 show Calls Tryd.prog 24 #[.int .i64 7] w fun e w' => e = .returned (.agg #[.string (⟨#[103, 114, 97, 100, 101]⟩ : ByteArray), .int .u8 66, .int .u8 0, (.iface 73 (.int .i64 1))]) ∧ Below w.heap.size w w'
 go_enter Tryd.func24, Tryd.ntmps24
 go_wp2
 refine bodyPost_ret (v := .agg #[.string (⟨#[103, 114, 97, 100, 101]⟩ : ByteArray), .int .u8 66, .int .u8 0, (.iface 73 (.int .i64 1))]) (by simp [results, Tryd.results24, go_sem]) rfl ⟨rfl, by repeat (first | exact Below.refl _ _ | apply pA)⟩
set_option maxHeartbeats 400000 in
theorem kind_8 (w : World) : Calls Tryd.prog 24 #[.int .i64 8] w fun e w' => e = .returned (.agg #[.string (kName 8), .int .u8 (kItem 8), .int .u8 (kOf 8), kNum 8]) ∧ Below w.heap.size w w' := by
 show Calls Tryd.prog 24 #[.int .i64 8] w fun e w' => e = .returned (.agg #[.string (⟨#[111, 114, 100, 101, 114]⟩ : ByteArray), .int .u8 79, .int .u8 0, (.iface 73 (.int .i64 0))]) ∧ Below w.heap.size w w'
 go_enter Tryd.func24, Tryd.ntmps24
 go_wp2
 refine bodyPost_ret (v := .agg #[.string (⟨#[111, 114, 100, 101, 114]⟩ : ByteArray), .int .u8 79, .int .u8 0, (.iface 73 (.int .i64 0))]) (by simp [results, Tryd.results24, go_sem]) rfl ⟨rfl, by repeat (first | exact Below.refl _ _ | apply pA)⟩
set_option maxHeartbeats 400000 in
theorem kind_9 (w : World) : Calls Tryd.prog 24 #[.int .i64 9] w fun e w' => e = .returned (.agg #[.string (kName 9), .int .u8 (kItem 9), .int .u8 (kOf 9), kNum 9]) ∧ Below w.heap.size w w' := by
 show Calls Tryd.prog 24 #[.int .i64 9] w fun e w' => e = .returned (.agg #[.string (⟨#[97, 115, 115, 105, 103, 110]⟩ : ByteArray), .int .u8 0, .int .u8 0, (.iface 77 (.int .i64 0))]) ∧ Below w.heap.size w w'
 go_enter Tryd.func24, Tryd.ntmps24
 go_wp2
 refine bodyPost_ret (v := .agg #[.string (⟨#[97, 115, 115, 105, 103, 110]⟩ : ByteArray), .int .u8 0, .int .u8 0, (.iface 77 (.int .i64 0))]) (by simp [results, Tryd.results24, go_sem]) rfl ⟨rfl, by repeat (first | exact Below.refl _ _ | apply pA)⟩
set_option maxHeartbeats 400000 in
theorem kind_10 (w : World) : Calls Tryd.prog 24 #[.int .i64 10] w fun e w' => e = .returned (.agg #[.string (kName 10), .int .u8 (kItem 10), .int .u8 (kOf 10), kNum 10]) ∧ Below w.heap.size w w' := by
 show Calls Tryd.prog 24 #[.int .i64 10] w fun e w' => e = .returned (.agg #[.string (⟨#[115, 104, 105, 112]⟩ : ByteArray), .int .u8 79, .int .u8 0, (.iface 73 (.int .i64 0))]) ∧ Below w.heap.size w w'
 go_enter Tryd.func24, Tryd.ntmps24
 go_wp2
 refine bodyPost_ret (v := .agg #[.string (⟨#[115, 104, 105, 112]⟩ : ByteArray), .int .u8 79, .int .u8 0, (.iface 73 (.int .i64 0))]) (by simp [results, Tryd.results24, go_sem]) rfl ⟨rfl, by repeat (first | exact Below.refl _ _ | apply pA)⟩
set_option maxHeartbeats 400000 in
theorem kind_11 (w : World) : Calls Tryd.prog 24 #[.int .i64 11] w fun e w' => e = .returned (.agg #[.string (kName 11), .int .u8 (kItem 11), .int .u8 (kOf 11), kNum 11]) ∧ Below w.heap.size w w' := by
 show Calls Tryd.prog 24 #[.int .i64 11] w fun e w' => e = .returned (.agg #[.string (⟨#[115, 101, 108, 108]⟩ : ByteArray), .int .u8 0, .int .u8 0, (.iface 73 (.int .i64 2))]) ∧ Below w.heap.size w w'
 go_enter Tryd.func24, Tryd.ntmps24
 go_wp2
 refine bodyPost_ret (v := .agg #[.string (⟨#[115, 101, 108, 108]⟩ : ByteArray), .int .u8 0, .int .u8 0, (.iface 73 (.int .i64 2))]) (by simp [results, Tryd.results24, go_sem]) rfl ⟨rfl, by repeat (first | exact Below.refl _ _ | apply pA)⟩
set_option maxHeartbeats 400000 in
theorem kind_12 (w : World) : Calls Tryd.prog 24 #[.int .i64 12] w fun e w' => e = .returned (.agg #[.string (kName 12), .int .u8 (kItem 12), .int .u8 (kOf 12), kNum 12]) ∧ Below w.heap.size w w' := by
 show Calls Tryd.prog 24 #[.int .i64 12] w fun e w' => e = .returned (.agg #[.string (⟨#[102, 97, 105, 108]⟩ : ByteArray), .int .u8 0, .int .u8 0, (.iface 73 (.int .i64 0))]) ∧ Below w.heap.size w w'
 go_enter Tryd.func24, Tryd.ntmps24
 go_wp2
 refine bodyPost_ret (v := .agg #[.string (⟨#[102, 97, 105, 108]⟩ : ByteArray), .int .u8 0, .int .u8 0, (.iface 73 (.int .i64 0))]) (by simp [results, Tryd.results24, go_sem]) rfl ⟨rfl, by repeat (first | exact Below.refl _ _ | apply pA)⟩
set_option maxHeartbeats 400000 in
theorem kind_13 (w : World) : Calls Tryd.prog 24 #[.int .i64 13] w fun e w' => e = .returned (.agg #[.string (kName 13), .int .u8 (kItem 13), .int .u8 (kOf 13), kNum 13]) ∧ Below w.heap.size w w' := by
 show Calls Tryd.prog 24 #[.int .i64 13] w fun e w' => e = .returned (.agg #[.string (⟨#[116, 114, 105, 109]⟩ : ByteArray), .int .u8 66, .int .u8 0, (.iface 77 (.int .i64 1))]) ∧ Below w.heap.size w w'
 go_enter Tryd.func24, Tryd.ntmps24
 go_wp2
 refine bodyPost_ret (v := .agg #[.string (⟨#[116, 114, 105, 109]⟩ : ByteArray), .int .u8 66, .int .u8 0, (.iface 77 (.int .i64 1))]) (by simp [results, Tryd.results24, go_sem]) rfl ⟨rfl, by repeat (first | exact Below.refl _ _ | apply pA)⟩
set_option maxHeartbeats 400000 in
theorem kind_14 (w : World) : Calls Tryd.prog 24 #[.int .i64 14] w fun e w' => e = .returned (.agg #[.string (kName 14), .int .u8 (kItem 14), .int .u8 (kOf 14), kNum 14]) ∧ Below w.heap.size w w' := by
 show Calls Tryd.prog 24 #[.int .i64 14] w fun e w' => e = .returned (.agg #[.string (⟨#[114, 101, 115, 97, 119]⟩ : ByteArray), .int .u8 66, .int .u8 0, (.iface 74 (.int .i64 1))]) ∧ Below w.heap.size w w'
 go_enter Tryd.func24, Tryd.ntmps24
 go_wp2
 refine bodyPost_ret (v := .agg #[.string (⟨#[114, 101, 115, 97, 119]⟩ : ByteArray), .int .u8 66, .int .u8 0, (.iface 74 (.int .i64 1))]) (by simp [results, Tryd.results24, go_sem]) rfl ⟨rfl, by repeat (first | exact Below.refl _ _ | apply pA)⟩
theorem kind_none (n : Int) (h : n < 1 ∨ 14 < n) : kName n = (⟨#[]⟩ : ByteArray) ∧ kItem n = 0 ∧ kOf n = 0 ∧ kNum n = .iface 73 (.int .i64 0) ∧ ∀ l, kFits n l = decide ((l.length : Int) = 0) := by
 unfold kName kItem kOf kNum kFits
 repeat (first | rw [if_neg (by omega)])
 exact ⟨rfl, rfl, rfl, rfl, fun l => by repeat (first | rw [if_neg (by omega)])⟩
set_option maxHeartbeats 400000 in
theorem kind_other (n : Int) (h : n < 1 ∨ 14 < n) (w : World) : Calls Tryd.prog 24 #[.int .i64 n] w fun e w' => e = .returned (.agg #[.string (kName n), .int .u8 (kItem n), .int .u8 (kOf n), kNum n]) ∧ Below w.heap.size w w' := by
 obtain ⟨h1, h2, h3, h4, -⟩ := kind_none n h
 rw [h1, h2, h3, h4]
 clear h1 h2 h3 h4
 have e1 : (n == 1) = false := oC (by omega)
 have e2 : (n == 2) = false := oC (by omega)
 have e3 : (n == 3) = false := oC (by omega)
 have e4 : (n == 4) = false := oC (by omega)
 have e5 : (n == 5) = false := oC (by omega)
 have e6 : (n == 6) = false := oC (by omega)
 have e7 : (n == 7) = false := oC (by omega)
 have e8 : (n == 8) = false := oC (by omega)
 have e9 : (n == 9) = false := oC (by omega)
 have e10 : (n == 10) = false := oC (by omega)
 have e11 : (n == 11) = false := oC (by omega)
 have e12 : (n == 12) = false := oC (by omega)
 have e13 : (n == 13) = false := oC (by omega)
 have e14 : (n == 14) = false := oC (by omega)
 clear h
 go_enter Tryd.func24, Tryd.ntmps24
 go_wp2
 refine bodyPost_ret (v := .agg #[.string (⟨#[]⟩ : ByteArray), .int .u8 0, .int .u8 0, .iface 73 (.int .i64 0)]) (by simp [results, Tryd.results24, go_sem]) rfl ⟨rfl, by repeat (first | exact Below.refl _ _ | apply pA)⟩
theorem kind_cases (n : Int) (h1 : 1 ≤ n) (h2 : n ≤ 14) : n = 1 ∨ n = 2 ∨ n = 3 ∨ n = 4 ∨ n = 5 ∨ n = 6 ∨ n = 7 ∨ n = 8 ∨ n = 9 ∨ n = 10 ∨ n = 11 ∨ n = 12 ∨ n = 13 ∨ n = 14 := by omega
theorem kind_calls (n : Int) (w : World) : Calls Tryd.prog 24 #[.int .i64 n] w fun e w' => e = .returned (.agg #[.string (kName n), .int .u8 (kItem n), .int .u8 (kOf n), kNum n]) ∧ Below w.heap.size w w' := by
 by_cases h : n < 1 ∨ 14 < n
 ·exact kind_other n h w
 ·rcases kind_cases n (by omega) (by omega) with rfl | rfl | rfl | rfl | rfl | rfl | rfl | rfl | rfl | rfl | rfl | rfl | rfl | rfl
  ·exact kind_1 w
  ·exact kind_2 w
  ·exact kind_3 w
  ·exact kind_4 w
  ·exact kind_5 w
  ·exact kind_6 w
  ·exact kind_7 w
  ·exact kind_8 w
  ·exact kind_9 w
  ·exact kind_10 w
  ·exact kind_11 w
  ·exact kind_12 w
  ·exact kind_13 w
  ·exact kind_14 w
structure KindIs (n : Int) (nm : ByteArray) (it of : Int) (v : Value) : Prop where mk :: (a : nm = kName n) (b : it = kItem n) (c : of = kOf n) (d : v = kNum n)
theorem kNum_iface (n : Int) : ∃ T x, kNum n = .iface T x := by
 by_cases h : n < 1 ∨ 14 < n
 ·exact ⟨_, _, (kind_none n h).2.2.2.1⟩
 ·rcases kind_cases n (by omega) (by omega) with rfl | rfl | rfl | rfl | rfl | rfl | rfl | rfl | rfl | rfl | rfl | rfl | rfl | rfl
  all_goals exact ⟨_, _, rfl⟩
theorem kind_is (n : Int) (w : World) : Calls Tryd.prog 24 #[.int .i64 n] w fun e w' => ∃ nm it of T x, e = .returned (.agg #[.string nm, .int .u8 it, .int .u8 of, .iface T x]) ∧ KindIs n nm it of (.iface T x) ∧ Below w.heap.size w w' := by
 refine (kind_calls n w).mono ?_
 rintro e w' ⟨he, hb⟩
 obtain ⟨T, x, hv⟩ := kNum_iface n
 rw [hv] at he
 exact ⟨_, _, _, T, x, he, ⟨rfl, rfl, rfl, hv.symm⟩, hb⟩
theorem ret_kind {n it of : Int} {nm : ByteArray} {v : Value} (h : KindIs n nm it of v) : Ending.returned (.string nm) = .returned (.string (kName n)) := by rw [h.a]
def NamePost (n : Int) (w : World) (e : Ending) (w' : World) : Prop := e = .returned (.string (kName n)) ∧ Below w.heap.size w w'
theorem namePost_of {n it of : Int} {nm : ByteArray} {v : Value} {w w' : World} (h : KindIs n nm it of v) (hb : Below w.heap.size w w') : NamePost n w (.returned (.string nm)) w' := ⟨ret_kind h, hb⟩
set_option maxHeartbeats 400000 in
set_option maxRecDepth 100000 in
theorem event_Name_any (a0 : Int) (w : World) : Calls Tryd.prog 13 #[.int .i64 a0] w (NamePost a0 w) := by
 have hfd : ∀ (nm : ByteArray) (it of : Int) (T : TypeId) (x : Value) (w : World), (Instr.field 45 (.agg #[.string nm, .int .u8 it, .int .u8 of, .iface T x]) 0).run Tryd.prog w = .ok (.string nm) w := fun _ _ _ _ _ _ => by kernel_rfl
 go_enter Tryd.func13, Tryd.ntmps13
 go_wp2_with (go_at_call 24; refine (kind_is _ _).mono ?_; rintro e w1 ⟨nm, it, of, T, x, rfl, hk, hb⟩)
 go_ret
 exact namePost_of hk hb
set_option maxHeartbeats 400000 in
theorem exactly_calls (s : Int) (A : Option Addr) (n c : Nat) (w : World) :
  Calls Tryd.prog 127 #[.int .i64 s, .slice A n c] w fun e w' => e = .returned (.bool (decide ((n : Int) = s))) ∧ Drawn0 w w' := by
 go_enter Tryd.func127, Tryd.ntmps127
 go_wp2
 go_ret
 exact ⟨rfl, Drawn0.refl _⟩
set_option maxHeartbeats 400000 in
theorem atLeast_calls (s : Int) (A : Option Addr) (n c : Nat) (w : World) :
  Calls Tryd.prog 128 #[.int .i64 s, .slice A n c] w fun e w' => e = .returned (.bool (decide ((n : Int) ≥ s))) ∧ Drawn0 w w' := by
 go_enter Tryd.func128, Tryd.ntmps128
 go_wp2
 go_ret
 exact ⟨rfl, Drawn0.refl _⟩
set_option maxHeartbeats 400000 in
theorem pairs_calls (s : Int) (A : Option Addr) (n c : Nat) (w : World) (hs : 0 ≤ s) (hs2 : s ≤ 1) (hn : n ≤ 600) :
  Calls Tryd.prog 130 #[.int .i64 s, .slice A n c] w fun e w' => e = .returned (.bool (decide ((n : Int) ≥ s) && decide (((n : Int) - s) % 2 = 0))) ∧ Drawn0 w w' := by
 by_cases h : (n : Int) ≥ s
 ·have h1 : decide (s ≤ (n : Int)) = true := decide_eq_true h
  go_enter Tryd.func130, Tryd.ntmps130
  go_wp2
  go_ret
  rw [decide_eq_true h, Bool.true_and]
  refine ⟨?_, Drawn0.refl _⟩
  congr 2
 ·have h1 : decide (s ≤ (n : Int)) = false := decide_eq_false h
  have h2 : decide ((n : Int) ≥ s) = false := decide_eq_false h
  rw [h2]
  clear h2 h
  go_enter Tryd.func130, Tryd.ntmps130
  go_wp2
  go_ret
  exact ⟨rfl, Drawn0.refl _⟩
set_option maxHeartbeats 400000 in
theorem drying_calls (A : Option Addr) (c : Nat) (l : List Int) (w : World) (hr : Kd.C (Kd.int .i64) w A l.length l) (hc : l.length ≤ c) (hn : l.length ≤ 600) (hw : ∀ x ∈ l, -1099511627776 ≤ x ∧ x ≤ 1099511627776) :
  Calls Tryd.prog 129 #[.agg #[], .slice A l.length c] w fun e w' => e = .returned (.bool (dryFits l)) ∧ Below w.heap.size w w' := by
 by_cases h : (l.length : Int) < 2
 ·have h1 : decide ((l.length : Int) < 2) = true := decide_eq_true h
  have h2 : dryFits l = false := by unfold dryFits; rw [if_pos h]
  rw [h2]
  clear h2 h hn hw hr
  go_enter Tryd.func129, Tryd.ntmps129
  go_wp2
  go_ret
  exact ⟨rfl, pA (Below.refl _ _) _⟩
 ·have h2 : dryFits l = (decide (0 ≤ rd l 1) && (decide (rd l 1 ≤ (l.length : Int) - 2) && decide (((l.length : Int) - 2 - rd l 1) % 3 = 0))) := by unfold dryFits; rw [if_neg h]
  have h1 : decide ((l.length : Int) < 2) = false := decide_eq_false h
  have hl : 1 < l.length := by omega
  obtain ⟨ad, rfl, hcell⟩ := Kd.at_int hr 1 (by omega) (by omega)
  have hb : -1099511627776 ≤ rd l 1 ∧ rd l 1 ≤ 1099511627776 := hw _ (by unfold rd; rw [List.getD_eq_getElem?_getD, List.getElem?_eq_getElem (by omega)]; exact List.getElem_mem _)
  obtain ⟨hb1, hb2⟩ := hb
  have hc1 : (w.alloc (.cells #[] 76)).cell? ⟨ad.block, ad.off + 1, none⟩ = some (.int .i64 (rd l 1)) := pw_cell_below (a := ad.add 1) (pA (Below.refl _ _) _) hcell
  rw [h2]
  generalize rd l 1 = m at *
  clear hcell
  clear h2 h hw hr
  have hz : (1 : Int) < (l.length : Int) := by omega
  have hzz : ((1 : Int) < (l.length : Int)) = True := eq_true hz
  have hll : (1 < l.length) = True := eq_true hl
  go_enter Tryd.func129, Tryd.ntmps129
  go_wp2
  all_goals (go_ret; refine ⟨congrArg (fun b => Ending.returned (.bool b)) ?_, pA (Below.refl _ _) _⟩; first | rfl | (rw [Bool.eq_iff_iff]; simp; omega) | (simp; omega) | (simp [*]; done))
theorem kind_named {n it of : Int} {nm : ByteArray} {v : Value} (h : KindIs n nm it of v) (h1 : 1 ≤ n) (h2 : n ≤ 14) : nm.toList.isEmpty = false := by
 rw [h.a]
 rcases kind_cases n h1 h2 with rfl | rfl | rfl | rfl | rfl | rfl | rfl | rfl | rfl | rfl | rfl | rfl | rfl | rfl <;> decide +kernel
theorem evk_bcell {W w1 : World} (hb : Below W.heap.size W w1) : (∀ b o, b < W.heap.size → w1.cell? ⟨b, o, none⟩ = W.cell? ⟨b, o, none⟩) ∧ (∀ b o, b < W.heap.size → w1.frozen? ⟨b, o, none⟩ = W.frozen? ⟨b, o, none⟩) :=
 ⟨fun b o h => hb.cell (p := ⟨b, o, none⟩) h, fun b o h => hb.frozen (p := ⟨b, o, none⟩) h⟩
def inBig (x : Int) : Bool := decide (-1099511627776 ≤ x) && decide (x ≤ 1099511627776)
structure AllTo (l : List Int) (k : Nat) : Prop where mk :: (out : (l.take k).all inBig = true)
theorem AllTo.zero (l : List Int) : AllTo l 0 := ⟨by simp⟩
theorem AllTo.succ {l : List Int} {k : Nat} (h : AllTo l k) (hk : k < l.length) {m : Int} (hm : rd l k = m) (h1 : ¬ m < -1099511627776) (h2 : ¬ 1099511627776 < m) : AllTo l (k + 1) := ⟨by
 have e : l[k] = m := by
  rw [← hm]
  unfold rd
  rw [Int.toNat_natCast, List.getD_eq_getElem?_getD, List.getElem?_eq_getElem hk]
  rfl
 rw [List.take_succ_eq_append_getElem hk, List.all_append, h.out, e]
 simp [inBig]
 omega⟩
theorem AllTo.all {l : List Int} {k : Nat} (h : AllTo l k) (hk : l.length ≤ k) : l.all inBig = true := by
 have := h.out
 rwa [List.take_of_length_le hk] at this
theorem not_all {l : List Int} {k : Nat} (hk : k < l.length) {m : Int} (hm : rd l k = m) (h : m < -1099511627776 ∨ 1099511627776 < m) : l.all inBig = false := by
 have e : l[k] = m := by
  rw [← hm]
  unfold rd
  rw [Int.toNat_natCast, List.getD_eq_getElem?_getD, List.getElem?_eq_getElem hk]
  rfl
 rw [List.all_eq_false]
 refine ⟨l[k], List.getElem_mem hk, ?_⟩
 rw [e]
 simp [inBig]
 omega
def checkTail (n : Int) (l : List Int) : Int := if l.all inBig = true then (if kFits n l = true then 0 else 19) else 9
def event_Check.f (k : Nat) (a0_0 : Int) (a0_1 : Int) (a0_2 : ByteArray) (a0_3 : ByteArray) (l0_4 : List Int) (a0_5 : ByteArray) : Option (Int) :=
 if a0_0 < 1 ∨ 14 < a0_0 then some 10 else
 if a0_1 < 0 then some 15 else if a0_1 > 10000000 then some 15 else
 (event_isCode.f k a0_2 (kItem a0_0)).bind fun c1 => if c1 = true then ((event_isCode.f k a0_3 (kOf a0_0)).bind fun c2 =>
  if c2 = true then (if (l0_4.length : Int) > 600 then some 4 else if (a0_5.size : Int) > 16384 then some 4 else some (checkTail a0_0 l0_4)) else some 6) else some 6
theorem event_Check.mono : ∀ a0 a1 a2 a3 a4 a5 k, LeO (event_Check.f k a0 a1 a2 a3 a4 a5) (event_Check.f (k + 1) a0 a1 a2 a3 a4 a5) := by
 intro a0 a1 a2 a3 a4 a5 k
 unfold event_Check.f
 repeat' first
  | (with_reducible exact event_isCode.mono _ _ _)
  | (with_reducible exact LeO.refl _)
  | (with_reducible refine LeO.ite ?_ ?_)
  | (with_reducible refine LeO.bind ?_ (fun _ => ?_))
structure FitsAt (T : TypeId) (x : Value) (K : Nat) (rc : Value) (r : Bool) (A : Option Addr) (c : Nat) (l : List Int) : Prop where
 meth : ∀ w, (method 254 T x "sawmill/event.fits").run Tryd.prog w = .ok (K, rc) w
 ent : ∀ args w, (callFunc K args).run Tryd.prog w = .ok (.enter K args) w
 call : ∀ w, Kd.C (Kd.int .i64) w A l.length l → Calls Tryd.prog K #[rc, .slice A l.length c] w fun e w' => e = .returned (.bool r) ∧ Below w.heap.size w w'
theorem calls_below {P : Program} {f : Nat} {args : Array Value} {w : World} {v : Value} (h : Calls P f args w fun e w' => e = .returned v ∧ Drawn0 w w') : Calls P f args w fun e w' => e = .returned v ∧ Below w.heap.size w w' :=
 h.mono fun _ _ ⟨he, hd⟩ => ⟨he, hd.below⟩
def TailPost (n : Int) (l : List Int) (w : World) (e : Ending) (w' : World) : Prop := e = .returned (.int .i64 (checkTail n l)) ∧ Below w.heap.size w w'
theorem tail_range {n : Int} {l : List Int} {w w' : World} (h : l.all inBig = false) (hb : Below w.heap.size w w') : TailPost n l w (.returned (.int .i64 9)) w' := ⟨by unfold checkTail; rw [h]; rfl, hb⟩
theorem tail_ok {n : Int} {l : List Int} {w w' : World} (h : l.all inBig = true) (hf : kFits n l = true) (hb : Below w.heap.size w w') : TailPost n l w (.returned (.int .i64 0)) w' := ⟨by unfold checkTail; rw [h, hf]; rfl, hb⟩
theorem tail_shape {n : Int} {l : List Int} {w w' : World} (h : l.all inBig = true) (hf : kFits n l = false) (hb : Below w.heap.size w w') : TailPost n l w (.returned (.int .i64 19)) w' := ⟨by unfold checkTail; rw [h, hf]; rfl, hb⟩
set_option maxHeartbeats 1000000 in
set_option maxRecDepth 100000 in
theorem check_tail (k : Nat) (a0_0 : Int) (a0_1 : Int) (a0_2 : ByteArray) (a0_3 : ByteArray) (A0_4 : Option Addr) (c0_4 : Nat) (l0_4 : List Int) (a0_5 : ByteArray) (w : World) (hr0_4 : Kd.C (Kd.int .i64) w A0_4 l0_4.length l0_4) (hc0_4 : l0_4.length ≤ c0_4)
  (h1 : 1 ≤ a0_0) (h2 : a0_0 ≤ 14) (h3 : 0 ≤ a0_1) (h4 : a0_1 ≤ 10000000) (h5 : event_isCode.f k a0_2 (kItem a0_0) = some true) (h6 : event_isCode.f k a0_3 (kOf a0_0) = some true) (h7 : (l0_4.length : Int) ≤ 600) (h8 : (a0_5.size : Int) ≤ 16384) (hF : l0_4.all inBig = true → ∀ T x, kNum a0_0 = .iface T x → ∃ K rc, FitsAt T x K rc (kFits a0_0 l0_4) A0_4 c0_4 l0_4) :
  Calls Tryd.prog 11 #[.agg #[.int .i64 a0_0, .int .i64 a0_1, .string a0_2, .string a0_3, .slice A0_4 l0_4.length c0_4, .string a0_5]] w (TailPost a0_0 l0_4 w) := by
 have HR := Aside0.mk hr0_4
 have H5 := Aside0.mk h5
 have H6 := Aside0.mk h6
 have HF := Aside0.mk hF
 clear hr0_4 h5 h6 hF
 have hu24 := Tryd.underlying24
 have hu45 := Tryd.underlying45
 go_enter Tryd.func11, Tryd.ntmps11
 go_wp2_with (first
  | (go_at_call 24; refine (kind_is _ _).mono ?_; rintro e w1 ⟨nm, it, of, T, x, rfl, hk, hb⟩; obtain ⟨hc, hf⟩ := evk_bcell hb; have hz : w.heap.size < w1.heap.size := (by have := hb.size; (try simp at this); omega); have hz' : w.heap.size < w1.heap.size + 1 := (by omega); have HK := Aside0.mk hk; have HB1 := Aside0.mk hb; have hne : nm.toList.isEmpty = false := kind_named hk h1 h2; clear hk hb)
  | (go_at_call 25; (with_reducible refine (event_isCode.calls k a0_2 it true _ (by rw [HK.out.b]; exact H5.out)).mono ?_); rintro e w2 ⟨rfl, hb⟩; obtain ⟨hc2, hf2⟩ := evk_bcell hb; have hz2 : w1.heap.size < w2.heap.size := (by have := hb.size; (try simp at this); omega); have hz2' : w.heap.size < w2.heap.size := (by omega); have HB2 := Aside0.mk hb; clear hb)
  | (go_at_call 25; (with_reducible refine (event_isCode.calls k a0_3 of true _ (by rw [HK.out.c]; exact H6.out)).mono ?_); rintro e w3 ⟨rfl, hb⟩; obtain ⟨hc3, hf3⟩ := evk_bcell hb; have hz3 : w1.heap.size < w3.heap.size := (by have := hb.size; (try simp at this); omega); have hz3' : w.heap.size < w3.heap.size := (by omega); have HB3 := Aside0.mk hb; clear hb))
 have HBT : Below w.heap.size w w3 := pT (pT (pA (pT (pA (Below.refl _ _) _) HB1.out) _) HB2.out) HB3.out
 have HRW := q_ (Kd.C_below HR.out HBT)
 have HBT' := Aside0.mk HBT
 clear HBT HR H5 H6
 go_loop [51] (fun i => ∃ k : Nat, k ≤ l0_4.length ∧ i = .int .i64 k ∧ AllTo l0_4 k) (fun i => l0_4.length - (intOf i).toNat)
 case atStart => exact ⟨0, Nat.zero_le _, rfl, AllTo.zero l0_4⟩
 case round =>
  obtain ⟨k, hk, rfl, HP⟩ := hrel
  by_cases hlt : k < l0_4.length
  ·obtain ⟨ad, rfl, hcell⟩ := Kd.at_int HRW.out k (by omega) (by omega)
   rw [Int.toNat_natCast] at hcell
   generalize hm : rd l0_4 k = m at hcell
   have HM := Aside0.mk hm
   clear hm
   by_cases hm1 : m < -1099511627776
   ·have HN := q_ (not_all hlt HM.out (.inl hm1))
    go_wp2
    go_ret
    exact tail_range HN.out HBT'.out
   ·by_cases hm2 : 1099511627776 < m
    ·have HN := q_ (not_all hlt HM.out (.inr hm2))
     go_wp2
     go_ret
     exact tail_range HN.out HBT'.out
    ·have HP' := AllTo.succ HP hlt HM.out hm1 hm2
     go_wp2
     go_round
     case rel => exact ⟨k + 1, by omega, by go_num, HP'⟩
     case measure => simp [intOf]; omega
  ·obtain ⟨K, rc, HFA⟩ := HF.out (HP.all (by omega)) T x HK.out.d.symm
   have HALL := q_ (HP.all (by omega))
   have hmeth := HFA.meth
   have hent := HFA.ent
   go_wp2
   refine (HFA.call _ HRW.out).mono ?_
   rintro e w4 ⟨rfl, hb4⟩
   have HB4 := q_ (pT HBT'.out hb4)
   cases hkf : kFits a0_0 l0_4
   ·have HKF := Aside0.mk hkf
    clear hkf hb4
    go_wp2
    go_ret
    exact tail_shape HALL.out HKF.out HB4.out
   ·have HKF := Aside0.mk hkf
    clear hkf hb4
    go_wp2
    go_ret
    exact tail_ok HALL.out HKF.out HB4.out
theorem kind_nameless {n it of : Int} {nm : ByteArray} {v : Value} (h : KindIs n nm it of v) (h1 : n < 1 ∨ 14 < n) : nm.toList.isEmpty = true := by
 rw [h.a, (kind_none n h1).1]
 decide +kernel
set_option maxHeartbeats 1000000 in
set_option maxRecDepth 100000 in
theorem check_kind (a0_0 : Int) (a0_1 : Int) (a0_2 : ByteArray) (a0_3 : ByteArray) (A0_4 : Option Addr) (c0_4 : Nat) (l0_4 : List Int) (a0_5 : ByteArray) (w : World) (h1 : a0_0 < 1 ∨ 14 < a0_0) :
  Calls Tryd.prog 11 #[.agg #[.int .i64 a0_0, .int .i64 a0_1, .string a0_2, .string a0_3, .slice A0_4 l0_4.length c0_4, .string a0_5]] w fun e w' => e = .returned (.int .i64 10) ∧ Below w.heap.size w w' := by
 have H1 := Aside0.mk h1
 clear h1
 have hu24 := Tryd.underlying24
 have hu45 := Tryd.underlying45
 go_enter Tryd.func11, Tryd.ntmps11
 go_wp2_with (first | (go_at_call 24; refine (kind_is _ _).mono ?_; rintro e w1 ⟨nm, it, of, T, x, rfl, hk, hb⟩; obtain ⟨hc, hf⟩ := evk_bcell hb; have hz : w.heap.size < w1.heap.size := (by have := hb.size; (try simp at this); omega); have hz' : w.heap.size < w1.heap.size + 1 := (by omega); have HK := Aside0.mk hk; have HB1 := Aside0.mk hb; have hne : nm.toList.isEmpty = true := kind_nameless hk H1.out; clear hk hb))
 go_ret
 exact ⟨rfl, pA (pT (pA (Below.refl _ _) _) HB1.out) _⟩
set_option maxHeartbeats 1000000 in
set_option maxRecDepth 100000 in
theorem check_time_lo (a0_0 : Int) (a0_1 : Int) (a0_2 : ByteArray) (a0_3 : ByteArray) (A0_4 : Option Addr) (c0_4 : Nat) (l0_4 : List Int) (a0_5 : ByteArray) (w : World) (h1 : 1 ≤ a0_0) (h2 : a0_0 ≤ 14) (h3 : a0_1 < 0) :
  Calls Tryd.prog 11 #[.agg #[.int .i64 a0_0, .int .i64 a0_1, .string a0_2, .string a0_3, .slice A0_4 l0_4.length c0_4, .string a0_5]] w fun e w' => e = .returned (.int .i64 15) ∧ Below w.heap.size w w' := by
 have hu24 := Tryd.underlying24
 have hu45 := Tryd.underlying45
 go_enter Tryd.func11, Tryd.ntmps11
 go_wp2_with (first | (go_at_call 24; refine (kind_is _ _).mono ?_; rintro e w1 ⟨nm, it, of, T, x, rfl, hk, hb⟩; obtain ⟨hc, hf⟩ := evk_bcell hb; have hz : w.heap.size < w1.heap.size := (by have := hb.size; (try simp at this); omega); have hz' : w.heap.size < w1.heap.size + 1 := (by omega); have HK := Aside0.mk hk; have HB1 := Aside0.mk hb; have hne : nm.toList.isEmpty = false := kind_named hk h1 h2; clear hk hb))
 go_ret
 exact ⟨rfl, pA (pT (pA (Below.refl _ _) _) HB1.out) _⟩
set_option maxHeartbeats 1000000 in
set_option maxRecDepth 100000 in
theorem check_time_hi (a0_0 : Int) (a0_1 : Int) (a0_2 : ByteArray) (a0_3 : ByteArray) (A0_4 : Option Addr) (c0_4 : Nat) (l0_4 : List Int) (a0_5 : ByteArray) (w : World) (h1 : 1 ≤ a0_0) (h2 : a0_0 ≤ 14) (h3 : 10000000 < a0_1) :
  Calls Tryd.prog 11 #[.agg #[.int .i64 a0_0, .int .i64 a0_1, .string a0_2, .string a0_3, .slice A0_4 l0_4.length c0_4, .string a0_5]] w fun e w' => e = .returned (.int .i64 15) ∧ Below w.heap.size w w' := by
 have hu24 := Tryd.underlying24
 have hu45 := Tryd.underlying45
 go_enter Tryd.func11, Tryd.ntmps11
 go_wp2_with (first | (go_at_call 24; refine (kind_is _ _).mono ?_; rintro e w1 ⟨nm, it, of, T, x, rfl, hk, hb⟩; obtain ⟨hc, hf⟩ := evk_bcell hb; have hz : w.heap.size < w1.heap.size := (by have := hb.size; (try simp at this); omega); have hz' : w.heap.size < w1.heap.size + 1 := (by omega); have HK := Aside0.mk hk; have HB1 := Aside0.mk hb; have hne : nm.toList.isEmpty = false := kind_named hk h1 h2; clear hk hb))
 go_ret
 exact ⟨rfl, pA (pT (pA (Below.refl _ _) _) HB1.out) _⟩
set_option maxHeartbeats 1000000 in
set_option maxRecDepth 100000 in
theorem check_item (k : Nat) (a0_0 : Int) (a0_1 : Int) (a0_2 : ByteArray) (a0_3 : ByteArray) (A0_4 : Option Addr) (c0_4 : Nat) (l0_4 : List Int) (a0_5 : ByteArray) (w : World) (h1 : 1 ≤ a0_0) (h2 : a0_0 ≤ 14) (h3 : 0 ≤ a0_1) (h4 : a0_1 ≤ 10000000) (h5 : event_isCode.f k a0_2 (kItem a0_0) = some false) :
  Calls Tryd.prog 11 #[.agg #[.int .i64 a0_0, .int .i64 a0_1, .string a0_2, .string a0_3, .slice A0_4 l0_4.length c0_4, .string a0_5]] w fun e w' => e = .returned (.int .i64 6) ∧ Below w.heap.size w w' := by
 have H5 := Aside0.mk h5
 clear h5
 have hu24 := Tryd.underlying24
 have hu45 := Tryd.underlying45
 go_enter Tryd.func11, Tryd.ntmps11
 go_wp2_with (first | (go_at_call 24; refine (kind_is _ _).mono ?_; rintro e w1 ⟨nm, it, of, T, x, rfl, hk, hb⟩; obtain ⟨hc, hf⟩ := evk_bcell hb; have hz : w.heap.size < w1.heap.size := (by have := hb.size; (try simp at this); omega); have hz' : w.heap.size < w1.heap.size + 1 := (by omega); have HK := Aside0.mk hk; have HB1 := Aside0.mk hb; have hne : nm.toList.isEmpty = false := kind_named hk h1 h2; clear hk hb) | (go_at_call 25; (with_reducible refine (event_isCode.calls k a0_2 it false _ (by rw [HK.out.b]; exact H5.out)).mono ?_); rintro e w2 ⟨rfl, hb⟩; obtain ⟨hc2, hf2⟩ := evk_bcell hb; have hz2 : w1.heap.size < w2.heap.size := (by have := hb.size; (try simp at this); omega); have hz2' : w.heap.size < w2.heap.size := (by omega); have HB2 := Aside0.mk hb; clear hb))
 go_ret
 exact ⟨rfl, pT (pA (pT (pA (Below.refl _ _) _) HB1.out) _) HB2.out⟩
set_option maxHeartbeats 1000000 in
set_option maxRecDepth 100000 in
theorem check_of (k : Nat) (a0_0 : Int) (a0_1 : Int) (a0_2 : ByteArray) (a0_3 : ByteArray) (A0_4 : Option Addr) (c0_4 : Nat) (l0_4 : List Int) (a0_5 : ByteArray) (w : World) (h1 : 1 ≤ a0_0) (h2 : a0_0 ≤ 14) (h3 : 0 ≤ a0_1) (h4 : a0_1 ≤ 10000000) (h5 : event_isCode.f k a0_2 (kItem a0_0) = some true) (h6 : event_isCode.f k a0_3 (kOf a0_0) = some false) :
  Calls Tryd.prog 11 #[.agg #[.int .i64 a0_0, .int .i64 a0_1, .string a0_2, .string a0_3, .slice A0_4 l0_4.length c0_4, .string a0_5]] w fun e w' => e = .returned (.int .i64 6) ∧ Below w.heap.size w w' := by
 have H5 := Aside0.mk h5
 have H6 := Aside0.mk h6
 clear h5 h6
 have hu24 := Tryd.underlying24
 have hu45 := Tryd.underlying45
 go_enter Tryd.func11, Tryd.ntmps11
 go_wp2_with (first | (go_at_call 24; refine (kind_is _ _).mono ?_; rintro e w1 ⟨nm, it, of, T, x, rfl, hk, hb⟩; obtain ⟨hc, hf⟩ := evk_bcell hb; have hz : w.heap.size < w1.heap.size := (by have := hb.size; (try simp at this); omega); have hz' : w.heap.size < w1.heap.size + 1 := (by omega); have HK := Aside0.mk hk; have HB1 := Aside0.mk hb; have hne : nm.toList.isEmpty = false := kind_named hk h1 h2; clear hk hb) | (go_at_call 25; (with_reducible refine (event_isCode.calls k a0_2 it true _ (by rw [HK.out.b]; exact H5.out)).mono ?_); rintro e w2 ⟨rfl, hb⟩; obtain ⟨hc2, hf2⟩ := evk_bcell hb; have hz2 : w1.heap.size < w2.heap.size := (by have := hb.size; (try simp at this); omega); have hz2' : w.heap.size < w2.heap.size := (by omega); have HB2 := Aside0.mk hb; clear hb) | (go_at_call 25; (with_reducible refine (event_isCode.calls k a0_3 of false _ (by rw [HK.out.c]; exact H6.out)).mono ?_); rintro e w3 ⟨rfl, hb⟩; obtain ⟨hc3, hf3⟩ := evk_bcell hb; have hz3 : w1.heap.size < w3.heap.size := (by have := hb.size; (try simp at this); omega); have hz3' : w.heap.size < w3.heap.size := (by omega); have HB3 := Aside0.mk hb; clear hb))
 go_ret
 exact ⟨rfl, pT (pT (pA (pT (pA (Below.refl _ _) _) HB1.out) _) HB2.out) HB3.out⟩
set_option maxHeartbeats 1000000 in
set_option maxRecDepth 100000 in
theorem check_many (k : Nat) (a0_0 : Int) (a0_1 : Int) (a0_2 : ByteArray) (a0_3 : ByteArray) (A0_4 : Option Addr) (c0_4 : Nat) (l0_4 : List Int) (a0_5 : ByteArray) (w : World) (h1 : 1 ≤ a0_0) (h2 : a0_0 ≤ 14) (h3 : 0 ≤ a0_1) (h4 : a0_1 ≤ 10000000) (h5 : event_isCode.f k a0_2 (kItem a0_0) = some true) (h6 : event_isCode.f k a0_3 (kOf a0_0) = some true) (h7 : 600 < (l0_4.length : Int)) :
  Calls Tryd.prog 11 #[.agg #[.int .i64 a0_0, .int .i64 a0_1, .string a0_2, .string a0_3, .slice A0_4 l0_4.length c0_4, .string a0_5]] w fun e w' => e = .returned (.int .i64 4) ∧ Below w.heap.size w w' := by
 have H5 := Aside0.mk h5
 have H6 := Aside0.mk h6
 clear h5 h6
 have hu24 := Tryd.underlying24
 have hu45 := Tryd.underlying45
 go_enter Tryd.func11, Tryd.ntmps11
 go_wp2_with (first | (go_at_call 24; refine (kind_is _ _).mono ?_; rintro e w1 ⟨nm, it, of, T, x, rfl, hk, hb⟩; obtain ⟨hc, hf⟩ := evk_bcell hb; have hz : w.heap.size < w1.heap.size := (by have := hb.size; (try simp at this); omega); have hz' : w.heap.size < w1.heap.size + 1 := (by omega); have HK := Aside0.mk hk; have HB1 := Aside0.mk hb; have hne : nm.toList.isEmpty = false := kind_named hk h1 h2; clear hk hb) | (go_at_call 25; (with_reducible refine (event_isCode.calls k a0_2 it true _ (by rw [HK.out.b]; exact H5.out)).mono ?_); rintro e w2 ⟨rfl, hb⟩; obtain ⟨hc2, hf2⟩ := evk_bcell hb; have hz2 : w1.heap.size < w2.heap.size := (by have := hb.size; (try simp at this); omega); have hz2' : w.heap.size < w2.heap.size := (by omega); have HB2 := Aside0.mk hb; clear hb) | (go_at_call 25; (with_reducible refine (event_isCode.calls k a0_3 of true _ (by rw [HK.out.c]; exact H6.out)).mono ?_); rintro e w3 ⟨rfl, hb⟩; obtain ⟨hc3, hf3⟩ := evk_bcell hb; have hz3 : w1.heap.size < w3.heap.size := (by have := hb.size; (try simp at this); omega); have hz3' : w.heap.size < w3.heap.size := (by omega); have HB3 := Aside0.mk hb; clear hb))
 go_ret
 exact ⟨rfl, pT (pT (pA (pT (pA (Below.refl _ _) _) HB1.out) _) HB2.out) HB3.out⟩
set_option maxHeartbeats 1000000 in
set_option maxRecDepth 100000 in
theorem check_long (k : Nat) (a0_0 : Int) (a0_1 : Int) (a0_2 : ByteArray) (a0_3 : ByteArray) (A0_4 : Option Addr) (c0_4 : Nat) (l0_4 : List Int) (a0_5 : ByteArray) (w : World) (h1 : 1 ≤ a0_0) (h2 : a0_0 ≤ 14) (h3 : 0 ≤ a0_1) (h4 : a0_1 ≤ 10000000) (h5 : event_isCode.f k a0_2 (kItem a0_0) = some true) (h6 : event_isCode.f k a0_3 (kOf a0_0) = some true) (h7 : (l0_4.length : Int) ≤ 600) (h8 : 16384 < (a0_5.size : Int)) :
  Calls Tryd.prog 11 #[.agg #[.int .i64 a0_0, .int .i64 a0_1, .string a0_2, .string a0_3, .slice A0_4 l0_4.length c0_4, .string a0_5]] w fun e w' => e = .returned (.int .i64 4) ∧ Below w.heap.size w w' := by
 have H5 := Aside0.mk h5
 have H6 := Aside0.mk h6
 clear h5 h6
 have hu24 := Tryd.underlying24
 have hu45 := Tryd.underlying45
 go_enter Tryd.func11, Tryd.ntmps11
 go_wp2_with (first | (go_at_call 24; refine (kind_is _ _).mono ?_; rintro e w1 ⟨nm, it, of, T, x, rfl, hk, hb⟩; obtain ⟨hc, hf⟩ := evk_bcell hb; have hz : w.heap.size < w1.heap.size := (by have := hb.size; (try simp at this); omega); have hz' : w.heap.size < w1.heap.size + 1 := (by omega); have HK := Aside0.mk hk; have HB1 := Aside0.mk hb; have hne : nm.toList.isEmpty = false := kind_named hk h1 h2; clear hk hb) | (go_at_call 25; (with_reducible refine (event_isCode.calls k a0_2 it true _ (by rw [HK.out.b]; exact H5.out)).mono ?_); rintro e w2 ⟨rfl, hb⟩; obtain ⟨hc2, hf2⟩ := evk_bcell hb; have hz2 : w1.heap.size < w2.heap.size := (by have := hb.size; (try simp at this); omega); have hz2' : w.heap.size < w2.heap.size := (by omega); have HB2 := Aside0.mk hb; clear hb) | (go_at_call 25; (with_reducible refine (event_isCode.calls k a0_3 of true _ (by rw [HK.out.c]; exact H6.out)).mono ?_); rintro e w3 ⟨rfl, hb⟩; obtain ⟨hc3, hf3⟩ := evk_bcell hb; have hz3 : w1.heap.size < w3.heap.size := (by have := hb.size; (try simp at this); omega); have hz3' : w.heap.size < w3.heap.size := (by omega); have HB3 := Aside0.mk hb; clear hb))
 go_ret
 exact ⟨rfl, pT (pT (pA (pT (pA (Below.refl _ _) _) HB1.out) _) HB2.out) HB3.out⟩
theorem fit_exactly (s : Int) (A : Option Addr) (c : Nat) (l : List Int) (hc : l.length ≤ c) (hn : (l.length : Int) ≤ 600) (hl : l.all inBig = true) : FitsAt 73 (.int .i64 s) 127 (.int .i64 s) (decide ((l.length : Int) = s)) A c l :=
 ⟨fun _ => by kernel_rfl, fun args w => enters_ Tryd.func127 (by kernel_rfl) rfl args w, fun w hr => calls_below (exactly_calls s A l.length c w)⟩
theorem fit_atLeast (s : Int) (A : Option Addr) (c : Nat) (l : List Int) (hc : l.length ≤ c) (hn : (l.length : Int) ≤ 600) (hl : l.all inBig = true) : FitsAt 74 (.int .i64 s) 128 (.int .i64 s) (decide ((l.length : Int) ≥ s)) A c l :=
 ⟨fun _ => by kernel_rfl, fun args w => enters_ Tryd.func128 (by kernel_rfl) rfl args w, fun w hr => calls_below (atLeast_calls s A l.length c w)⟩
theorem fit_pairs (s : Int) (h0 : 0 ≤ s) (h1 : s ≤ 1) (A : Option Addr) (c : Nat) (l : List Int) (hc : l.length ≤ c) (hn : (l.length : Int) ≤ 600) (hl : l.all inBig = true) : FitsAt 77 (.int .i64 s) 130 (.int .i64 s) (decide ((l.length : Int) ≥ s) && decide (((l.length : Int) - s) % 2 = 0)) A c l :=
 ⟨fun _ => by kernel_rfl, fun args w => enters_ Tryd.func130 (by kernel_rfl) rfl args w, fun w hr => calls_below (pairs_calls s A l.length c w h0 h1 (by omega))⟩
theorem fit_drying (A : Option Addr) (c : Nat) (l : List Int) (hc : l.length ≤ c) (hn : (l.length : Int) ≤ 600) (hl : l.all inBig = true) : FitsAt 76 (.agg #[]) 129 (.agg #[]) (dryFits l) A c l :=
 ⟨fun _ => by kernel_rfl, fun args w => enters_ Tryd.func129 (by kernel_rfl) rfl args w, fun w hr => drying_calls A c l w hr hc (by omega) (fun x hx => by have h := List.all_eq_true.1 hl x hx; simp [inBig] at h; exact h)⟩
theorem fits_any (n : Int) (h1 : 1 ≤ n) (h2 : n ≤ 14) (A : Option Addr) (c : Nat) (l : List Int) (hc : l.length ≤ c) (hn : (l.length : Int) ≤ 600) (hl : l.all inBig = true) (T : TypeId) (x : Value) (h : kNum n = .iface T x) : ∃ K rc, FitsAt T x K rc (kFits n l) A c l := by
 rcases kind_cases n h1 h2 with rfl | rfl | rfl | rfl | rfl | rfl | rfl | rfl | rfl | rfl | rfl | rfl | rfl | rfl
 ·obtain ⟨rfl, rfl⟩ := Value.iface.inj h
  exact ⟨_, _, fit_exactly 3 A c l hc hn hl⟩
 ·obtain ⟨rfl, rfl⟩ := Value.iface.inj h
  exact ⟨_, _, fit_exactly 0 A c l hc hn hl⟩
 ·obtain ⟨rfl, rfl⟩ := Value.iface.inj h
  exact ⟨_, _, fit_exactly 0 A c l hc hn hl⟩
 ·obtain ⟨rfl, rfl⟩ := Value.iface.inj h
  exact ⟨_, _, fit_atLeast 2 A c l hc hn hl⟩
 ·obtain ⟨rfl, rfl⟩ := Value.iface.inj h
  exact ⟨_, _, fit_atLeast 0 A c l hc hn hl⟩
 ·obtain ⟨rfl, rfl⟩ := Value.iface.inj h
  exact ⟨_, _, fit_drying A c l hc hn hl⟩
 ·obtain ⟨rfl, rfl⟩ := Value.iface.inj h
  exact ⟨_, _, fit_exactly 1 A c l hc hn hl⟩
 ·obtain ⟨rfl, rfl⟩ := Value.iface.inj h
  exact ⟨_, _, fit_exactly 0 A c l hc hn hl⟩
 ·obtain ⟨rfl, rfl⟩ := Value.iface.inj h
  exact ⟨_, _, fit_pairs 0 (by omega) (by omega) A c l hc hn hl⟩
 ·obtain ⟨rfl, rfl⟩ := Value.iface.inj h
  exact ⟨_, _, fit_exactly 0 A c l hc hn hl⟩
 ·obtain ⟨rfl, rfl⟩ := Value.iface.inj h
  exact ⟨_, _, fit_exactly 2 A c l hc hn hl⟩
 ·obtain ⟨rfl, rfl⟩ := Value.iface.inj h
  exact ⟨_, _, fit_exactly 0 A c l hc hn hl⟩
 ·obtain ⟨rfl, rfl⟩ := Value.iface.inj h
  exact ⟨_, _, fit_pairs 1 (by omega) (by omega) A c l hc hn hl⟩
 ·obtain ⟨rfl, rfl⟩ := Value.iface.inj h
  exact ⟨_, _, fit_atLeast 1 A c l hc hn hl⟩
theorem event_Check.calls (k : Nat) (a0_0 : Int) (a0_1 : Int) (a0_2 : ByteArray) (a0_3 : ByteArray) (A0_4 : Option Addr) (c0_4 : Nat) (l0_4 : List Int) (a0_5 : ByteArray) (r : Int) (w : World) (hr0_4 : Kd.C (Kd.int .i64) w A0_4 l0_4.length l0_4) (hc0_4 : l0_4.length ≤ c0_4) (h : event_Check.f k a0_0 a0_1 a0_2 a0_3 l0_4 a0_5 = some r) :
  Calls Tryd.prog 11 #[.agg #[.int .i64 a0_0, .int .i64 a0_1, .string a0_2, .string a0_3, .slice A0_4 l0_4.length c0_4, .string a0_5]] w fun e w' => e = .returned (.int .i64 r) ∧ Below w.heap.size w w' := by
 unfold event_Check.f at h
 by_cases h1 : a0_0 < 1 ∨ 14 < a0_0
 ·rw [if_pos h1] at h
  obtain rfl := Option.some.inj h
  exact check_kind _ _ _ _ _ _ _ _ _ h1
 rw [if_neg h1] at h
 by_cases h2 : a0_1 < 0
 ·rw [if_pos h2] at h
  obtain rfl := Option.some.inj h
  exact check_time_lo _ _ _ _ _ _ _ _ _ (by omega) (by omega) h2
 rw [if_neg h2] at h
 by_cases h3 : a0_1 > 10000000
 ·rw [if_pos h3] at h
  obtain rfl := Option.some.inj h
  exact check_time_hi _ _ _ _ _ _ _ _ _ (by omega) (by omega) h3
 rw [if_neg h3] at h
 obtain ⟨c1, hc1, h⟩ := oB h
 cases c1 with
 | false =>
  rw [if_neg (by simp)] at h
  obtain rfl := Option.some.inj h
  exact check_item k _ _ _ _ _ _ _ _ _ (by omega) (by omega) (by omega) (by omega) hc1
 | true =>
  rw [if_pos rfl] at h
  obtain ⟨c2, hc2, h⟩ := oB h
  cases c2 with
  | false =>
   rw [if_neg (by simp)] at h
   obtain rfl := Option.some.inj h
   exact check_of k _ _ _ _ _ _ _ _ _ (by omega) (by omega) (by omega) (by omega) hc1 hc2
  | true =>
   rw [if_pos rfl] at h
   by_cases h4 : (l0_4.length : Int) > 600
   ·rw [if_pos h4] at h
    obtain rfl := Option.some.inj h
    exact check_many k _ _ _ _ _ _ _ _ _ (by omega) (by omega) (by omega) (by omega) hc1 hc2 h4
   rw [if_neg h4] at h
   by_cases h5 : (a0_5.size : Int) > 16384
   ·rw [if_pos h5] at h
    obtain rfl := Option.some.inj h
    exact check_long k _ _ _ _ _ _ _ _ _ (by omega) (by omega) (by omega) (by omega) hc1 hc2 (by omega) h5
   rw [if_neg h5] at h
   obtain rfl := Option.some.inj h
   exact check_tail k _ _ _ _ _ _ _ _ w hr0_4 hc0_4 (by omega) (by omega) (by omega) (by omega) hc1 hc2 (by omega) (by omega) (fun hl T x hx => fits_any _ (by omega) (by omega) _ _ _ hc0_4 (by omega) hl T x hx)
def event_Name.f (a0 : Int) : Option ByteArray := some (kName a0)
theorem event_Name.calls (a0 : Int) (r : ByteArray) (w : World) (h : event_Name.f a0 = some r) :
  Calls Tryd.prog 13 #[.int .i64 a0] w fun e w' => e = .returned (.string r) ∧ Below w.heap.size w w' := by
 obtain rfl := Option.some.inj h
 exact event_Name_any a0 w
def wire_put.l0 : Nat → List Int → Int → Option (List Int)
 | 0, _, _ => none
 | k + 1, x0, x1 => if x1 ≥ 128 then (if x0.length < 140737488355328 then (wire_put.l0 k (x0 ++ [Go.bits .or .u8 ((x1) % 256) 128]) (x1 / 128)) else (none)) else (if x0.length < 140737488355328 then (some (x0 ++ [(x1) % 256])) else (none))
def wire_put.f (k : Nat) (l0 : List Int) (a1 : Int) : Option (List Int) := wire_put.l0 k l0 a1
theorem wire_put.mono_l : ∀ k, (∀ y0 y1, LeO (wire_put.l0 k y0 y1) (wire_put.l0 (k + 1) y0 y1))
 | 0 => fun _ _ r h => by simp [wire_put.l0] at h
 | k + 1 => by
  have ih0 := wire_put.mono_l k
  ·intro y0 y1
   unfold wire_put.l0
   repeat' first
   | (with_reducible exact ih0 _ _)
   | (with_reducible exact LeO.refl _)
   | (with_reducible exact LeO.none _)
   | (with_reducible refine LeO.ite ?_ ?_)
   | (with_reducible refine LeO.bind ?_ (fun _ => ?_))
   | exact ih0 _ _
   | exact LeO.none _
   | refine LeO.ite ?_ ?_
   | refine LeO.bind ?_ (fun _ => ?_)
theorem wire_put.mono : ∀ a0 a1 k, LeO (wire_put.f k a0 a1) (wire_put.f (k + 1) a0 a1) := by
 intro a0 a1 k
 have ih0 := wire_put.mono_l k
 unfold wire_put.f
 repeat' first
   | (with_reducible exact ih0 _ _)
   | (with_reducible exact LeO.refl _)
   | (with_reducible exact LeO.none _)
   | (with_reducible refine LeO.ite ?_ ?_)
   | (with_reducible refine LeO.bind ?_ (fun _ => ?_))
   | exact ih0 _ _
   | exact LeO.none _
   | refine LeO.ite ?_ ?_
   | refine LeO.bind ?_ (fun _ => ?_)
set_option maxHeartbeats 8000000 in
set_option maxRecDepth 100000 in
theorem wire_put.calls (k : Nat) (P0_ : Nat → Prop) (u9000_ : Value) (l0 : List Int) (a1 : Int) (r : List Int) (w0 w : World) (hB : Below w0.heap.size w0 w) (ho0 : Kd.R (Kd.int .u8) 5 w w0.heap.size P0_ u9000_ l0) (h : wire_put.f k l0 a1 = some r) :
  Calls Tryd.prog 54 #[u9000_, .int .u64 a1] w fun e w' => ∃ v0_ : Value, e = .returned (v0_) ∧ Kd.R (Kd.int .u8) 5 w' w0.heap.size (fun k_ => (P0_ k_ ∨ w.heap.size ≤ k_)) v0_ r ∧ Below w0.heap.size w0 w' ∧ Kept w w' (fun k_ => P0_ k_) := by
 have HO0 := q_ (show Kd.R (Kd.int .u8) 5 w w0.heap.size (fun k_ => (P0_ k_ ∨ w.heap.size ≤ k_)) u9000_ l0 from Kd.R_mono ho0 (fun k_ hk => (.inl hk)))
 have HK := q_ (Kept.refl w (fun k_ => P0_ k_))
 have HW0 := Aside0.mk hB.size
 have HB := Aside0.mk hB
 clear hB
 have H : (wire_put.l0 k l0 a1) = some r := h
 clear h
 have H' := Aside0.mk H
 clear H
 go_enter Tryd.func54, Tryd.ntmps54
 go_wp2
 go_loopg [0, 1] k (fun kq v0 v1 w' => ∃ (x0_1 : List Int) (x1_1 : Int), v1 = .int .u64 x1_1 ∧ Aside0 (wire_put.l0 kq x0_1 x1_1 = some r) ∧ Aside0 (kq ≤ k) ∧ Aside0 (Kd.R (Kd.int .u8) 5 w' w0.heap.size (fun k_ => (P0_ k_ ∨ w.heap.size ≤ k_)) v0 x0_1) ∧ Aside0 (Kept w w' (fun k_ => P0_ k_)) ∧ Aside0 (Below w0.heap.size w0 w'))
 case atStart => exact ⟨(l0), (a1), (by first | rfl | (simp; done) | (simp [*]; done)), H', ⟨Nat.le_refl _⟩, ⟨by (with_reducible repeat (first | apply Kd.R_alloc | apply Kd.R_drewN | apply Kd.R_drew)); exact HO0.out⟩, ⟨by repeat (first | (with_reducible first | exact HK.out | apply Kept.alloc | apply Kept.drewN | apply Kept.drew) | exact HK.out)⟩, ⟨by repeat (first | (with_reducible first | exact HB.out | apply pA | apply pN | apply p1) | exact HB.out)⟩⟩
 case round =>
  clear H'
  try clear p2
  obtain ⟨x0_1, x1_1, rfl, HA, HK1, HO_0, HK, HB⟩ := hrel
  cases gk with
  | zero => exact absurd HA.out (by simp [wire_put.l0])
  | succ k1 =>
   have H := HA.out
   clear HA
   simp only [wire_put.l0] at H
   by_cases c3 : x1_1 ≥ 128
   ·rw [if_pos c3] at H
    have c3b0 : decide (128 ≤ x1_1) = true := decide_eq_true c3
    clear c3
    by_cases c4 : x0_1.length < 140737488355328
    ·rw [if_pos c4] at H
     have LMc4 := Aside0.mk c4
     clear c4
     obtain ⟨y106, hy106⟩ : ∃ y_ : List Int, y_ = (x0_1 ++ [Go.bits .or .u8 ((x1_1) % 256) 128]) := ⟨_, rfl⟩
     replace H : (wire_put.l0 k1 y106 (x1_1 / 128)) = some r := by first | (rw [hy106]; with_reducible exact H) | (have H2_ := (Option.bind_some _ _).symm.trans H; rw [hy106]; with_reducible exact H2_) | (have H2_ := (Option.bind_some _ _).symm.trans H; with_reducible exact H2_) | with_reducible exact H | (rw [hy106]; exact H) | exact H
     have Ny106 := Aside0.mk hy106
     clear hy106
     have H' := Aside0.mk H
     clear H
     go_wp2_with (first | ((with_reducible refine gate_builtin (b := .append) (xs := #[.tmp 9, .tmp 13]) rfl ?_); at_builtin; refine Kd.R_append (Kd.int .u8) (w0 := w0) w0.heap.size rfl (.tmp 9) (.tmp 13) 39 5 (.int .u8 0) 1 rfl Tryd.underlying39 info5 rfl (by decide) (by omega) u0 x0_1 (Go.bits .or .u8 ((x1_1) % 256) 128) [.int .u8 (Go.bits .or .u8 ((x1_1) % 256) 128)] (fun k_ => (P0_ k_ ∨ w.heap.size ≤ k_)) (fun _ => False) rfl rfl ?aP (fun _ hk => hk.elim) ?aF ?aO ?aB ?aS ?aL ?_; (case aP => exact rfl); (case aB => exact (by repeat (first | (with_reducible first | exact HB.out | apply pA | apply pN | apply p1) | exact HB.out))); (case aF => exact (fun k_ hk => (.inr (Nat.le_trans (by first | exact HK.out.1 | exact (show Kept w _ (fun k_ => P0_ k_) from by repeat (first | (with_reducible first | exact HK.out | apply Kept.alloc | apply Kept.drewN | apply Kept.drew) | exact HK.out)).1) hk)))); (case aO => exact (by (with_reducible repeat (first | apply Kd.R_alloc | apply Kd.R_drewN | apply Kd.R_drew)); exact HO_0.out)); (case aS => exact (pZ (by repeat (first | (with_reducible first | exact HB.out | apply pA | apply pN | apply p1) | exact HB.out)))); (case aL => have := LMc4.out; omega); intro v107 w5 ho hb hg hat; rw [← Ny106.out] at ho; have n0_ := q_ (hb); have n1_ := q_ (Kept.of_grown (S := (fun k_ => P0_ k_)) hg (by repeat (first | (with_reducible first | exact HK.out | apply Kept.alloc | apply Kept.drewN | apply Kept.drew) | exact HK.out)) (fun k_ e_ => (HO_0.out.1 k_ e_))); have n2_ := q_ (ho); clear HB; clear HK; clear HO_0; have HB := n0_; have HK := n1_; have HO108 := n2_; clear n0_ n1_ n2_; clear ho hb hg hat))
     go_roundg k1
     case measure => have := HK1.out; omega
     case rel => exact ⟨(y106), (x1_1 / 128), (by first | rfl | (simp; done) | (simp [*]; done)), H', ⟨by have := HK1.out; omega⟩, ⟨by (with_reducible repeat (first | apply Kd.R_alloc | apply Kd.R_drewN | apply Kd.R_drew)); exact HO108.out⟩, ⟨by repeat (first | (with_reducible first | exact HK.out | apply Kept.alloc | apply Kept.drewN | apply Kept.drew) | exact HK.out)⟩, ⟨by repeat (first | (with_reducible first | exact HB.out | apply pA | apply pN | apply p1) | exact HB.out)⟩⟩
    ·rw [if_neg c4] at H
     exact absurd H (by simp)
   ·rw [if_neg c3] at H
    have c3b0 : decide (128 ≤ x1_1) = false := decide_eq_false c3
    clear c3
    by_cases c6 : x0_1.length < 140737488355328
    ·rw [if_pos c6] at H
     have LMc6 := Aside0.mk c6
     clear c6
     obtain ⟨y109, hy109⟩ : ∃ y_ : List Int, y_ = (x0_1 ++ [(x1_1) % 256]) := ⟨_, rfl⟩
     replace H : (some y109) = some r := by first | (rw [hy109]; with_reducible exact H) | (have H2_ := (Option.bind_some _ _).symm.trans H; rw [hy109]; with_reducible exact H2_) | (have H2_ := (Option.bind_some _ _).symm.trans H; with_reducible exact H2_) | with_reducible exact H | (rw [hy109]; exact H) | exact H
     have Ny109 := Aside0.mk hy109
     clear hy109
     obtain rfl := Option.some.inj H
     go_wp2_with (first | ((with_reducible refine gate_builtin (b := .append) (xs := #[.tmp 15, .tmp 18]) rfl ?_); at_builtin; refine Kd.R_append (Kd.int .u8) (w0 := w0) w0.heap.size rfl (.tmp 15) (.tmp 18) 39 5 (.int .u8 0) 1 rfl Tryd.underlying39 info5 rfl (by decide) (by omega) u0 x0_1 ((x1_1) % 256) [.int .u8 ((x1_1) % 256)] (fun k_ => (P0_ k_ ∨ w.heap.size ≤ k_)) (fun _ => False) rfl rfl ?aP (fun _ hk => hk.elim) ?aF ?aO ?aB ?aS ?aL ?_; (case aP => exact rfl); (case aB => exact (by repeat (first | (with_reducible first | exact HB.out | apply pA | apply pN | apply p1) | exact HB.out))); (case aF => exact (fun k_ hk => (.inr (Nat.le_trans (by first | exact HK.out.1 | exact (show Kept w _ (fun k_ => P0_ k_) from by repeat (first | (with_reducible first | exact HK.out | apply Kept.alloc | apply Kept.drewN | apply Kept.drew) | exact HK.out)).1) hk)))); (case aO => exact (by (with_reducible repeat (first | apply Kd.R_alloc | apply Kd.R_drewN | apply Kd.R_drew)); exact HO_0.out)); (case aS => exact (pZ (by repeat (first | (with_reducible first | exact HB.out | apply pA | apply pN | apply p1) | exact HB.out)))); (case aL => have := LMc6.out; omega); intro v110 w7 ho hb hg hat; rw [← Ny109.out] at ho; have n0_ := q_ (hb); have n1_ := q_ (Kept.of_grown (S := (fun k_ => P0_ k_)) hg (by repeat (first | (with_reducible first | exact HK.out | apply Kept.alloc | apply Kept.drewN | apply Kept.drew) | exact HK.out)) (fun k_ e_ => (HO_0.out.1 k_ e_))); have n2_ := q_ (ho); clear HB; clear HK; clear HO_0; have HB := n0_; have HK := n1_; have HO111 := n2_; clear n0_ n1_ n2_; clear ho hb hg hat))
     go_ret
     exact ⟨_, by first | rfl | (simp [*] <;> rfl), by (with_reducible repeat (first | apply Kd.R_alloc | apply Kd.R_drewN | apply Kd.R_drew)); exact HO111.out, by repeat (first | (with_reducible first | exact HB.out | apply pA | apply pN | apply p1) | exact HB.out), by repeat (first | (with_reducible first | exact HK.out | apply Kept.alloc | apply Kept.drewN | apply Kept.drew) | exact HK.out)⟩
    ·rw [if_neg c6] at H
     exact absurd H (by simp)
def wire_zigzag.f (a0 : Int) : Option (Int) := some (Go.bits .xor .u64 (IntKind.u64.wrap ((IntKind.u64.wrap (a0)) * 2)) (IntKind.u64.wrap (a0 / 9223372036854775808)))
set_option maxHeartbeats 8000000 in
set_option maxRecDepth 100000 in
theorem wire_zigzag.calls (a0 : Int) (r : Int) (w : World) (h : wire_zigzag.f a0 = some r) :
  Calls Tryd.prog 55 #[.int .i64 a0] w fun e w' => e = .returned (.int .u64 r) ∧ Drawn0 w w' := by
 have H : (some (Go.bits .xor .u64 (IntKind.u64.wrap ((IntKind.u64.wrap (a0)) * 2)) (IntKind.u64.wrap (a0 / 9223372036854775808)))) = some r := h
 clear h
 obtain rfl := Option.some.inj H
 go_enter Tryd.func55, Tryd.ntmps55
 go_wp2
 go_ret
 exact ⟨by first | rfl | (simp; done) | (simp [*]; done), by repeat (first | exact Drawn0.refl _ | apply Drawn0.step)⟩
def wire_Int.f (k : Nat) (a0 : Int) : Option (ByteArray) := (wire_zigzag.f a0).bind fun t112 => ((wire_put.f k ([] : List Int) t112).bind fun t113 => (some (strOfNums t113)))
theorem wire_Int.mono : ∀ a0 k, LeO (wire_Int.f k a0) (wire_Int.f (k + 1) a0) := by
 intro a0 k
 unfold wire_Int.f
 repeat' first
   | (with_reducible exact wire_put.mono _ _ _)
   | (with_reducible exact LeO.refl _)
   | (with_reducible exact LeO.none _)
   | (with_reducible refine LeO.ite ?_ ?_)
   | (with_reducible refine LeO.bind ?_ (fun _ => ?_))
   | exact wire_put.mono _ _ _
   | exact LeO.none _
   | refine LeO.ite ?_ ?_
   | refine LeO.bind ?_ (fun _ => ?_)
set_option maxHeartbeats 8000000 in
set_option maxRecDepth 100000 in
theorem wire_Int.calls (k : Nat) (a0 : Int) (r : ByteArray) (w : World) (h : wire_Int.f k a0 = some r) :
  Calls Tryd.prog 30 #[.int .i64 a0] w fun e w' => e = .returned (.string r) ∧ Below w.heap.size w w' := by
 have HB := q_ (Below.refl w.heap.size w)
 have H : ((wire_zigzag.f a0).bind fun t112 => ((wire_put.f k ([] : List Int) t112).bind fun t113 => (some (strOfNums t113)))) = some r := h
 clear h
 replace H := oB H
 obtain ⟨t112, A20, H⟩ := H
 replace H : ((wire_put.f k ([] : List Int) t112).bind fun t113 => (some (strOfNums t113))) = some r := H
 have A2 := Aside0.mk A20
 clear A20
 replace H := oB H
 obtain ⟨t113, A30, H⟩ := H
 replace H : (some (strOfNums t113)) = some r := H
 have A3 := Aside0.mk A30
 clear A30
 obtain rfl := Option.some.inj H
 go_enter Tryd.func30, Tryd.ntmps30
 go_wp2_with (first | ((with_reducible refine gate_callee (f := 55) rfl ?_); refine goesL_ (some 4) rfl rfl Tryd.func55 (by kernel_rfl) rfl #[.int .i64 a0] rfl (by first | rfl | (simp only [List.map_toArray]; rfl)) ?_; (with_reducible refine (wire_zigzag.calls a0 t112 _ A2.out).mono ?_); rintro e w' ⟨rfl, ⟨nd, rfl⟩⟩; refine ⟨_, rfl, ?_⟩) | ((with_reducible refine gate_callee (f := 54) rfl ?_); refine goesL_ (some 5) rfl rfl Tryd.func54 (by kernel_rfl) rfl #[.slice none 0 0, .int .u64 t112] rfl (by first | rfl | (simp only [List.map_toArray]; rfl)) ?_; (refine (wire_put.calls k (fun k_ => some k_ = (.slice none 0 0 : Value).ownBlock) (.slice none 0 0) ([] : List Int) t112 t113 w _ ?side1 ?side2 A3.out).mono ?_); (case side1 => repeat (first | (with_reducible first | exact HB.out | apply pA | apply pN | apply p1) | exact HB.out)); (case side2 => exact Kd.R_nil _ _ _ _ _); rintro e w4 ⟨v114, rfl, ho0, hb, hkp⟩; refine ⟨_, rfl, ?_⟩; have n0_ := q_ (Kd.R_mono (ok' := fun k_ => True) ho0 (fun k_ hk_ => trivial)); have n1_ := q_ (hb); clear HB; have HO115 := n0_; have HB := n1_; clear n0_ n1_; (try clear hb); (try clear hkp); (try clear ho0); have hcv5 := own_string (P := Tryd.prog) Tryd.underlying39 Tryd.underlying5 Tryd.underlying9 (Kd.own_of_R HO115.out)))
 go_ret
 exact ⟨by first | rfl | (simp [*] <;> rfl), by repeat (first | (with_reducible first | exact HB.out | apply pA | apply pN | apply p1) | exact HB.out)⟩
def wire_Text.f (k : Nat) (a0 : ByteArray) : Option (ByteArray) := (wire_put.f k ([] : List Int) (IntKind.u64.wrap ((a0.size : Int)))).bind fun t116 => (if t116.length + a0.size < 140737488355328 then (some (strOfNums (t116 ++ bytesOf a0))) else (none))
theorem wire_Text.mono : ∀ a0 k, LeO (wire_Text.f k a0) (wire_Text.f (k + 1) a0) := by
 intro a0 k
 unfold wire_Text.f
 repeat' first
   | (with_reducible exact wire_put.mono _ _ _)
   | (with_reducible exact LeO.refl _)
   | (with_reducible exact LeO.none _)
   | (with_reducible refine LeO.ite ?_ ?_)
   | (with_reducible refine LeO.bind ?_ (fun _ => ?_))
   | exact wire_put.mono _ _ _
   | exact LeO.none _
   | refine LeO.ite ?_ ?_
   | refine LeO.bind ?_ (fun _ => ?_)
set_option maxHeartbeats 8000000 in
set_option maxRecDepth 100000 in
theorem wire_Text.calls (k : Nat) (a0 : ByteArray) (r : ByteArray) (w : World) (h : wire_Text.f k a0 = some r) :
  Calls Tryd.prog 31 #[.string a0] w fun e w' => e = .returned (.string r) ∧ Below w.heap.size w w' := by
 have HB := q_ (Below.refl w.heap.size w)
 have H : ((wire_put.f k ([] : List Int) (IntKind.u64.wrap ((a0.size : Int)))).bind fun t116 => (if t116.length + a0.size < 140737488355328 then (some (strOfNums (t116 ++ bytesOf a0))) else (none))) = some r := h
 clear h
 replace H := oB H
 obtain ⟨t116, A20, H⟩ := H
 replace H : (if t116.length + a0.size < 140737488355328 then (some (strOfNums (t116 ++ bytesOf a0))) else (none)) = some r := H
 have A2 := Aside0.mk A20
 clear A20
 by_cases c3 : t116.length + a0.size < 140737488355328
 ·rw [if_pos c3] at H
  have LMc3 := Aside0.mk c3
  clear c3
  obtain ⟨y119, hy119⟩ : ∃ y_ : List Int, y_ = (t116 ++ bytesOf a0) := ⟨_, rfl⟩
  replace H : (some (strOfNums y119)) = some r := by first | (rw [hy119]; with_reducible exact H) | (have H2_ := (Option.bind_some _ _).symm.trans H; rw [hy119]; with_reducible exact H2_) | (have H2_ := (Option.bind_some _ _).symm.trans H; with_reducible exact H2_) | with_reducible exact H | (rw [hy119]; exact H) | exact H
  have Ny119 := Aside0.mk hy119
  clear hy119
  obtain rfl := Option.some.inj H
  go_enter Tryd.func31, Tryd.ntmps31
  go_wp2_with (first | ((with_reducible refine gate_callee (f := 54) rfl ?_); refine goesL_ (some 6) rfl rfl Tryd.func54 (by kernel_rfl) rfl #[.slice none 0 0, .int .u64 (IntKind.u64.wrap ((a0.size : Int)))] rfl (by first | rfl | (simp only [List.map_toArray]; rfl)) ?_; (refine (wire_put.calls k (fun k_ => some k_ = (.slice none 0 0 : Value).ownBlock) (.slice none 0 0) ([] : List Int) (IntKind.u64.wrap ((a0.size : Int))) t116 w _ ?side1 ?side2 A2.out).mono ?_); (case side1 => repeat (first | (with_reducible first | exact HB.out | apply pA | apply pN | apply p1) | exact HB.out)); (case side2 => exact Kd.R_nil _ _ _ _ _); rintro e w4 ⟨v117, rfl, ho0, hb, hkp⟩; refine ⟨_, rfl, ?_⟩; have n0_ := q_ (Kd.R_mono (ok' := fun k_ => True) ho0 (fun k_ hk_ => trivial)); have n1_ := q_ (hb); clear HB; have HO118 := n0_; have HB := n1_; clear n0_ n1_; (try clear hb); (try clear hkp); (try clear ho0)) | (at_builtin; refine print_append_str (w0 := w) w.heap.size rfl (.tmp 6) _ 39 9 5 rfl Tryd.underlying39 Tryd.underlying9 info5 v117 t116 a0 rfl rfl ?aO ?aB ?aS ?aL ?_; (case aB => exact (by repeat (first | (with_reducible first | exact HB.out | apply pA | apply pN | apply p1) | exact HB.out))); (case aO => exact (Kd.own_of_R (by (with_reducible repeat (first | apply Kd.R_alloc | apply Kd.R_drewN | apply Kd.R_drew)); exact HO118.out))); (case aS => exact (pZ (by repeat (first | (with_reducible first | exact HB.out | apply pA | apply pN | apply p1) | exact HB.out)))); (case aL => have := LMc3.out; omega); intro v120 w5 ho0 hb hg; have ho := Kd.R_of_own (h1 := fun _ => rfl) (ok := fun _ => True) ho0 (fun _ _ => trivial); clear ho0; have hat := True.intro; rw [← Ny119.out] at ho; change Kd.R (Kd.int .u8) 5 w5 w.heap.size (fun _ => True) v120 y119 at ho; have n0_ := q_ (hb); have n1_ := q_ (ho); clear HB; clear HO118; have HB := n0_; have HO121 := n1_; clear n0_ n1_; clear ho hb hg hat; have hcv6 := own_string (P := Tryd.prog) Tryd.underlying39 Tryd.underlying5 Tryd.underlying9 (Kd.own_of_R HO121.out)))
  go_ret
  exact ⟨by first | rfl | (simp [*] <;> rfl), by repeat (first | (with_reducible first | exact HB.out | apply pA | apply pN | apply p1) | exact HB.out)⟩
 ·rw [if_neg c3] at H
  exact absurd H (by simp)
def wire_Ints.l0 : Nat → List Int → List Int → Int → Int → Option (ByteArray)
 | 0, _, _, _, _ => none
 | k + 1, x3, x10, x11, x12 => if x12 < x11 then (if 0 ≤ x12 then (if x12 < (x10.length : Int) then ((wire_zigzag.f (rd x10 x12)).bind fun t126 => ((wire_put.f k x3 t126).bind fun t127 => (wire_Ints.l0 k t127 x10 x11 (wrap64 (x12 + 1))))) else (none)) else (none)) else (some (strOfNums x3))
def wire_Ints.f (k : Nat) (l0 : List Int) : Option (ByteArray) := (wire_put.f k ([] : List Int) (IntKind.u64.wrap ((l0.length : Int)))).bind fun t122 => (wire_Ints.l0 k t122 l0 (l0.length : Int) 0)
theorem wire_Ints.mono_l : ∀ k, (∀ y0 y1 y2 y3, LeO (wire_Ints.l0 k y0 y1 y2 y3) (wire_Ints.l0 (k + 1) y0 y1 y2 y3))
 | 0 => fun _ _ _ _ r h => by simp [wire_Ints.l0] at h
 | k + 1 => by
  have ih0 := wire_Ints.mono_l k
  ·intro y0 y1 y2 y3
   unfold wire_Ints.l0
   repeat' first
   | (with_reducible exact ih0 _ _ _ _)
   | (with_reducible exact wire_put.mono _ _ _)
   | (with_reducible exact LeO.refl _)
   | (with_reducible exact LeO.none _)
   | (with_reducible refine LeO.ite ?_ ?_)
   | (with_reducible refine LeO.bind ?_ (fun _ => ?_))
   | exact ih0 _ _ _ _
   | exact wire_put.mono _ _ _
   | exact LeO.none _
   | refine LeO.ite ?_ ?_
   | refine LeO.bind ?_ (fun _ => ?_)
theorem wire_Ints.mono : ∀ a0 k, LeO (wire_Ints.f k a0) (wire_Ints.f (k + 1) a0) := by
 intro a0 k
 have ih0 := wire_Ints.mono_l k
 unfold wire_Ints.f
 repeat' first
   | (with_reducible exact ih0 _ _ _ _)
   | (with_reducible exact wire_put.mono _ _ _)
   | (with_reducible exact LeO.refl _)
   | (with_reducible exact LeO.none _)
   | (with_reducible refine LeO.ite ?_ ?_)
   | (with_reducible refine LeO.bind ?_ (fun _ => ?_))
   | exact ih0 _ _ _ _
   | exact wire_put.mono _ _ _
   | exact LeO.none _
   | refine LeO.ite ?_ ?_
   | refine LeO.bind ?_ (fun _ => ?_)
set_option maxHeartbeats 8000000 in
set_option maxRecDepth 100000 in
theorem wire_Ints.calls (k : Nat) (A0 : Option Addr) (c0 : Nat) (l0 : List Int) (r : ByteArray) (w : World) (hr0 : Kd.C (Kd.int .i64) w A0 l0.length l0) (hc0 : l0.length ≤ c0) (h : wire_Ints.f k l0 = some r) :
  Calls Tryd.prog 32 #[.slice A0 l0.length c0] w fun e w' => e = .returned (.string r) ∧ Below w.heap.size w w' := by
 have HR0 := Aside0.mk hr0
 have HC0 := Aside0.mk hc0
 clear hr0 hc0
 have HB := q_ (Below.refl w.heap.size w)
 have H : ((wire_put.f k ([] : List Int) (IntKind.u64.wrap ((l0.length : Int)))).bind fun t122 => (wire_Ints.l0 k t122 l0 (l0.length : Int) 0)) = some r := h
 clear h
 replace H := oB H
 obtain ⟨t122, A20, H⟩ := H
 replace H : (wire_Ints.l0 k t122 l0 (l0.length : Int) 0) = some r := H
 have A2 := Aside0.mk A20
 clear A20
 have H' := Aside0.mk H
 clear H
 go_enter Tryd.func32, Tryd.ntmps32
 go_wp2_with (first | ((with_reducible refine gate_callee (f := 54) rfl ?_); refine goesL_ (some 9) rfl rfl Tryd.func54 (by kernel_rfl) rfl #[.slice none 0 0, .int .u64 (IntKind.u64.wrap ((l0.length : Int)))] rfl (by first | rfl | (simp only [List.map_toArray]; rfl)) ?_; (refine (wire_put.calls k (fun k_ => some k_ = (.slice none 0 0 : Value).ownBlock) (.slice none 0 0) ([] : List Int) (IntKind.u64.wrap ((l0.length : Int))) t122 w _ ?side1 ?side2 A2.out).mono ?_); (case side1 => repeat (first | (with_reducible first | exact HB.out | apply pA | apply pN | apply p1) | exact HB.out)); (case side2 => exact Kd.R_nil _ _ _ _ _); rintro e w3 ⟨v123, rfl, ho0, hb, hkp⟩; refine ⟨_, rfl, ?_⟩; have n0_ := q_ (Kd.R_mono (ok' := fun k_ => True) ho0 (fun k_ hk_ => trivial)); have n1_ := q_ (hb); clear HB; have HO124 := n0_; have HB := n1_; clear n0_ n1_; (try clear hb); (try clear hkp); (try clear ho0)))
 go_loopg [3, 12] k (fun kq v3 v12 w' => ∃ (x3_1 : List Int) (x12_1 : Int), v12 = .int .i64 x12_1 ∧ Aside0 (wire_Ints.l0 kq x3_1 l0 (l0.length : Int) x12_1 = some r) ∧ Aside0 (kq ≤ k) ∧ Aside0 (Kd.R (Kd.int .u8) 5 w' w.heap.size (fun _ => True) v3 x3_1) ∧ Aside0 (Below w.heap.size w w'))
 case atStart => exact ⟨(t122), (0), (by first | rfl | (simp; done) | (simp [*]; done)), H', ⟨Nat.le_refl _⟩, ⟨by (with_reducible repeat (first | apply Kd.R_alloc | apply Kd.R_drewN | apply Kd.R_drew)); exact HO124.out⟩, ⟨by repeat (first | (with_reducible first | exact HB.out | apply pA | apply pN | apply p1) | exact HB.out)⟩⟩
 case round =>
  clear H'
  try clear p2
  try clear c3
  obtain ⟨x3_1, x12_1, rfl, HA, HK1, HO_3, HB⟩ := hrel
  cases gk with
  | zero => exact absurd HA.out (by simp [wire_Ints.l0])
  | succ k1 =>
   have H := HA.out
   clear HA
   simp only [wire_Ints.l0] at H
   by_cases c4 : x12_1 < (l0.length : Int)
   ·rw [if_pos c4] at H
    have c4b0 : decide (x12_1 < (l0.length : Int)) = true := decide_eq_true c4
    clear c4
    by_cases c5 : 0 ≤ x12_1
    ·rw [if_pos c5] at H
     have c5b0 : decide (0 ≤ x12_1) = true := decide_eq_true c5
     clear c5
     by_cases c6 : x12_1 < (l0.length : Int)
     ·rw [if_pos c6] at H
      have c6b0 : decide (x12_1 < (l0.length : Int)) = true := decide_eq_true c6
      clear c6
      replace H := oB H
      obtain ⟨t126, A70, H⟩ := H
      replace H : ((wire_put.f k1 x3_1 t126).bind fun t127 => (wire_Ints.l0 k1 t127 l0 (l0.length : Int) (wrap64 (x12_1 + 1)))) = some r := H
      have A7 := Aside0.mk A70
      clear A70
      replace H := oB H
      obtain ⟨t127, A80, H⟩ := H
      replace H : (wire_Ints.l0 k1 t127 l0 (l0.length : Int) (wrap64 (x12_1 + 1))) = some r := H
      have A8 := Aside0.mk A80
      clear A80
      have H' := Aside0.mk H
      clear H
      have p125 : 0 ≤ (x12_1 : Int) := of_decide_eq_true (by first | (with_reducible assumption) | assumption)
      have q125 : x12_1 < (l0.length : Int) := of_decide_eq_true (by first | (with_reducible assumption) | assumption)
      obtain ⟨ad125, e125, hx125_0⟩ := Kd.at_int HR0.out x12_1 p125 q125
      cases e125
      replace hx125_0 := (HB.out.cell (World.block_lt_of_cell? w _ hx125_0)).trans hx125_0
      replace p125 := eq_true p125
      replace q125 := eq_true q125
      go_wp2_with (first | ((with_reducible refine gate_callee (f := 55) rfl ?_); refine goesL_ (some 18) rfl rfl Tryd.func55 (by kernel_rfl) rfl #[.int .i64 (rd l0 x12_1)] rfl (by first | rfl | (simp only [List.map_toArray]; rfl)) ?_; (with_reducible refine (wire_zigzag.calls (rd l0 x12_1) t126 _ A7.out).mono ?_); rintro e w' ⟨rfl, ⟨nd, rfl⟩⟩; refine ⟨_, rfl, ?_⟩; obtain ⟨Ao9, co9, eo9⟩ := Kd.R_slice HO_3.out; subst eo9) | ((with_reducible refine gate_callee (f := 54) rfl ?_); refine goesL_ (some 19) rfl rfl Tryd.func54 (by kernel_rfl) rfl #[.slice Ao9 x3_1.length co9, .int .u64 t126] rfl (by first | rfl | (simp only [List.map_toArray]; rfl)) ?_; (with_reducible refine (wire_put.calls k1 (fun k_ => some k_ = (.slice Ao9 x3_1.length co9 : Value).ownBlock) (.slice Ao9 x3_1.length co9) x3_1 t126 t127 w _ ?side1 ?side2 A8.out).mono ?_); (case side1 => repeat (first | (with_reducible first | exact HB.out | apply pA | apply pN | apply p1) | exact HB.out)); (case side2 => exact Kd.R_tight rfl HO_3.out); rintro e w10 ⟨v128, rfl, ho0, hb, hkp⟩; refine ⟨_, rfl, ?_⟩; have n0_ := q_ (Kd.R_mono (ok' := fun k_ => True) ho0 (fun k_ hk_ => trivial)); have n1_ := q_ (hb); clear HB; clear HO_3; have HO129 := n0_; have HB := n1_; clear n0_ n1_; (try clear hb); (try clear hkp); (try clear ho0)))
      go_roundg k1
      case measure => have := HK1.out; omega
      case rel => exact ⟨(t127), (wrap64 (x12_1 + 1)), (by first | rfl | (simp; done) | (simp [*]; done)), H', ⟨by have := HK1.out; omega⟩, ⟨by (with_reducible repeat (first | apply Kd.R_alloc | apply Kd.R_drewN | apply Kd.R_drew)); exact HO129.out⟩, ⟨by repeat (first | (with_reducible first | exact HB.out | apply pA | apply pN | apply p1) | exact HB.out)⟩⟩
     ·rw [if_neg c6] at H
      exact absurd H (by simp)
    ·rw [if_neg c5] at H
     exact absurd H (by simp)
   ·rw [if_neg c4] at H
    have c4b0 : decide (x12_1 < (l0.length : Int)) = false := decide_eq_false c4
    clear c4
    obtain rfl := Option.some.inj H
    have hcv11 := own_string (P := Tryd.prog) Tryd.underlying39 Tryd.underlying5 Tryd.underlying9 (Kd.own_of_R HO_3.out)
    go_wp2
    go_ret
    exact ⟨by first | rfl | (simp [*] <;> rfl), by repeat (first | (with_reducible first | exact HB.out | apply pA | apply pN | apply p1) | exact HB.out)⟩
end Go.Proofs.YtbahagcidhmojaaDoor.PA
namespace Go.Proofs.YtbahagcidhmojaaDoor.PA
open Go.RowKit Go.Proofs.YtbahagcidhmojaaDoorW.PrintWords Go.Proofs.YtbahagcidhmojaaDoorW.PrintLast Go.Proofs.YtbahagcidhmojaaDoorW.PrintMore
attribute [local go_sem] max2_int min2_int max_two min_two max_three min_three max_four min_four
set_option linter.unusedVariables false
set_option linter.unusedSimpArgs false
def event_Encode.f (k : Nat) (a0_0 : Int) (a0_1 : Int) (a0_2 : ByteArray) (a0_3 : ByteArray) (l0_4 : List Int) (a0_5 : ByteArray) : Option (ByteArray × Int) := (event_Check.f k a0_0 a0_1 a0_2 a0_3 l0_4 a0_5).bind fun t131 => (if t131 = 0 then ((wire_Int.f k a0_0).bind fun t132 => ((wire_Int.f k a0_1).bind fun t133 => (if t132.size + t133.size ≤ 9223372036854775807 then ((wire_Text.f k a0_2).bind fun t134 => (if (t132 ++ t133).size + t134.size ≤ 9223372036854775807 then ((wire_Text.f k a0_3).bind fun t135 => (if ((t132 ++ t133) ++ t134).size + t135.size ≤ 9223372036854775807 then ((wire_Ints.f k l0_4).bind fun t136 => (if (((t132 ++ t133) ++ t134) ++ t135).size + t136.size ≤ 9223372036854775807 then ((wire_Text.f k a0_5).bind fun t137 => (if ((((t132 ++ t133) ++ t134) ++ t135) ++ t136).size + t137.size ≤ 9223372036854775807 then (some (((((t132 ++ t133) ++ t134) ++ t135) ++ t136) ++ t137, 0)) else (none))) else (none))) else (none))) else (none))) else (none)))) else (some ((⟨#[]⟩ : ByteArray), t131)))
theorem event_Encode.mono : ∀ a0 a1 a2 a3 a4 a5 k, LeO (event_Encode.f k a0 a1 a2 a3 a4 a5) (event_Encode.f (k + 1) a0 a1 a2 a3 a4 a5) := by
 intro a0 a1 a2 a3 a4 a5 k
 unfold event_Encode.f
 repeat' first
   | (with_reducible exact event_Check.mono _ _ _ _ _ _ _)
   | (with_reducible exact wire_Int.mono _ _)
   | (with_reducible exact wire_Ints.mono _ _)
   | (with_reducible exact wire_Text.mono _ _)
   | (with_reducible exact LeO.refl _)
   | (with_reducible exact LeO.none _)
   | (with_reducible refine LeO.ite ?_ ?_)
   | (with_reducible refine LeO.bind ?_ (fun _ => ?_))
   | exact event_Check.mono _ _ _ _ _ _ _
   | exact wire_Int.mono _ _
   | exact wire_Ints.mono _ _
   | exact wire_Text.mono _ _
   | exact LeO.none _
   | refine LeO.ite ?_ ?_
   | refine LeO.bind ?_ (fun _ => ?_)
def event_Encode.T4 : Bool × List (List Nat × List Nat) := (true, [([], []), ([0], [0]), ([1], [1]), ([], []), ([3], [3]), ([4, 2], [4]), ([2, 5], [2, 5]), ([], []), ([7], [7]), ([8, 5], [8]), ([6, 9], [6, 9]), ([], []), ([11], [11]), ([12, 9], [12]), ([10, 13], [10, 13]), ([], []), ([15], [15]), ([16, 13], [16]), ([14, 17], [14, 17]), ([], []), ([19], [19]), ([20, 17], [20]), ([18, 21], [18, 21]), ([22, 21, 0, 1, 2, 3, 4, 5, 6, 7, 8, 9, 10, 11, 12, 13, 14, 15, 16, 17, 18, 19, 20, 21, 22], [22]), ([23, 0, 1, 2, 3, 4, 5, 6, 7, 8, 9, 10, 11, 12, 13, 14, 15, 16, 17, 18, 19, 20, 21, 22, 23], [])])
def event_Encode.B4 : List Nat := [0, 1, 3, 0, 8, 31, 63, 0, 128, 447, 1023, 0, 2048, 7103, 16383, 0, 32768, 113599, 262143, 0, 524288, 1817535, 4194303, 8388607, 16777215]
theorem event_Encode.tab4 : rtab .any (opsOf Tryd.f15 4) = event_Encode.T4 := by kernel_rfl
theorem event_Encode.bits4 : waitsOk event_Encode.T4.2 event_Encode.B4 = true := by kernel_rfl
set_option maxHeartbeats 8000000 in
set_option maxRecDepth 100000 in
theorem event_Encode.calls (k : Nat) (a0_0 : Int) (a0_1 : Int) (a0_2 : ByteArray) (a0_3 : ByteArray) (A0_4 : Option Addr) (c0_4 : Nat) (l0_4 : List Int) (a0_5 : ByteArray) (r1 : ByteArray) (r2 : Int) (w : World) (hr0_4 : Kd.C (Kd.int .i64) w A0_4 l0_4.length l0_4) (hc0_4 : l0_4.length ≤ c0_4) (h : event_Encode.f k a0_0 a0_1 a0_2 a0_3 l0_4 a0_5 = some (r1, r2)) :
  Calls Tryd.prog 15 #[.agg #[.int .i64 a0_0, .int .i64 a0_1, .string a0_2, .string a0_3, .slice A0_4 l0_4.length c0_4, .string a0_5]] w fun e w' => e = .returned (.tuple #[.string r1, .int .i64 r2]) ∧ Below w.heap.size w w' := by
 have hu24 := Tryd.underlying24
 have HR0_4 := Aside0.mk hr0_4
 have HC0_4 := Aside0.mk hc0_4
 clear hr0_4 hc0_4
 have HB := q_ (Below.refl w.heap.size w)
 have H : ((event_Check.f k a0_0 a0_1 a0_2 a0_3 l0_4 a0_5).bind fun t131 => (if t131 = 0 then ((wire_Int.f k a0_0).bind fun t132 => ((wire_Int.f k a0_1).bind fun t133 => (if t132.size + t133.size ≤ 9223372036854775807 then ((wire_Text.f k a0_2).bind fun t134 => (if (t132 ++ t133).size + t134.size ≤ 9223372036854775807 then ((wire_Text.f k a0_3).bind fun t135 => (if ((t132 ++ t133) ++ t134).size + t135.size ≤ 9223372036854775807 then ((wire_Ints.f k l0_4).bind fun t136 => (if (((t132 ++ t133) ++ t134) ++ t135).size + t136.size ≤ 9223372036854775807 then ((wire_Text.f k a0_5).bind fun t137 => (if ((((t132 ++ t133) ++ t134) ++ t135) ++ t136).size + t137.size ≤ 9223372036854775807 then (some (((((t132 ++ t133) ++ t134) ++ t135) ++ t136) ++ t137, 0)) else (none))) else (none))) else (none))) else (none))) else (none)))) else (some ((⟨#[]⟩ : ByteArray), t131)))) = some (r1, r2) := h
 clear h
 replace H := oB H
 obtain ⟨t131, A20, H⟩ := H
 replace H : (if t131 = 0 then ((wire_Int.f k a0_0).bind fun t132 => ((wire_Int.f k a0_1).bind fun t133 => (if t132.size + t133.size ≤ 9223372036854775807 then ((wire_Text.f k a0_2).bind fun t134 => (if (t132 ++ t133).size + t134.size ≤ 9223372036854775807 then ((wire_Text.f k a0_3).bind fun t135 => (if ((t132 ++ t133) ++ t134).size + t135.size ≤ 9223372036854775807 then ((wire_Ints.f k l0_4).bind fun t136 => (if (((t132 ++ t133) ++ t134) ++ t135).size + t136.size ≤ 9223372036854775807 then ((wire_Text.f k a0_5).bind fun t137 => (if ((((t132 ++ t133) ++ t134) ++ t135) ++ t136).size + t137.size ≤ 9223372036854775807 then (some (((((t132 ++ t133) ++ t134) ++ t135) ++ t136) ++ t137, 0)) else (none))) else (none))) else (none))) else (none))) else (none)))) else (some ((⟨#[]⟩ : ByteArray), t131))) = some (r1, r2) := H
 have A2 := Aside0.mk A20
 clear A20
 by_cases c3 : t131 = 0
 ·rw [if_pos c3] at H
  have c3b0 : (t131 == 0) = true := beq_iff_eq.mpr c3
  have c3b1 : (t131 != 0) = false := oD c3
  clear c3
  replace H := oB H
  obtain ⟨t132, A40, H⟩ := H
  replace H : ((wire_Int.f k a0_1).bind fun t133 => (if t132.size + t133.size ≤ 9223372036854775807 then ((wire_Text.f k a0_2).bind fun t134 => (if (t132 ++ t133).size + t134.size ≤ 9223372036854775807 then ((wire_Text.f k a0_3).bind fun t135 => (if ((t132 ++ t133) ++ t134).size + t135.size ≤ 9223372036854775807 then ((wire_Ints.f k l0_4).bind fun t136 => (if (((t132 ++ t133) ++ t134) ++ t135).size + t136.size ≤ 9223372036854775807 then ((wire_Text.f k a0_5).bind fun t137 => (if ((((t132 ++ t133) ++ t134) ++ t135) ++ t136).size + t137.size ≤ 9223372036854775807 then (some (((((t132 ++ t133) ++ t134) ++ t135) ++ t136) ++ t137, 0)) else (none))) else (none))) else (none))) else (none))) else (none))) = some (r1, r2) := H
  have A4 := Aside0.mk A40
  clear A40
  replace H := oB H
  obtain ⟨t133, A50, H⟩ := H
  replace H : (if t132.size + t133.size ≤ 9223372036854775807 then ((wire_Text.f k a0_2).bind fun t134 => (if (t132 ++ t133).size + t134.size ≤ 9223372036854775807 then ((wire_Text.f k a0_3).bind fun t135 => (if ((t132 ++ t133) ++ t134).size + t135.size ≤ 9223372036854775807 then ((wire_Ints.f k l0_4).bind fun t136 => (if (((t132 ++ t133) ++ t134) ++ t135).size + t136.size ≤ 9223372036854775807 then ((wire_Text.f k a0_5).bind fun t137 => (if ((((t132 ++ t133) ++ t134) ++ t135) ++ t136).size + t137.size ≤ 9223372036854775807 then (some (((((t132 ++ t133) ++ t134) ++ t135) ++ t136) ++ t137, 0)) else (none))) else (none))) else (none))) else (none))) else (none)) = some (r1, r2) := H
  have A5 := Aside0.mk A50
  clear A50
  by_cases c6 : t132.size + t133.size ≤ 9223372036854775807
  ·rw [if_pos c6] at H
   have c6b0 := eq_true c6
   have c6b1 : decide (t132.size + t133.size ≤ 9223372036854775807) = true := decide_eq_true c6
   try have c6b2 : (9223372036854775807 < t132.size + t133.size) = False := eq_false (Nat.not_lt.2 c6)
   clear c6
   replace H := oB H
   obtain ⟨t134, A70, H⟩ := H
   replace H : (if (t132 ++ t133).size + t134.size ≤ 9223372036854775807 then ((wire_Text.f k a0_3).bind fun t135 => (if ((t132 ++ t133) ++ t134).size + t135.size ≤ 9223372036854775807 then ((wire_Ints.f k l0_4).bind fun t136 => (if (((t132 ++ t133) ++ t134) ++ t135).size + t136.size ≤ 9223372036854775807 then ((wire_Text.f k a0_5).bind fun t137 => (if ((((t132 ++ t133) ++ t134) ++ t135) ++ t136).size + t137.size ≤ 9223372036854775807 then (some (((((t132 ++ t133) ++ t134) ++ t135) ++ t136) ++ t137, 0)) else (none))) else (none))) else (none))) else (none)) = some (r1, r2) := H
   have A7 := Aside0.mk A70
   clear A70
   by_cases c8 : (t132 ++ t133).size + t134.size ≤ 9223372036854775807
   ·rw [if_pos c8] at H
    have c8b0 := eq_true c8
    have c8b1 : decide ((t132 ++ t133).size + t134.size ≤ 9223372036854775807) = true := decide_eq_true c8
    try have c8b2 : (9223372036854775807 < (t132 ++ t133).size + t134.size) = False := eq_false (Nat.not_lt.2 c8)
    have c8b3 : (9223372036854775807 < t132.size + t133.size + t134.size) = False := eq_false (by have e_ : t132.size + t133.size + t134.size = (t132 ++ t133).size + t134.size := (by first | rfl | (simp only [ByteArray.size_append]; done) | (simp only [ByteArray.size_append]; rfl)); exact Nat.not_lt.2 (Nat.le_trans (Nat.le_of_eq e_) c8))
    clear c8
    replace H := oB H
    obtain ⟨t135, A90, H⟩ := H
    replace H : (if ((t132 ++ t133) ++ t134).size + t135.size ≤ 9223372036854775807 then ((wire_Ints.f k l0_4).bind fun t136 => (if (((t132 ++ t133) ++ t134) ++ t135).size + t136.size ≤ 9223372036854775807 then ((wire_Text.f k a0_5).bind fun t137 => (if ((((t132 ++ t133) ++ t134) ++ t135) ++ t136).size + t137.size ≤ 9223372036854775807 then (some (((((t132 ++ t133) ++ t134) ++ t135) ++ t136) ++ t137, 0)) else (none))) else (none))) else (none)) = some (r1, r2) := H
    have A9 := Aside0.mk A90
    clear A90
    by_cases c10 : ((t132 ++ t133) ++ t134).size + t135.size ≤ 9223372036854775807
    ·rw [if_pos c10] at H
     have c10b0 := eq_true c10
     have c10b1 : decide (((t132 ++ t133) ++ t134).size + t135.size ≤ 9223372036854775807) = true := decide_eq_true c10
     try have c10b2 : (9223372036854775807 < ((t132 ++ t133) ++ t134).size + t135.size) = False := eq_false (Nat.not_lt.2 c10)
     have c10b3 : (9223372036854775807 < t132.size + t133.size + t134.size + t135.size) = False := eq_false (by have e_ : t132.size + t133.size + t134.size + t135.size = ((t132 ++ t133) ++ t134).size + t135.size := (by first | rfl | (simp only [ByteArray.size_append]; done) | (simp only [ByteArray.size_append]; rfl)); exact Nat.not_lt.2 (Nat.le_trans (Nat.le_of_eq e_) c10))
     clear c10
     replace H := oB H
     obtain ⟨t136, A110, H⟩ := H
     replace H : (if (((t132 ++ t133) ++ t134) ++ t135).size + t136.size ≤ 9223372036854775807 then ((wire_Text.f k a0_5).bind fun t137 => (if ((((t132 ++ t133) ++ t134) ++ t135) ++ t136).size + t137.size ≤ 9223372036854775807 then (some (((((t132 ++ t133) ++ t134) ++ t135) ++ t136) ++ t137, 0)) else (none))) else (none)) = some (r1, r2) := H
     have A11 := Aside0.mk A110
     clear A110
     by_cases c12 : (((t132 ++ t133) ++ t134) ++ t135).size + t136.size ≤ 9223372036854775807
     ·rw [if_pos c12] at H
      have c12b0 := eq_true c12
      have c12b1 : decide ((((t132 ++ t133) ++ t134) ++ t135).size + t136.size ≤ 9223372036854775807) = true := decide_eq_true c12
      try have c12b2 : (9223372036854775807 < (((t132 ++ t133) ++ t134) ++ t135).size + t136.size) = False := eq_false (Nat.not_lt.2 c12)
      have c12b3 : (9223372036854775807 < t132.size + t133.size + t134.size + t135.size + t136.size) = False := eq_false (by have e_ : t132.size + t133.size + t134.size + t135.size + t136.size = (((t132 ++ t133) ++ t134) ++ t135).size + t136.size := (by first | rfl | (simp only [ByteArray.size_append]; done) | (simp only [ByteArray.size_append]; rfl)); exact Nat.not_lt.2 (Nat.le_trans (Nat.le_of_eq e_) c12))
      clear c12
      replace H := oB H
      obtain ⟨t137, A130, H⟩ := H
      replace H : (if ((((t132 ++ t133) ++ t134) ++ t135) ++ t136).size + t137.size ≤ 9223372036854775807 then (some (((((t132 ++ t133) ++ t134) ++ t135) ++ t136) ++ t137, 0)) else (none)) = some (r1, r2) := H
      have A13 := Aside0.mk A130
      clear A130
      by_cases c14 : ((((t132 ++ t133) ++ t134) ++ t135) ++ t136).size + t137.size ≤ 9223372036854775807
      ·rw [if_pos c14] at H
       have c14b0 := eq_true c14
       have c14b1 : decide (((((t132 ++ t133) ++ t134) ++ t135) ++ t136).size + t137.size ≤ 9223372036854775807) = true := decide_eq_true c14
       try have c14b2 : (9223372036854775807 < ((((t132 ++ t133) ++ t134) ++ t135) ++ t136).size + t137.size) = False := eq_false (Nat.not_lt.2 c14)
       have c14b3 : (9223372036854775807 < t132.size + t133.size + t134.size + t135.size + t136.size + t137.size) = False := eq_false (by have e_ : t132.size + t133.size + t134.size + t135.size + t136.size + t137.size = ((((t132 ++ t133) ++ t134) ++ t135) ++ t136).size + t137.size := (by first | rfl | (simp only [ByteArray.size_append]; done) | (simp only [ByteArray.size_append]; rfl)); exact Nat.not_lt.2 (Nat.le_trans (Nat.le_of_eq e_) c14))
       clear c14
       simp only [Option.some.injEq, Prod.mk.injEq] at H
       obtain ⟨rfl, rfl⟩ := H
       go_enter Tryd.func15, Tryd.ntmps15
       try go_wp2_with (first | ((with_reducible refine gate_dst (N := 1) rfl ?_); refine box_event ?hg (N := 1) ?hd (cs := #[.int .i64 a0_0, .int .i64 a0_1, .string a0_2, .string a0_3, .slice A0_4 l0_4.length c0_4, .string a0_5]) (t := 24) ?hr ?_; (case hd => rfl); (case hg => rfl); (case hr => first | (go_simp; done) | (go_simp; rfl)); intro gb130 hg w15 hbox hb; have n0_ := q_ (pT (by repeat (first | (with_reducible first | exact HB.out | apply pA | apply pN | apply p1) | exact HB.out)) hb); have n1_ := q_ (hbox); have n2_ := q_ ((by rw [hg]; exact (pZ (by repeat (first | (with_reducible first | exact HB.out | apply pA | apply pN | apply p1) | exact HB.out))) : w.heap.size ≤ gb130)); have n3_ := q_ ((by rw [hg]; exact (pZ (by repeat (first | (with_reducible first | exact HB.out | apply pA | apply pN | apply p1) | exact HB.out))) : w.heap.size ≤ gb130)); clear HB; have HB := n0_; have BK130 := n1_; have GW130 := n2_; have GE130 := n3_; clear n0_ n1_ n2_ n3_; clear hb hbox hg; have hcz16_0 : w15.cell? ⟨gb130, 0, none⟩ = some (.int .i64 a0_0) := (bC BK130.out 0).trans rfl; have hcz16_1 : w15.cell? ⟨gb130, 1, none⟩ = some (.int .i64 a0_1) := (bC BK130.out 1).trans rfl; have hcz16_2 : w15.cell? ⟨gb130, 2, none⟩ = some (.string a0_2) := (bC BK130.out 2).trans rfl; have hcz16_3 : w15.cell? ⟨gb130, 3, none⟩ = some (.string a0_3) := (bC BK130.out 3).trans rfl; have hcz16_4 : w15.cell? ⟨gb130, 4, none⟩ = some (.slice A0_4 l0_4.length c0_4) := (bC BK130.out 4).trans rfl; have hcz16_5 : w15.cell? ⟨gb130, 5, none⟩ = some (.string a0_5) := (bC BK130.out 5).trans rfl; have hfz16_0 := bF BK130.out 0; have hfz16_1 := bF BK130.out 1; have hfz16_2 := bF BK130.out 2; have hfz16_3 := bF BK130.out 3; have hfz16_4 := bF BK130.out 4; have hfz16_5 := bF BK130.out 5) | ((with_reducible refine gate_callee (f := 11) rfl ?_); refine goesL_ (some 6) rfl rfl Tryd.func11 (by kernel_rfl) rfl #[.agg #[.int .i64 a0_0, .int .i64 a0_1, .string a0_2, .string a0_3, .slice A0_4 l0_4.length c0_4, .string a0_5]] rfl (by first | rfl | (simp only [List.map_toArray]; rfl)) ?_; (with_reducible refine (event_Check.calls k a0_0 a0_1 a0_2 a0_3 _ _ l0_4 a0_5 t131 _ ?side1 ?side2 A2.out).mono ?_); (case side1 => repeat (first | exact (Kd.C_below HR0_4.out HB.out) | (with_reducible refine Kd.C_alloc ?_ _) | (with_reducible refine Kd.C_drewN ?_ _) | (with_reducible refine Kd.C_drew ?_))); (case side2 => exact HC0_4.out); rintro e w17 ⟨rfl, hb⟩; refine ⟨_, rfl, ?_⟩; have n0_ := q_ (bB (g := gb130) (o := .cells #[.int .i64 a0_0, .int .i64 a0_1, .string a0_2, .string a0_3, .slice A0_4 l0_4.length c0_4, .string a0_5] 24 (0, 0)) (by (with_reducible repeat (first | refine bN ?_ _ | refine bW ?_ | refine bA ?_ _)); exact BK130.out) hb); have n1_ := q_ (pT (by repeat (first | (with_reducible first | exact HB.out | apply pA | apply pN | apply p1 | refine pS ?_ GE130.out) | exact HB.out)) hb); clear BK130; clear HB; have BK130 := n0_; have HB := n1_; clear n0_ n1_; (try clear hb); (try clear hb2); (try clear hk); (try clear hi)))
       have n0_ := q_ (bW BK130.out)
       have n1_ := q_ (p1 HB.out)
       clear BK130
       clear HB
       have BK130 := n0_
       have HB := n1_
       clear n0_ n1_
       refine start_ (n := 25) (S := fun w' => w'.cell? ⟨gb130, 0, none⟩ = some (.int .i64 a0_0) ∧ w'.cell? ⟨gb130, 1, none⟩ = some (.int .i64 a0_1) ∧ w'.cell? ⟨gb130, 2, none⟩ = some (.string a0_2) ∧ w'.cell? ⟨gb130, 3, none⟩ = some (.string a0_3) ∧ w'.cell? ⟨gb130, 4, none⟩ = some (.slice A0_4 l0_4.length c0_4) ∧ w'.cell? ⟨gb130, 5, none⟩ = some (.string a0_5)) (ds := []) #[false, false, false, false, false, false, false, false, false, false, false, false, false, false, false, false, false, false, false, false, false, false, false, false, false] (by kernel_rfl) rfl rfl ⟨(bC BK130.out 0).trans rfl, (bC BK130.out 1).trans rfl, (bC BK130.out 2).trans rfl, (bC BK130.out 3).trans rfl, (bC BK130.out 4).trans rfl, (bC BK130.out 5).trans rfl⟩ (fun hHeld => ?_); refine with_tabW event_Encode.tab4 event_Encode.bits4 (fun HT_ HW_ => ?_)
       generalize w17.drew = w18 at BK130 HB hHeld ⊢
       refine pure_ (i := 0) (N := some 10) (v := ?_) (a' := ?_) #[true, false, false, false, false, false, false, false, false, false, false, false, false, false, false, false, false, false, false, false, false, false, false, false, false] rfl rfl (any_of HT_.out (by kernel_rfl)) (fun _ _ _ h => h) (Or.inl ⟨by rfl, ?_⟩) ?_ ?_
       rotate_left
       ·intro w'
        go_simp
        with_reducible rfl
       rotate_left
       ·simp only [Act.put, List.setIfInBounds_toArray, List.set_cons_zero, List.set_cons_succ, i64_w, i32_w]
        rfl
       refine pure_ (i := 3) (N := some 13) (v := ?_) (a' := ?_) #[true, false, false, true, false, false, false, false, false, false, false, false, false, false, false, false, false, false, false, false, false, false, false, false, false] rfl rfl (any_of HT_.out (by kernel_rfl)) (fun _ _ _ h => h) (Or.inl ⟨by rfl, ?_⟩) ?_ ?_
       rotate_left
       ·intro w'
        go_simp
        with_reducible rfl
       rotate_left
       ·simp only [Act.put, List.setIfInBounds_toArray, List.set_cons_zero, List.set_cons_succ, i64_w, i32_w]
        rfl
       refine pure_ (i := 7) (N := some 17) (v := ?_) (a' := ?_) #[true, false, false, true, false, false, false, true, false, false, false, false, false, false, false, false, false, false, false, false, false, false, false, false, false] rfl rfl (any_of HT_.out (by kernel_rfl)) (fun _ _ _ h => h) (Or.inl ⟨by rfl, ?_⟩) ?_ ?_
       rotate_left
       ·intro w'
        go_simp
        with_reducible rfl
       rotate_left
       ·simp only [Act.put, List.setIfInBounds_toArray, List.set_cons_zero, List.set_cons_succ, i64_w, i32_w]
        rfl
       refine pure_ (i := 11) (N := some 21) (v := ?_) (a' := ?_) #[true, false, false, true, false, false, false, true, false, false, false, true, false, false, false, false, false, false, false, false, false, false, false, false, false] rfl rfl (any_of HT_.out (by kernel_rfl)) (fun _ _ _ h => h) (Or.inl ⟨by rfl, ?_⟩) ?_ ?_
       rotate_left
       ·intro w'
        go_simp
        with_reducible rfl
       rotate_left
       ·simp only [Act.put, List.setIfInBounds_toArray, List.set_cons_zero, List.set_cons_succ, i64_w, i32_w]
        rfl
       refine pure_ (i := 15) (N := some 25) (v := ?_) (a' := ?_) #[true, false, false, true, false, false, false, true, false, false, false, true, false, false, false, true, false, false, false, false, false, false, false, false, false] rfl rfl (any_of HT_.out (by kernel_rfl)) (fun _ _ _ h => h) (Or.inl ⟨by rfl, ?_⟩) ?_ ?_
       rotate_left
       ·intro w'
        go_simp
        with_reducible rfl
       rotate_left
       ·simp only [Act.put, List.setIfInBounds_toArray, List.set_cons_zero, List.set_cons_succ, i64_w, i32_w]
        rfl
       refine pure_ (i := 19) (N := some 29) (v := ?_) (a' := ?_) #[true, false, false, true, false, false, false, true, false, false, false, true, false, false, false, true, false, false, false, true, false, false, false, false, false] rfl rfl (any_of HT_.out (by kernel_rfl)) (fun _ _ _ h => h) (Or.inl ⟨by rfl, ?_⟩) ?_ ?_
       rotate_left
       ·intro w'
        go_simp
        with_reducible rfl
       rotate_left
       ·simp only [Act.put, List.setIfInBounds_toArray, List.set_cons_zero, List.set_cons_succ, i64_w, i32_w]
        rfl
       refine take_ (i := 1) (N := some 11) (v := ?_) (a' := ?_) #[true, true, false, true, false, false, false, true, false, false, false, true, false, false, false, true, false, false, false, true, false, false, false, false, false] rfl rfl (take_ofW HT_.out HW_.out (by kernel_rfl)) (fun _ _ _ h => h) (Or.inl ⟨by rfl, ?_⟩) hHeld ?_ ?_
       rotate_left
       ·rintro w' ⟨s0, s1, s2, s3, s4, s5⟩
        go_simp
        with_reducible rfl
       rotate_left
       ·simp only [Act.put, List.setIfInBounds_toArray, List.set_cons_zero, List.set_cons_succ, i64_w, i32_w]
        rfl
       refine take_ (i := 4) (N := some 14) (v := ?_) (a' := ?_) #[true, true, false, true, true, false, false, true, false, false, false, true, false, false, false, true, false, false, false, true, false, false, false, false, false] rfl rfl (take_ofW HT_.out HW_.out (by kernel_rfl)) (fun _ _ _ h => h) (Or.inl ⟨by rfl, ?_⟩) hHeld ?_ ?_
       rotate_left
       ·rintro w' ⟨s0, s1, s2, s3, s4, s5⟩
        go_simp
        with_reducible rfl
       rotate_left
       ·simp only [Act.put, List.setIfInBounds_toArray, List.set_cons_zero, List.set_cons_succ, i64_w, i32_w]
        rfl
       refine take_ (i := 8) (N := some 18) (v := ?_) (a' := ?_) #[true, true, false, true, true, false, false, true, true, false, false, true, false, false, false, true, false, false, false, true, false, false, false, false, false] rfl rfl (take_ofW HT_.out HW_.out (by kernel_rfl)) (fun _ _ _ h => h) (Or.inl ⟨by rfl, ?_⟩) hHeld ?_ ?_
       rotate_left
       ·rintro w' ⟨s0, s1, s2, s3, s4, s5⟩
        go_simp
        with_reducible rfl
       rotate_left
       ·simp only [Act.put, List.setIfInBounds_toArray, List.set_cons_zero, List.set_cons_succ, i64_w, i32_w]
        rfl
       refine take_ (i := 12) (N := some 22) (v := ?_) (a' := ?_) #[true, true, false, true, true, false, false, true, true, false, false, true, true, false, false, true, false, false, false, true, false, false, false, false, false] rfl rfl (take_ofW HT_.out HW_.out (by kernel_rfl)) (fun _ _ _ h => h) (Or.inl ⟨by rfl, ?_⟩) hHeld ?_ ?_
       rotate_left
       ·rintro w' ⟨s0, s1, s2, s3, s4, s5⟩
        go_simp
        with_reducible rfl
       rotate_left
       ·simp only [Act.put, List.setIfInBounds_toArray, List.set_cons_zero, List.set_cons_succ, i64_w, i32_w]
        rfl
       refine take_ (i := 16) (N := some 26) (v := ?_) (a' := ?_) #[true, true, false, true, true, false, false, true, true, false, false, true, true, false, false, true, true, false, false, true, false, false, false, false, false] rfl rfl (take_ofW HT_.out HW_.out (by kernel_rfl)) (fun _ _ _ h => h) (Or.inl ⟨by rfl, ?_⟩) hHeld ?_ ?_
       rotate_left
       ·rintro w' ⟨s0, s1, s2, s3, s4, s5⟩
        go_simp
        with_reducible rfl
       rotate_left
       ·simp only [Act.put, List.setIfInBounds_toArray, List.set_cons_zero, List.set_cons_succ, i64_w, i32_w]
        rfl
       refine take_ (i := 20) (N := some 30) (v := ?_) (a' := ?_) #[true, true, false, true, true, false, false, true, true, false, false, true, true, false, false, true, true, false, false, true, true, false, false, false, false] rfl rfl (take_ofW HT_.out HW_.out (by kernel_rfl)) (fun _ _ _ h => h) (Or.inl ⟨by rfl, ?_⟩) hHeld ?_ ?_
       rotate_left
       ·rintro w' ⟨s0, s1, s2, s3, s4, s5⟩
        go_simp
        with_reducible rfl
       rotate_left
       ·simp only [Act.put, List.setIfInBounds_toArray, List.set_cons_zero, List.set_cons_succ, i64_w, i32_w]
        rfl
       refine one_ (i := 2) (N := some 12) #[true, true, true, true, true, false, false, true, true, false, false, true, true, false, false, true, true, false, false, true, true, false, false, false, false] rfl rfl (one_of HT_.out (by kernel_rfl)) (by decide) (fun K hK => ?_)
       refine goes_ Tryd.func30 (by kernel_rfl) rfl #[.int .i64 a0_0] (by rfl) rfl rfl (by first | rfl | (simp only [List.map_toArray]; rfl)) ?_
       with_reducible refine (wire_Int.calls k a0_0 t132 _ A4.out).mono ?_
       rintro e w19 ⟨rfl, hb⟩
       refine ⟨_, rfl, ?_⟩
       have n0_ := q_ (bB (g := gb130) (o := .cells #[.int .i64 a0_0, .int .i64 a0_1, .string a0_2, .string a0_3, .slice A0_4 l0_4.length c0_4, .string a0_5] 24 (0, 0)) (by (with_reducible repeat (first | refine bN ?_ _ | refine bW ?_ | refine bA ?_ _)); exact BK130.out) hb)
       have n1_ := q_ (pT (by repeat (first | (with_reducible first | exact HB.out | apply pA | apply pN | apply p1 | refine pS ?_ GE130.out) | exact HB.out)) hb)
       clear BK130
       clear HB
       have BK130 := n0_
       have HB := n1_
       clear n0_ n1_
       (try clear hb)
       (try clear hb2)
       (try clear hk)
       (try clear hi)
       refine hK.out _ _ ⟨(bC BK130.out 0).trans rfl, (bC BK130.out 1).trans rfl, (bC BK130.out 2).trans rfl, (bC BK130.out 3).trans rfl, (bC BK130.out 4).trans rfl, (bC BK130.out 5).trans rfl⟩ (fun hHeld => ?_)
       clear hK K
       refine norm_ (a' := ?_) ?_ ?_
       rotate_left
       ·show Act.put _ (some 12) _ = _
        simp only [Act.put, List.setIfInBounds_toArray, List.set_cons_zero, List.set_cons_succ, i64_w, i32_w]
        rfl
       refine one_ (i := 5) (N := some 15) #[true, true, true, true, true, true, false, true, true, false, false, true, true, false, false, true, true, false, false, true, true, false, false, false, false] rfl rfl (one_of HT_.out (by kernel_rfl)) (by decide) (fun K hK => ?_)
       refine goes_ Tryd.func30 (by kernel_rfl) rfl #[.int .i64 a0_1] (by rfl) rfl rfl (by first | rfl | (simp only [List.map_toArray]; rfl)) ?_
       with_reducible refine (wire_Int.calls k a0_1 t133 _ A5.out).mono ?_
       rintro e w20 ⟨rfl, hb⟩
       refine ⟨_, rfl, ?_⟩
       have n0_ := q_ (bB (g := gb130) (o := .cells #[.int .i64 a0_0, .int .i64 a0_1, .string a0_2, .string a0_3, .slice A0_4 l0_4.length c0_4, .string a0_5] 24 (0, 0)) (by (with_reducible repeat (first | refine bN ?_ _ | refine bW ?_ | refine bA ?_ _)); exact BK130.out) hb)
       have n1_ := q_ (pT (by repeat (first | (with_reducible first | exact HB.out | apply pA | apply pN | apply p1 | refine pS ?_ GE130.out) | exact HB.out)) hb)
       clear BK130
       clear HB
       have BK130 := n0_
       have HB := n1_
       clear n0_ n1_
       (try clear hb)
       (try clear hb2)
       (try clear hk)
       (try clear hi)
       refine hK.out _ _ ⟨(bC BK130.out 0).trans rfl, (bC BK130.out 1).trans rfl, (bC BK130.out 2).trans rfl, (bC BK130.out 3).trans rfl, (bC BK130.out 4).trans rfl, (bC BK130.out 5).trans rfl⟩ (fun hHeld => ?_)
       clear hK K
       refine norm_ (a' := ?_) ?_ ?_
       rotate_left
       ·show Act.put _ (some 15) _ = _
        simp only [Act.put, List.setIfInBounds_toArray, List.set_cons_zero, List.set_cons_succ, i64_w, i32_w]
        rfl
       refine pure_ (i := 6) (N := some 16) (v := ?_) (a' := ?_) #[true, true, true, true, true, true, true, true, true, false, false, true, true, false, false, true, true, false, false, true, true, false, false, false, false] rfl rfl (any_of HT_.out (by kernel_rfl)) (fun _ _ _ h => h) (Or.inl ⟨by rfl, ?_⟩) ?_ ?_
       rotate_left
       ·intro w'
        go_simp
        with_reducible rfl
       rotate_left
       ·simp only [Act.put, List.setIfInBounds_toArray, List.set_cons_zero, List.set_cons_succ, i64_w, i32_w]
        rfl
       refine one_ (i := 9) (N := some 19) #[true, true, true, true, true, true, true, true, true, true, false, true, true, false, false, true, true, false, false, true, true, false, false, false, false] rfl rfl (one_of HT_.out (by kernel_rfl)) (by decide) (fun K hK => ?_)
       refine goes_ Tryd.func31 (by kernel_rfl) rfl #[.string a0_2] (by rfl) rfl rfl (by first | rfl | (simp only [List.map_toArray]; rfl)) ?_
       with_reducible refine (wire_Text.calls k a0_2 t134 _ A7.out).mono ?_
       rintro e w21 ⟨rfl, hb⟩
       refine ⟨_, rfl, ?_⟩
       have n0_ := q_ (bB (g := gb130) (o := .cells #[.int .i64 a0_0, .int .i64 a0_1, .string a0_2, .string a0_3, .slice A0_4 l0_4.length c0_4, .string a0_5] 24 (0, 0)) (by (with_reducible repeat (first | refine bN ?_ _ | refine bW ?_ | refine bA ?_ _)); exact BK130.out) hb)
       have n1_ := q_ (pT (by repeat (first | (with_reducible first | exact HB.out | apply pA | apply pN | apply p1 | refine pS ?_ GE130.out) | exact HB.out)) hb)
       clear BK130
       clear HB
       have BK130 := n0_
       have HB := n1_
       clear n0_ n1_
       (try clear hb)
       (try clear hb2)
       (try clear hk)
       (try clear hi)
       refine hK.out _ _ ⟨(bC BK130.out 0).trans rfl, (bC BK130.out 1).trans rfl, (bC BK130.out 2).trans rfl, (bC BK130.out 3).trans rfl, (bC BK130.out 4).trans rfl, (bC BK130.out 5).trans rfl⟩ (fun hHeld => ?_)
       clear hK K
       refine norm_ (a' := ?_) ?_ ?_
       rotate_left
       ·show Act.put _ (some 19) _ = _
        simp only [Act.put, List.setIfInBounds_toArray, List.set_cons_zero, List.set_cons_succ, i64_w, i32_w]
        rfl
       refine pure_ (i := 10) (N := some 20) (v := ?_) (a' := ?_) #[true, true, true, true, true, true, true, true, true, true, true, true, true, false, false, true, true, false, false, true, true, false, false, false, false] rfl rfl (any_of HT_.out (by kernel_rfl)) (fun _ _ _ h => h) (Or.inl ⟨by rfl, ?_⟩) ?_ ?_
       rotate_left
       ·intro w'
        go_simp
        with_reducible rfl
       rotate_left
       ·simp only [Act.put, List.setIfInBounds_toArray, List.set_cons_zero, List.set_cons_succ, i64_w, i32_w]
        rfl
       refine one_ (i := 13) (N := some 23) #[true, true, true, true, true, true, true, true, true, true, true, true, true, true, false, true, true, false, false, true, true, false, false, false, false] rfl rfl (one_of HT_.out (by kernel_rfl)) (by decide) (fun K hK => ?_)
       refine goes_ Tryd.func31 (by kernel_rfl) rfl #[.string a0_3] (by rfl) rfl rfl (by first | rfl | (simp only [List.map_toArray]; rfl)) ?_
       with_reducible refine (wire_Text.calls k a0_3 t135 _ A9.out).mono ?_
       rintro e w22 ⟨rfl, hb⟩
       refine ⟨_, rfl, ?_⟩
       have n0_ := q_ (bB (g := gb130) (o := .cells #[.int .i64 a0_0, .int .i64 a0_1, .string a0_2, .string a0_3, .slice A0_4 l0_4.length c0_4, .string a0_5] 24 (0, 0)) (by (with_reducible repeat (first | refine bN ?_ _ | refine bW ?_ | refine bA ?_ _)); exact BK130.out) hb)
       have n1_ := q_ (pT (by repeat (first | (with_reducible first | exact HB.out | apply pA | apply pN | apply p1 | refine pS ?_ GE130.out) | exact HB.out)) hb)
       clear BK130
       clear HB
       have BK130 := n0_
       have HB := n1_
       clear n0_ n1_
       (try clear hb)
       (try clear hb2)
       (try clear hk)
       (try clear hi)
       refine hK.out _ _ ⟨(bC BK130.out 0).trans rfl, (bC BK130.out 1).trans rfl, (bC BK130.out 2).trans rfl, (bC BK130.out 3).trans rfl, (bC BK130.out 4).trans rfl, (bC BK130.out 5).trans rfl⟩ (fun hHeld => ?_)
       clear hK K
       refine norm_ (a' := ?_) ?_ ?_
       rotate_left
       ·show Act.put _ (some 23) _ = _
        simp only [Act.put, List.setIfInBounds_toArray, List.set_cons_zero, List.set_cons_succ, i64_w, i32_w]
        rfl
       refine pure_ (i := 14) (N := some 24) (v := ?_) (a' := ?_) #[true, true, true, true, true, true, true, true, true, true, true, true, true, true, true, true, true, false, false, true, true, false, false, false, false] rfl rfl (any_of HT_.out (by kernel_rfl)) (fun _ _ _ h => h) (Or.inl ⟨by rfl, ?_⟩) ?_ ?_
       rotate_left
       ·intro w'
        go_simp
        with_reducible rfl
       rotate_left
       ·simp only [Act.put, List.setIfInBounds_toArray, List.set_cons_zero, List.set_cons_succ, i64_w, i32_w]
        rfl
       refine one_ (i := 17) (N := some 27) #[true, true, true, true, true, true, true, true, true, true, true, true, true, true, true, true, true, true, false, true, true, false, false, false, false] rfl rfl (one_of HT_.out (by kernel_rfl)) (by decide) (fun K hK => ?_)
       refine goes_ Tryd.func32 (by kernel_rfl) rfl #[.slice A0_4 l0_4.length c0_4] (by rfl) rfl rfl (by first | rfl | (simp only [List.map_toArray]; rfl)) ?_
       with_reducible refine (wire_Ints.calls k _ _ l0_4 t136 _ ?side1 ?side2 A11.out).mono ?_
       (case side1 => repeat (first | exact (Kd.C_below HR0_4.out HB.out) | (with_reducible refine Kd.C_alloc ?_ _) | (with_reducible refine Kd.C_drewN ?_ _) | (with_reducible refine Kd.C_drew ?_)))
       (case side2 => exact HC0_4.out)
       rintro e w23 ⟨rfl, hb⟩
       refine ⟨_, rfl, ?_⟩
       have n0_ := q_ (bB (g := gb130) (o := .cells #[.int .i64 a0_0, .int .i64 a0_1, .string a0_2, .string a0_3, .slice A0_4 l0_4.length c0_4, .string a0_5] 24 (0, 0)) (by (with_reducible repeat (first | refine bN ?_ _ | refine bW ?_ | refine bA ?_ _)); exact BK130.out) hb)
       have n1_ := q_ (pT (by repeat (first | (with_reducible first | exact HB.out | apply pA | apply pN | apply p1 | refine pS ?_ GE130.out) | exact HB.out)) hb)
       clear BK130
       clear HB
       have BK130 := n0_
       have HB := n1_
       clear n0_ n1_
       (try clear hb)
       (try clear hb2)
       (try clear hk)
       (try clear hi)
       refine hK.out _ _ ⟨(bC BK130.out 0).trans rfl, (bC BK130.out 1).trans rfl, (bC BK130.out 2).trans rfl, (bC BK130.out 3).trans rfl, (bC BK130.out 4).trans rfl, (bC BK130.out 5).trans rfl⟩ (fun hHeld => ?_)
       clear hK K
       refine norm_ (a' := ?_) ?_ ?_
       rotate_left
       ·show Act.put _ (some 27) _ = _
        simp only [Act.put, List.setIfInBounds_toArray, List.set_cons_zero, List.set_cons_succ, i64_w, i32_w]
        rfl
       refine pure_ (i := 18) (N := some 28) (v := ?_) (a' := ?_) #[true, true, true, true, true, true, true, true, true, true, true, true, true, true, true, true, true, true, true, true, true, false, false, false, false] rfl rfl (any_of HT_.out (by kernel_rfl)) (fun _ _ _ h => h) (Or.inl ⟨by rfl, ?_⟩) ?_ ?_
       rotate_left
       ·intro w'
        go_simp
        with_reducible rfl
       rotate_left
       ·simp only [Act.put, List.setIfInBounds_toArray, List.set_cons_zero, List.set_cons_succ, i64_w, i32_w]
        rfl
       refine one_ (i := 21) (N := some 31) #[true, true, true, true, true, true, true, true, true, true, true, true, true, true, true, true, true, true, true, true, true, true, false, false, false] rfl rfl (one_of HT_.out (by kernel_rfl)) (by decide) (fun K hK => ?_)
       refine goes_ Tryd.func31 (by kernel_rfl) rfl #[.string a0_5] (by rfl) rfl rfl (by first | rfl | (simp only [List.map_toArray]; rfl)) ?_
       with_reducible refine (wire_Text.calls k a0_5 t137 _ A13.out).mono ?_
       rintro e w24 ⟨rfl, hb⟩
       refine ⟨_, rfl, ?_⟩
       have n0_ := q_ (bB (g := gb130) (o := .cells #[.int .i64 a0_0, .int .i64 a0_1, .string a0_2, .string a0_3, .slice A0_4 l0_4.length c0_4, .string a0_5] 24 (0, 0)) (by (with_reducible repeat (first | refine bN ?_ _ | refine bW ?_ | refine bA ?_ _)); exact BK130.out) hb)
       have n1_ := q_ (pT (by repeat (first | (with_reducible first | exact HB.out | apply pA | apply pN | apply p1 | refine pS ?_ GE130.out) | exact HB.out)) hb)
       clear BK130
       clear HB
       have BK130 := n0_
       have HB := n1_
       clear n0_ n1_
       (try clear hb)
       (try clear hb2)
       (try clear hk)
       (try clear hi)
       refine hK.out _ _ ⟨(bC BK130.out 0).trans rfl, (bC BK130.out 1).trans rfl, (bC BK130.out 2).trans rfl, (bC BK130.out 3).trans rfl, (bC BK130.out 4).trans rfl, (bC BK130.out 5).trans rfl⟩ (fun hHeld => ?_)
       clear hK K
       refine norm_ (a' := ?_) ?_ ?_
       rotate_left
       ·show Act.put _ (some 31) _ = _
        simp only [Act.put, List.setIfInBounds_toArray, List.set_cons_zero, List.set_cons_succ, i64_w, i32_w]
        rfl
       refine pure_ (i := 22) (N := some 32) (v := ?_) (a' := ?_) #[true, true, true, true, true, true, true, true, true, true, true, true, true, true, true, true, true, true, true, true, true, true, true, false, false] rfl rfl (any_of HT_.out (by kernel_rfl)) (fun _ _ _ h => h) (Or.inl ⟨by rfl, ?_⟩) ?_ ?_
       rotate_left
       ·intro w'
        go_simp
        with_reducible rfl
       rotate_left
       ·simp only [Act.put, List.setIfInBounds_toArray, List.set_cons_zero, List.set_cons_succ, i64_w, i32_w]
        rfl
       refine pure_ (i := 23) (N := some 2) (v := ?_) (a' := ?_) #[true, true, true, true, true, true, true, true, true, true, true, true, true, true, true, true, true, true, true, true, true, true, true, true, false] rfl rfl (any_of HT_.out (by kernel_rfl)) (fun _ _ _ h => h) (Or.inl ⟨by rfl, ?_⟩) ?_ ?_
       rotate_left
       ·intro w'
        go_simp
        with_reducible rfl
       rotate_left
       ·simp only [Act.put, List.setIfInBounds_toArray, List.set_cons_zero, List.set_cons_succ, i64_w, i32_w]
        rfl
       refine pure_ (i := 24) (N := some 3) (v := ?_) (a' := ?_) #[true, true, true, true, true, true, true, true, true, true, true, true, true, true, true, true, true, true, true, true, true, true, true, true, true] rfl rfl (any_of HT_.out (by kernel_rfl)) (fun _ _ _ h => h) (Or.inl ⟨by rfl, ?_⟩) ?_ ?_
       rotate_left
       ·intro w'
        go_simp
        with_reducible rfl
       rotate_left
       ·simp only [Act.put, List.setIfInBounds_toArray, List.set_cons_zero, List.set_cons_succ, i64_w, i32_w]
        rfl
       refine done_ (done_of HT_.out (by kernel_rfl)) ?_
       try go_wp2
       go_ret2
       exact ⟨by first | rfl | (simp [*] <;> rfl), by repeat (first | (with_reducible first | exact HB.out | apply pA | apply pN | apply p1 | refine pS ?_ GE130.out) | exact HB.out)⟩
      ·rw [if_neg c14] at H
       exact absurd H (by simp)
     ·rw [if_neg c12] at H
      exact absurd H (by simp)
    ·rw [if_neg c10] at H
     exact absurd H (by simp)
   ·rw [if_neg c8] at H
    exact absurd H (by simp)
  ·rw [if_neg c6] at H
   exact absurd H (by simp)
 ·rw [if_neg c3] at H
  have c3b0 : (t131 == 0) = false := oC c3
  have c3b1 : (t131 != 0) = true := bne_iff_ne.mpr c3
  simp only [Option.some.injEq, Prod.mk.injEq] at H
  obtain ⟨rfl, rfl⟩ := H
  go_enter Tryd.func15, Tryd.ntmps15
  go_wp2_with (first | ((with_reducible refine gate_dst (N := 1) rfl ?_); refine box_event ?hg (N := 1) ?hd (cs := #[.int .i64 a0_0, .int .i64 a0_1, .string a0_2, .string a0_3, .slice A0_4 l0_4.length c0_4, .string a0_5]) (t := 24) ?hr ?_; (case hd => rfl); (case hg => rfl); (case hr => first | (go_simp; done) | (go_simp; rfl)); intro gb130 hg w25 hbox hb; have n0_ := q_ (pT (by repeat (first | (with_reducible first | exact HB.out | apply pA | apply pN | apply p1) | exact HB.out)) hb); have n1_ := q_ (hbox); have n2_ := q_ ((by rw [hg]; exact (pZ (by repeat (first | (with_reducible first | exact HB.out | apply pA | apply pN | apply p1) | exact HB.out))) : w.heap.size ≤ gb130)); have n3_ := q_ ((by rw [hg]; exact (pZ (by repeat (first | (with_reducible first | exact HB.out | apply pA | apply pN | apply p1) | exact HB.out))) : w.heap.size ≤ gb130)); clear HB; have HB := n0_; have BK130 := n1_; have GW130 := n2_; have GE130 := n3_; clear n0_ n1_ n2_ n3_; clear hb hbox hg; have hcz26_0 : w25.cell? ⟨gb130, 0, none⟩ = some (.int .i64 a0_0) := (bC BK130.out 0).trans rfl; have hcz26_1 : w25.cell? ⟨gb130, 1, none⟩ = some (.int .i64 a0_1) := (bC BK130.out 1).trans rfl; have hcz26_2 : w25.cell? ⟨gb130, 2, none⟩ = some (.string a0_2) := (bC BK130.out 2).trans rfl; have hcz26_3 : w25.cell? ⟨gb130, 3, none⟩ = some (.string a0_3) := (bC BK130.out 3).trans rfl; have hcz26_4 : w25.cell? ⟨gb130, 4, none⟩ = some (.slice A0_4 l0_4.length c0_4) := (bC BK130.out 4).trans rfl; have hcz26_5 : w25.cell? ⟨gb130, 5, none⟩ = some (.string a0_5) := (bC BK130.out 5).trans rfl; have hfz26_0 := bF BK130.out 0; have hfz26_1 := bF BK130.out 1; have hfz26_2 := bF BK130.out 2; have hfz26_3 := bF BK130.out 3; have hfz26_4 := bF BK130.out 4; have hfz26_5 := bF BK130.out 5) | ((with_reducible refine gate_callee (f := 11) rfl ?_); refine goesL_ (some 6) rfl rfl Tryd.func11 (by kernel_rfl) rfl #[.agg #[.int .i64 a0_0, .int .i64 a0_1, .string a0_2, .string a0_3, .slice A0_4 l0_4.length c0_4, .string a0_5]] rfl (by first | rfl | (simp only [List.map_toArray]; rfl)) ?_; (with_reducible refine (event_Check.calls k a0_0 a0_1 a0_2 a0_3 _ _ l0_4 a0_5 t131 _ ?side1 ?side2 A2.out).mono ?_); (case side1 => repeat (first | exact (Kd.C_below HR0_4.out HB.out) | (with_reducible refine Kd.C_alloc ?_ _) | (with_reducible refine Kd.C_drewN ?_ _) | (with_reducible refine Kd.C_drew ?_))); (case side2 => exact HC0_4.out); rintro e w27 ⟨rfl, hb⟩; refine ⟨_, rfl, ?_⟩; have n0_ := q_ (bB (g := gb130) (o := .cells #[.int .i64 a0_0, .int .i64 a0_1, .string a0_2, .string a0_3, .slice A0_4 l0_4.length c0_4, .string a0_5] 24 (0, 0)) (by (with_reducible repeat (first | refine bN ?_ _ | refine bW ?_ | refine bA ?_ _)); exact BK130.out) hb); have n1_ := q_ (pT (by repeat (first | (with_reducible first | exact HB.out | apply pA | apply pN | apply p1 | refine pS ?_ GE130.out) | exact HB.out)) hb); clear BK130; clear HB; have BK130 := n0_; have HB := n1_; clear n0_ n1_; (try clear hb); (try clear hb2); (try clear hk); (try clear hi)))
  go_ret2
  exact ⟨by first | rfl | (simp [*] <;> rfl), by repeat (first | (with_reducible first | exact HB.out | apply pA | apply pN | apply p1 | refine pS ?_ GE130.out) | exact HB.out)⟩
def IsS82 (w0 W : World) (g : Nat) (f0 : ByteArray) (f1 : Int) (f2 : Int) : Prop := W.heap[g]? = some (.cells #[.string f0, .int .i64 f1, .int .i64 f2] 82 (0, 0)) ∧ w0.heap.size ≤ g
theorem IsS82.grown {w0 W : World} {g : Nat} {f0 : ByteArray} {f1 : Int} {f2 : Int} {W1 : World} {row : Option Nat} (h : IsS82 w0 W g f0 f1 f2) (hw : W.grownBy W1 row) (hne : some g ≠ row) : IsS82 w0 W1 g f0 f1 f2 := by
 obtain ⟨hb, hg⟩ := h
 exact ⟨blk_grown hb hw hne, hg⟩
theorem IsS82.kept {w0 W : World} {g : Nat} {f0 : ByteArray} {f1 : Int} {f2 : Int} {W1 : World} {S : Nat → Prop} (h : IsS82 w0 W g f0 f1 f2) (hk : Kept W W1 S) (hne : ¬ S g) : IsS82 w0 W1 g f0 f1 f2 := by
 obtain ⟨hb, hg⟩ := h
 exact ⟨blk_kept hb hk hne, hg⟩
theorem IsS82.below {w0 W : World} {g : Nat} {f0 : ByteArray} {f1 : Int} {f2 : Int} {W1 : World} (h : IsS82 w0 W g f0 f1 f2) (hw : Below W.heap.size W W1) : IsS82 w0 W1 g f0 f1 f2 := h.grown (grown_of_below hw none) (by simp)
theorem IsS82.alloc {w0 W : World} {g : Nat} {f0 : ByteArray} {f1 : Int} {f2 : Int} (h : IsS82 w0 W g f0 f1 f2) (o : Obj) : IsS82 w0 (W.alloc o) g f0 f1 f2 := h.below (pA (Below.refl _ _) o)
theorem IsS82.drewN {w0 W : World} {g : Nat} {f0 : ByteArray} {f1 : Int} {f2 : Int} (h : IsS82 w0 W g f0 f1 f2) (m : Nat) : IsS82 w0 (W.drewN m) g f0 f1 f2 := h
theorem IsS82.drew {w0 W : World} {g : Nat} {f0 : ByteArray} {f1 : Int} {f2 : Int} (h : IsS82 w0 W g f0 f1 f2) : IsS82 w0 W.drew g f0 f1 f2 := h
theorem IsS82.at_ {w0 W : World} {g : Nat} {f0 : ByteArray} {f1 : Int} {f2 : Int} {w' : World} {m : Nat} (hq : W.drewN m = w') (h : IsS82 w0 W g f0 f1 f2) : IsS82 w0 w' g f0 f1 f2 := by subst hq; exact IsS82.drewN h m
theorem IsS82.apart {w0 W : World} {g : Nat} {f0 : ByteArray} {f1 : Int} {f2 : Int} {α : Type} {d : Kd α} {e : Nat} {base : Nat} {ok : Nat → Prop} {v : Value} {xs : List α} (h : IsS82 w0 W g f0 f1 f2) (ho : d.R e W base ok v xs) (ht : ∀ q, q ∈ e :: d.E → q ≠ 82) : d.R e W base (fun k => ok k ∧ k ≠ g) v xs := by
 obtain ⟨hb, hg⟩ := h
 exact Kd.R_types ho hb ht
theorem IsS82.own_ne {w0 W : World} {g : Nat} {f0 : ByteArray} {f1 : Int} {f2 : Int} {α : Type} {d : Kd α} {e : Nat} {base : Nat} {ok : Nat → Prop} {v : Value} {xs : List α} (h : IsS82 w0 W g f0 f1 f2) (ho : d.R e W base ok v xs) (ht : e ≠ 82) : some g ≠ v.ownBlock := by
 obtain ⟨hb, hg⟩ := h
 exact Kd.R_ne ho hb ht
theorem IsS82.lt {w0 W : World} {g : Nat} {f0 : ByteArray} {f1 : Int} {f2 : Int} (h : IsS82 w0 W g f0 f1 f2) : g < W.heap.size := by
 obtain ⟨hb, hg⟩ := h
 exact blk_lt hb
theorem IsS82.ge {w0 W : World} {g : Nat} {f0 : ByteArray} {f1 : Int} {f2 : Int} (h : IsS82 w0 W g f0 f1 f2) : w0.heap.size ≤ g := by
 obtain ⟨hb, hg⟩ := h
 exact hg
theorem IsS82.ne_blk {w0 W : World} {g : Nat} {f0 : ByteArray} {f1 : Int} {f2 : Int} {a : Nat} {cs : Array Value} {t : TypeId} {fr : Nat × Nat} (h : IsS82 w0 W g f0 f1 f2) (hb2 : W.heap[a]? = some (.cells cs t fr)) (ht : t ≠ 82) : g ≠ a := by
 obtain ⟨hb, hg⟩ := h
 rintro rfl
 rw [hb] at hb2
 injection hb2 with hb2
 injection hb2 with _ ht2
 exact ht ht2.symm
theorem IsS82.far {w0 W : World} {g : Nat} {f0 : ByteArray} {f1 : Int} {f2 : Int} {p : Addr} (h : IsS82 w0 W g f0 f1 f2) (hne : g ≠ p.block) (u : Value) : IsS82 w0 (W.setCell p u) g f0 f1 f2 := by
 obtain ⟨hb, hg⟩ := h
 exact ⟨blk_far hb hne u, hg⟩
theorem cellS82_0 {W : World} {g : Nat} {f0 : ByteArray} {f1 : Int} {f2 : Int} (h : W.heap[g]? = some (.cells #[.string f0, .int .i64 f1, .int .i64 f2] 82 (0, 0))) : W.cell? ⟨g, 0, none⟩ = some (.string f0) := (bC h 0).trans rfl
theorem IsS82.set_0 {w0 W : World} {g : Nat} {f0 : ByteArray} {f1 : Int} {f2 : Int} (h : IsS82 w0 W g f0 f1 f2) (x : ByteArray) : IsS82 w0 (W.setCell ⟨g, 0, none⟩ (.string x)) g x f1 f2 := by
 obtain ⟨hb, hg⟩ := h
 exact ⟨by simpa using blk_set hb 0 (.string x), hg⟩
theorem cellS82_1 {W : World} {g : Nat} {f0 : ByteArray} {f1 : Int} {f2 : Int} (h : W.heap[g]? = some (.cells #[.string f0, .int .i64 f1, .int .i64 f2] 82 (0, 0))) : W.cell? ⟨g, 1, none⟩ = some (.int .i64 f1) := (bC h 1).trans rfl
theorem IsS82.set_1 {w0 W : World} {g : Nat} {f0 : ByteArray} {f1 : Int} {f2 : Int} (h : IsS82 w0 W g f0 f1 f2) (x : Int) : IsS82 w0 (W.setCell ⟨g, 1, none⟩ (.int .i64 x)) g f0 x f2 := by
 obtain ⟨hb, hg⟩ := h
 exact ⟨by simpa using blk_set hb 1 (.int .i64 x), hg⟩
theorem cellS82_2 {W : World} {g : Nat} {f0 : ByteArray} {f1 : Int} {f2 : Int} (h : W.heap[g]? = some (.cells #[.string f0, .int .i64 f1, .int .i64 f2] 82 (0, 0))) : W.cell? ⟨g, 2, none⟩ = some (.int .i64 f2) := (bC h 2).trans rfl
theorem IsS82.set_2 {w0 W : World} {g : Nat} {f0 : ByteArray} {f1 : Int} {f2 : Int} (h : IsS82 w0 W g f0 f1 f2) (x : Int) : IsS82 w0 (W.setCell ⟨g, 2, none⟩ (.int .i64 x)) g f0 f1 x := by
 obtain ⟨hb, hg⟩ := h
 exact ⟨by simpa using blk_set hb 2 (.int .i64 x), hg⟩
def wire_NewReader.f (a0 : ByteArray) : Option (ByteArray × Int × Int) := some (a0, 0, 0)
set_option maxHeartbeats 8000000 in
set_option maxRecDepth 100000 in
theorem wire_NewReader.calls (a0 : ByteArray) (r1 : ByteArray) (r2 : Int) (r3 : Int) (w0 w : World) (hB : Below w0.heap.size w0 w) (h : wire_NewReader.f a0 = some (r1, r2, r3)) :
  Calls Tryd.prog 34 #[.string a0] w fun e w' => ∃ g_ : Nat, e = .returned (.pointer (some ⟨g_, 0, none⟩)) ∧ IsS82 w0 w' g_ r1 r2 r3 ∧ Below w0.heap.size w0 w' ∧ Below w.heap.size w w' := by
 have hu82 := Tryd.underlying82
 have HBW := q_ (Below.refl w.heap.size w)
 have HW0 := Aside0.mk hB.size
 have HB := Aside0.mk hB
 clear hB
 have H : (some (a0, 0, 0)) = some (r1, r2, r3) := h
 clear h
 simp only [Option.some.injEq, Prod.mk.injEq] at H
 obtain ⟨rfl, rfl, rfl⟩ := H
 go_enter Tryd.func34, Tryd.ntmps34
 go_wp2_with (first | ((with_reducible refine gate_dst (N := 5) rfl ?_); refine box_event ?hg (N := 5) ?hd (cs := #[.string a0, .int .i64 0, .int .i64 0]) (t := 82) ?hr ?_; (case hd => rfl); (case hg => rfl); (case hr => first | (go_simp; done) | (go_simp; rfl)); intro gb138 hg w2 hbox hb; have n0_ := q_ (pT HBW.out hb); have n1_ := q_ (pT (by repeat (first | (with_reducible first | exact HB.out | apply pA | apply pN | apply p1) | exact HB.out)) hb); have n2_ := q_ (hbox); have n3_ := q_ ((by rw [hg]; exact (pZ (by repeat (first | (with_reducible first | exact HBW.out | apply pA | apply pN | apply p1) | exact HBW.out))) : w.heap.size ≤ gb138)); have n4_ := q_ ((Nat.le_trans HW0.out (by rw [hg]; exact (pZ (by repeat (first | (with_reducible first | exact HBW.out | apply pA | apply pN | apply p1) | exact HBW.out))) : w.heap.size ≤ gb138) : w0.heap.size ≤ gb138)); clear HBW; clear HB; have HBW := n0_; have HB := n1_; have BK138 := n2_; have GW138 := n3_; have GE138 := n4_; clear n0_ n1_ n2_ n3_ n4_; clear hb hbox hg))
 go_ret
 exact ⟨_, rfl, (show IsS82 w0 _ gb138 a0 0 0 from ⟨by (with_reducible repeat (first | refine bN ?_ _ | refine bW ?_ | refine bA ?_ _)); exact BK138.out, GE138.out⟩), by repeat (first | (with_reducible first | exact HB.out | apply pA | apply pN | apply p1 | refine pS ?_ GE138.out) | exact HB.out), by repeat (first | (with_reducible first | exact HBW.out | apply pA | apply pN | apply p1 | refine pS ?_ GW138.out) | exact HBW.out)⟩
def wire_Reader_ready.f (s0_0 : ByteArray) (s0_1 : Int) (s0_2 : Int) : Option (Bool × ByteArray × Int × Int) := some ((s0_2 == 0), s0_0, s0_1, s0_2)
set_option maxHeartbeats 8000000 in
set_option maxRecDepth 100000 in
theorem wire_Reader_ready.calls (g : Nat) (s0_0 : ByteArray) (s0_1 : Int) (s0_2 : Int) (r1 : Bool) (r2 : ByteArray) (r3 : Int) (r4 : Int) (w0 w : World) (hI : IsS82 w0 w g s0_0 s0_1 s0_2) (hB : Below w0.heap.size w0 w) (h : wire_Reader_ready.f s0_0 s0_1 s0_2 = some (r1, r2, r3, r4)) :
  Calls Tryd.prog 59 #[.pointer (some ⟨g, 0, none⟩)] w fun e w' => e = .returned (.bool r1) ∧ IsS82 w0 w' g r2 r3 r4 ∧ Below w0.heap.size w0 w' ∧ KeepBut w w' g none := by
 have HI0 := Aside0.mk hI
 have HK := q_ (KeepBut.refl w g none)
 have HL := Aside0.mk hB.size
 clear hI
 have HW0 := Aside0.mk hB.size
 have HB := Aside0.mk hB
 clear hB
 have H : (some ((s0_2 == 0), s0_0, s0_1, s0_2)) = some (r1, r2, r3, r4) := h
 clear h
 simp only [Option.some.injEq, Prod.mk.injEq] at H
 obtain ⟨rfl, rfl, rfl, rfl⟩ := H
 obtain ⟨HGz2, hgz2⟩ := HI0.out
 have hcz2_0 := cellS82_0 HGz2
 have hcz2_1 := cellS82_1 HGz2
 have hcz2_2 := cellS82_2 HGz2
 have hfz2_0 := bF HGz2 0
 have hfz2_1 := bF HGz2 1
 have hfz2_2 := bF HGz2 2
 clear HGz2 hgz2
 go_enter Tryd.func59, Tryd.ntmps59
 go_wp2
 go_ret
 exact ⟨by first | rfl | (simp [*] <;> rfl), by repeat (first | (with_reducible first | exact HI0.out | apply IsS82.alloc | apply IsS82.drewN | apply IsS82.drew | apply IsS82.set_0 | apply IsS82.set_1 | apply IsS82.set_2) | exact HI0.out), by repeat (first | (with_reducible first | exact HB.out | apply pA | apply pN | apply p1 | refine pS ?_ (IsS82.ge HI0.out)) | exact HB.out), by repeat (first | (with_reducible first | exact HK.out | apply KeepBut.set_ | apply keep_drewN | apply keep_drew | apply keep_alloc) | exact HK.out)⟩
mutual
def wire_Reader_next.l0 : Nat → Int → Int → Int → Int → ByteArray → Int → Int → Option (Int × Int × Int × ByteArray × Int × Int)
 | 0, _, _, _, _, _, _, _ => none
 | k + 1, x1, x4, x5, x7, x1000, x1001, x1002 => if (wrap64 (x1 + x5)) ≥ (x1000.size : Int) then (some (0, 0, 3, x1000, x1001, x1002)) else (if 0 ≤ (wrap64 (x1 + x5)) then (if (wrap64 (x1 + x5)) < (x1000.size : Int) then (if (wrap64 (x5 + 1)) = 10 then (wire_Reader_next.j1 k x1 x4 (wrap64 (x5 + 1)) x7 (bt x1000 (wrap64 (x1 + x5))) (decide ((bt x1000 (wrap64 (x1 + x5))) > 1)) x1000 x1001 x1002) else (wire_Reader_next.j1 k x1 x4 (wrap64 (x5 + 1)) x7 (bt x1000 (wrap64 (x1 + x5))) false x1000 x1001 x1002)) else (none)) else (none))
def wire_Reader_next.j1 : Nat → Int → Int → Int → Int → Int → Bool → ByteArray → Int → Int → Option (Int × Int × Int × ByteArray × Int × Int)
 | 0, _, _, _, _, _, _, _, _, _ => none
 | k + 1, x1, x4, x5, x7, x8, x35, x1000, x1001, x1002 => if x35 = true then (some (0, 0, 5, x1000, x1001, x1002)) else (if 0 ≤ x7 then (if x8 < 128 then (if x8 = 0 then (if x5 > 1 then (some (0, 0, 5, x1000, x1001, x1002)) else (some (Go.bits .or .u64 x4 (shl .u64 (IntKind.u64.wrap (Go.bits .and .u8 x8 127)) x7), x5, 0, x1000, x1001, x1002))) else (some (Go.bits .or .u64 x4 (shl .u64 (IntKind.u64.wrap (Go.bits .and .u8 x8 127)) x7), x5, 0, x1000, x1001, x1002))) else (wire_Reader_next.l0 k x1 (Go.bits .or .u64 x4 (shl .u64 (IntKind.u64.wrap (Go.bits .and .u8 x8 127)) x7)) x5 (wrap64 (x7 + 7)) x1000 x1001 x1002)) else (none))
end
def wire_Reader_next.f (k : Nat) (s0_0 : ByteArray) (s0_1 : Int) (s0_2 : Int) (a1 : Int) : Option (Int × Int × Int × ByteArray × Int × Int) := wire_Reader_next.l0 k a1 0 0 0 s0_0 s0_1 s0_2
theorem wire_Reader_next.mono_l : ∀ k, (∀ y0 y1 y2 y3 y4 y5 y6, LeO (wire_Reader_next.l0 k y0 y1 y2 y3 y4 y5 y6) (wire_Reader_next.l0 (k + 1) y0 y1 y2 y3 y4 y5 y6)) ∧ (∀ y0 y1 y2 y3 y4 y5 y6 y7 y8, LeO (wire_Reader_next.j1 k y0 y1 y2 y3 y4 y5 y6 y7 y8) (wire_Reader_next.j1 (k + 1) y0 y1 y2 y3 y4 y5 y6 y7 y8))
 | 0 => ⟨fun _ _ _ _ _ _ _ r h => by simp [wire_Reader_next.l0] at h, fun _ _ _ _ _ _ _ _ _ r h => by simp [wire_Reader_next.j1] at h⟩
 | k + 1 => by
  obtain ⟨ih0, ih1⟩ := wire_Reader_next.mono_l k
  refine ⟨?_, ?_⟩
  ·intro y0 y1 y2 y3 y4 y5 y6
   unfold wire_Reader_next.l0
   repeat' first
   | (with_reducible exact ih0 _ _ _ _ _ _ _)
   | (with_reducible exact ih1 _ _ _ _ _ _ _ _ _)
   | (with_reducible exact LeO.refl _)
   | (with_reducible exact LeO.none _)
   | (with_reducible refine LeO.ite ?_ ?_)
   | (with_reducible refine LeO.bind ?_ (fun _ => ?_))
   | exact ih0 _ _ _ _ _ _ _
   | exact ih1 _ _ _ _ _ _ _ _ _
   | exact LeO.none _
   | refine LeO.ite ?_ ?_
   | refine LeO.bind ?_ (fun _ => ?_)
  ·intro y0 y1 y2 y3 y4 y5 y6 y7 y8
   unfold wire_Reader_next.j1
   repeat' first
   | (with_reducible exact ih0 _ _ _ _ _ _ _)
   | (with_reducible exact ih1 _ _ _ _ _ _ _ _ _)
   | (with_reducible exact LeO.refl _)
   | (with_reducible exact LeO.none _)
   | (with_reducible refine LeO.ite ?_ ?_)
   | (with_reducible refine LeO.bind ?_ (fun _ => ?_))
   | exact ih0 _ _ _ _ _ _ _
   | exact ih1 _ _ _ _ _ _ _ _ _
   | exact LeO.none _
   | refine LeO.ite ?_ ?_
   | refine LeO.bind ?_ (fun _ => ?_)
theorem wire_Reader_next.mono : ∀ a0 a1 a2 a3 k, LeO (wire_Reader_next.f k a0 a1 a2 a3) (wire_Reader_next.f (k + 1) a0 a1 a2 a3) := by
 intro a0 a1 a2 a3 k
 obtain ⟨ih0, ih1⟩ := wire_Reader_next.mono_l k
 unfold wire_Reader_next.f
 repeat' first
   | (with_reducible exact ih0 _ _ _ _ _ _ _)
   | (with_reducible exact ih1 _ _ _ _ _ _ _ _ _)
   | (with_reducible exact LeO.refl _)
   | (with_reducible exact LeO.none _)
   | (with_reducible refine LeO.ite ?_ ?_)
   | (with_reducible refine LeO.bind ?_ (fun _ => ?_))
   | exact ih0 _ _ _ _ _ _ _
   | exact ih1 _ _ _ _ _ _ _ _ _
   | exact LeO.none _
   | refine LeO.ite ?_ ?_
   | refine LeO.bind ?_ (fun _ => ?_)
set_option maxHeartbeats 8000000 in
set_option maxRecDepth 100000 in
theorem wire_Reader_next.calls (k : Nat) (g : Nat) (s0_0 : ByteArray) (s0_1 : Int) (s0_2 : Int) (a1 : Int) (r1 : Int) (r2 : Int) (r3 : Int) (r4 : ByteArray) (r5 : Int) (r6 : Int) (w0 w : World) (hI : IsS82 w0 w g s0_0 s0_1 s0_2) (hB : Below w0.heap.size w0 w) (h : wire_Reader_next.f k s0_0 s0_1 s0_2 a1 = some (r1, r2, r3, r4, r5, r6)) :
  Calls Tryd.prog 78 #[.pointer (some ⟨g, 0, none⟩), .int .i64 a1] w fun e w' => e = .returned (.tuple #[.int .u64 r1, .int .i64 r2, .int .i64 r3]) ∧ IsS82 w0 w' g r4 r5 r6 ∧ Below w0.heap.size w0 w' ∧ KeepBut w w' g none := by
 have HI0 := Aside0.mk hI
 have HK := q_ (KeepBut.refl w g none)
 have HL := Aside0.mk hB.size
 clear hI
 have HW0 := Aside0.mk hB.size
 have HB := Aside0.mk hB
 clear hB
 have H : (wire_Reader_next.l0 k a1 0 0 0 s0_0 s0_1 s0_2) = some (r1, r2, r3, r4, r5, r6) := h
 clear h
 have H' := Aside0.mk H
 clear H
 go_enter Tryd.func78, Tryd.ntmps78
 go_wp2
 go_loopg [4, 5, 7] k (fun kq v4 v5 v7 w' => ∃ (x4_1 : Int) (x5_1 : Int) (x7_1 : Int), v4 = .int .u64 x4_1 ∧ v5 = .int .i64 x5_1 ∧ v7 = .int .i64 x7_1 ∧ Aside0 (wire_Reader_next.l0 kq a1 x4_1 x5_1 x7_1 s0_0 s0_1 s0_2 = some (r1, r2, r3, r4, r5, r6)) ∧ Aside0 (kq ≤ k) ∧ Aside0 (IsS82 w0 w' g s0_0 s0_1 s0_2) ∧ Aside0 (KeepBut w w' g none) ∧ Aside0 (Below w0.heap.size w0 w'))
 case atStart => exact ⟨(0), (0), (0), (by first | rfl | (simp; done) | (simp [*]; done)), (by first | rfl | (simp; done) | (simp [*]; done)), (by first | rfl | (simp; done) | (simp [*]; done)), H', ⟨Nat.le_refl _⟩, ⟨by repeat (first | (with_reducible first | exact HI0.out | apply IsS82.alloc | apply IsS82.drewN | apply IsS82.drew | apply IsS82.set_0 | apply IsS82.set_1 | apply IsS82.set_2) | exact HI0.out)⟩, ⟨by repeat (first | (with_reducible first | exact HK.out | apply KeepBut.set_ | apply keep_drewN | apply keep_drew | apply keep_alloc) | exact HK.out)⟩, ⟨by repeat (first | (with_reducible first | exact HB.out | apply pA | apply pN | apply p1 | refine pS ?_ (IsS82.ge HI0.out)) | exact HB.out)⟩⟩
 case round =>
  clear H'
  try clear p2
  obtain ⟨x4_1, x5_1, x7_1, rfl, rfl, rfl, HA, HK1, HI0, HK, HB⟩ := hrel
  cases gk with
  | zero => exact absurd HA.out (by simp [wire_Reader_next.l0])
  | succ k1 =>
   have H := HA.out
   clear HA
   simp only [wire_Reader_next.l0] at H
   by_cases c3 : (wrap64 (a1 + x5_1)) ≥ (s0_0.size : Int)
   ·rw [if_pos c3] at H
    have c3b0 : decide ((s0_0.size : Int) ≤ (wrap64 (a1 + x5_1))) = true := decide_eq_true c3
    clear c3
    simp only [Option.some.injEq, Prod.mk.injEq] at H
    obtain ⟨rfl, rfl, rfl, rfl, rfl, rfl⟩ := H
    obtain ⟨HGz4, hgz4⟩ := HI0.out
    have hcz4_0 := cellS82_0 HGz4
    have hcz4_1 := cellS82_1 HGz4
    have hcz4_2 := cellS82_2 HGz4
    have hfz4_0 := bF HGz4 0
    have hfz4_1 := bF HGz4 1
    have hfz4_2 := bF HGz4 2
    clear HGz4 hgz4
    go_wp2
    go_ret3
    exact ⟨by first | rfl | (simp [*] <;> rfl), by repeat (first | (with_reducible first | exact HI0.out | apply IsS82.alloc | apply IsS82.drewN | apply IsS82.drew | apply IsS82.set_0 | apply IsS82.set_1 | apply IsS82.set_2) | exact HI0.out), by repeat (first | (with_reducible first | exact HB.out | apply pA | apply pN | apply p1 | refine pS ?_ (IsS82.ge HI0.out)) | exact HB.out), by repeat (first | (with_reducible first | exact HK.out | apply KeepBut.set_ | apply keep_drewN | apply keep_drew | apply keep_alloc) | exact HK.out)⟩
   ·rw [if_neg c3] at H
    have c3b0 : decide ((s0_0.size : Int) ≤ (wrap64 (a1 + x5_1))) = false := decide_eq_false c3
    clear c3
    obtain ⟨ji5, hji5⟩ : ∃ j_ : Int, (wrap64 (a1 + x5_1)) = j_ := ⟨_, rfl⟩
    replace H : (if 0 ≤ (ji5) then (if (ji5) < (s0_0.size : Int) then (if (wrap64 (x5_1 + 1)) = 10 then (wire_Reader_next.j1 k1 a1 x4_1 (wrap64 (x5_1 + 1)) x7_1 (bt s0_0 (ji5)) (decide ((bt s0_0 (ji5)) > 1)) s0_0 s0_1 s0_2) else (wire_Reader_next.j1 k1 a1 x4_1 (wrap64 (x5_1 + 1)) x7_1 (bt s0_0 (ji5)) false s0_0 s0_1 s0_2)) else (none)) else (none)) = some (r1, r2, r3, r4, r5, r6) := by first | (rw [hji5] at H; exact H) | (simp only [hji5] at H ⊢; exact H)
    (try rw [hji5] at c3b0)
    have hji5w : (IntKind.i64.wrap (a1 + x5_1)) = ji5 := (i64_w _).trans hji5
    by_cases c6 : 0 ≤ (ji5)
    ·rw [if_pos c6] at H
     have c6b0 : decide (0 ≤ (ji5)) = true := decide_eq_true c6
     clear c6
     by_cases c7 : (ji5) < (s0_0.size : Int)
     ·rw [if_pos c7] at H
      have c7b0 : decide ((ji5) < (s0_0.size : Int)) = true := decide_eq_true c7
      clear c7
      have HC9 := Aside0.mk H
      clear H
      obtain ⟨HGz10, hgz10⟩ := HI0.out
      have hcz10_0 := cellS82_0 HGz10
      have hcz10_1 := cellS82_1 HGz10
      have hcz10_2 := cellS82_2 HGz10
      have hfz10_0 := bF HGz10 0
      have hfz10_1 := bF HGz10 1
      have hfz10_2 := bF HGz10 2
      clear HGz10 hgz10
      have p8 : 0 ≤ ((ji5) : Int) := of_decide_eq_true (by first | (with_reducible assumption) | assumption)
      have q8 : (ji5) < (s0_0.size : Int) := of_decide_eq_true (by first | (with_reducible assumption) | assumption)
      have hx8 := bt_at s0_0 (ji5)
      replace p8 := eq_true p8
      replace q8 := eq_true q8
      go_upto_region 7 with (fail)
      go_cut [35] (fun v35 wc => ∃ (kq : Nat) (x35_8 : Bool), v35 = .bool x35_8 ∧ Aside0 (wire_Reader_next.j1 kq a1 x4_1 (wrap64 (x5_1 + 1)) x7_1 (bt s0_0 (ji5)) x35_8 s0_0 s0_1 s0_2 = some (r1, r2, r3, r4, r5, r6)) ∧ Aside0 (kq ≤ k1) ∧ Aside0 (IsS82 w0 wc g s0_0 s0_1 s0_2) ∧ Aside0 (KeepBut w wc g none) ∧ Aside0 (Below w0.heap.size w0 wc))
      case first =>
       have H := HC9.out
       clear HC9
       by_cases c11 : (wrap64 (x5_1 + 1)) = 10
       ·rw [if_pos c11] at H
        have c11b0 : ((wrap64 (x5_1 + 1)) == 10) = true := beq_iff_eq.mpr c11
        have c11b1 : ((wrap64 (x5_1 + 1)) != 10) = false := oD c11
        clear c11
        (first | rw [c11b0] | (simp only [i64_w, i32_w]; rw [c11b0]) | skip)
        have H' := Aside0.mk H
        clear H
        go_wp2
        go_meet
        case rel => exact ⟨_, (decide ((bt s0_0 (ji5)) > 1)), (by first | rfl | (simp; done) | (simp only [← hji5] <;> (first | rfl | simp)) | (simp [*]; done)), H', ⟨by have := HK1.out; first | omega | exact Nat.le_refl _⟩, ⟨by repeat (first | (with_reducible first | exact HI0.out | apply IsS82.alloc | apply IsS82.drewN | apply IsS82.drew | apply IsS82.set_0 | apply IsS82.set_1 | apply IsS82.set_2) | exact HI0.out)⟩, ⟨by repeat (first | (with_reducible first | exact HK.out | apply KeepBut.set_ | apply keep_drewN | apply keep_drew | apply keep_alloc) | exact HK.out)⟩, ⟨by repeat (first | (with_reducible first | exact HB.out | apply pA | apply pN | apply p1 | refine pS ?_ (IsS82.ge HI0.out)) | exact HB.out)⟩⟩
       ·rw [if_neg c11] at H
        have c11b0 : ((wrap64 (x5_1 + 1)) == 10) = false := oC c11
        have c11b1 : ((wrap64 (x5_1 + 1)) != 10) = true := bne_iff_ne.mpr c11
        (first | rw [c11b0] | (simp only [i64_w, i32_w]; rw [c11b0]) | skip)
        have H' := Aside0.mk H
        clear H
        go_wp2
        go_meet
        case rel => exact ⟨_, (false), (by first | rfl | (simp; done) | (simp [*]; done)), H', ⟨by have := HK1.out; first | omega | exact Nat.le_refl _⟩, ⟨by repeat (first | (with_reducible first | exact HI0.out | apply IsS82.alloc | apply IsS82.drewN | apply IsS82.drew | apply IsS82.set_0 | apply IsS82.set_1 | apply IsS82.set_2) | exact HI0.out)⟩, ⟨by repeat (first | (with_reducible first | exact HK.out | apply KeepBut.set_ | apply keep_drewN | apply keep_drew | apply keep_alloc) | exact HK.out)⟩, ⟨by repeat (first | (with_reducible first | exact HB.out | apply pA | apply pN | apply p1 | refine pS ?_ (IsS82.ge HI0.out)) | exact HB.out)⟩⟩
      case rest =>
       clear HC9
       try clear c1
       try clear p2
       try clear c3
       try clear c3b0
       try clear c6
       try clear c6b0
       try clear p6
       try clear c7
       try clear c7b0
       try clear p8
       try clear q8
       try clear hx8
       try clear c11
       try clear c11b0
       try clear c11b1
       try clear hcz10_0
       try clear hcz10_1
       try clear hcz10_2
       try clear hcz4_0
       try clear hcz4_1
       try clear hcz4_2
       try clear hfz10_0
       try clear hfz10_1
       try clear hfz10_2
       try clear hfz4_0
       try clear hfz4_1
       try clear hfz4_2
       try clear p2
       try clear p8
       try clear q8
       obtain ⟨kq, x35_8, rfl, HA, HJ8, HI0, HK, HB⟩ := hcut
       cases kq with
       | zero => exact absurd HA.out (by simp [wire_Reader_next.j1])
       | succ kj8 =>
        have H := HA.out
        clear HA
        simp only [wire_Reader_next.j1] at H
        by_cases c12 : x35_8 = true
        ·subst c12
         have H1 : (some (0, 0, 5, s0_0, s0_1, s0_2)) = some (r1, r2, r3, r4, r5, r6) := by rw [if_pos rfl] at H; exact H
         clear H
         have H := H1
         clear H1
         simp only [Option.some.injEq, Prod.mk.injEq] at H
         obtain ⟨rfl, rfl, rfl, rfl, rfl, rfl⟩ := H
         go_wp2
         go_ret3
         exact ⟨by first | rfl | (simp [errW_none, errW_some] <;> rfl) | (simp only [← hji5]; first | rfl | (simp [errW_none, errW_some] <;> rfl)) | (simp [*, errW_none, errW_some] <;> rfl), by repeat (first | (with_reducible first | exact HI0.out | apply IsS82.alloc | apply IsS82.drewN | apply IsS82.drew | apply IsS82.set_0 | apply IsS82.set_1 | apply IsS82.set_2) | exact HI0.out), by repeat (first | (with_reducible first | exact HB.out | apply pA | apply pN | apply p1 | refine pS ?_ (IsS82.ge HI0.out)) | exact HB.out), by repeat (first | (with_reducible first | exact HK.out | apply KeepBut.set_ | apply keep_drewN | apply keep_drew | apply keep_alloc) | exact HK.out)⟩
        ·replace c12 := Bool.eq_false_iff.mpr c12
         subst c12
         have H1 : (if 0 ≤ x7_1 then (if (bt s0_0 (ji5)) < 128 then (if (bt s0_0 (ji5)) = 0 then (if (wrap64 (x5_1 + 1)) > 1 then (some (0, 0, 5, s0_0, s0_1, s0_2)) else (some (Go.bits .or .u64 x4_1 (shl .u64 (IntKind.u64.wrap (Go.bits .and .u8 (bt s0_0 (ji5)) 127)) x7_1), (wrap64 (x5_1 + 1)), 0, s0_0, s0_1, s0_2))) else (some (Go.bits .or .u64 x4_1 (shl .u64 (IntKind.u64.wrap (Go.bits .and .u8 (bt s0_0 (ji5)) 127)) x7_1), (wrap64 (x5_1 + 1)), 0, s0_0, s0_1, s0_2))) else (wire_Reader_next.l0 kj8 a1 (Go.bits .or .u64 x4_1 (shl .u64 (IntKind.u64.wrap (Go.bits .and .u8 (bt s0_0 (ji5)) 127)) x7_1)) (wrap64 (x5_1 + 1)) (wrap64 (x7_1 + 7)) s0_0 s0_1 s0_2)) else (none)) = some (r1, r2, r3, r4, r5, r6) := by rw [if_neg (show ¬ (false = true) by decide)] at H; exact H
         clear H
         have H := H1
         clear H1
         by_cases c13 : 0 ≤ x7_1
         ·rw [if_pos c13] at H
          have c13b0 := eq_true c13
          have c13b1 : decide (0 ≤ x7_1) = true := decide_eq_true c13
          clear c13
          obtain ⟨ji14, hji14⟩ : ∃ j_ : Int, (shl .u64 (IntKind.u64.wrap (Go.bits .and .u8 (bt s0_0 (ji5)) 127)) x7_1) = j_ := ⟨_, rfl⟩
          replace H : (if (bt s0_0 (ji5)) < 128 then (if (bt s0_0 (ji5)) = 0 then (if (wrap64 (x5_1 + 1)) > 1 then (some (0, 0, 5, s0_0, s0_1, s0_2)) else (some (Go.bits .or .u64 x4_1 (ji14), (wrap64 (x5_1 + 1)), 0, s0_0, s0_1, s0_2))) else (some (Go.bits .or .u64 x4_1 (ji14), (wrap64 (x5_1 + 1)), 0, s0_0, s0_1, s0_2))) else (wire_Reader_next.l0 kj8 a1 (Go.bits .or .u64 x4_1 (ji14)) (wrap64 (x5_1 + 1)) (wrap64 (x7_1 + 7)) s0_0 s0_1 s0_2)) = some (r1, r2, r3, r4, r5, r6) := by first | (rw [hji14] at H; exact H) | (simp only [hji14] at H ⊢; exact H)
          have hji14_ : (IntKind.u64.wrap ((IntKind.u64.wrap (Go.bits .and .u8 (bt s0_0 (ji5)) 127)) * 2 ^ min x7_1.toNat 64)) = ji14 := hji14
          have hji14z : x7_1 ≤ 64 → (IntKind.u64.wrap ((IntKind.u64.wrap (Go.bits .and .u8 (bt s0_0 (ji5)) 127)) * 2 ^ x7_1.toNat)) = ji14 := shl_small hji14
          by_cases c15 : (bt s0_0 (ji5)) < 128
          ·rw [if_pos c15] at H
           have c15b0 : decide ((bt s0_0 (ji5)) < 128) = true := decide_eq_true c15
           clear c15
           by_cases c16 : (bt s0_0 (ji5)) = 0
           ·rw [if_pos c16] at H
            have c16b0 : ((bt s0_0 (ji5)) == 0) = true := beq_iff_eq.mpr c16
            have c16b1 : ((bt s0_0 (ji5)) != 0) = false := oD c16
            clear c16
            by_cases c17 : (wrap64 (x5_1 + 1)) > 1
            ·rw [if_pos c17] at H
             have c17b0 : decide (1 < (wrap64 (x5_1 + 1))) = true := decide_eq_true c17
             clear c17
             simp only [Option.some.injEq, Prod.mk.injEq] at H
             obtain ⟨rfl, rfl, rfl, rfl, rfl, rfl⟩ := H
             go_wp2
             go_ret3
             exact ⟨by first | rfl | (simp [errW_none, errW_some] <;> rfl) | (simp only [← hji5, ← hji14]; first | rfl | (simp [errW_none, errW_some] <;> rfl)) | (simp [*, errW_none, errW_some] <;> rfl), by repeat (first | (with_reducible first | exact HI0.out | apply IsS82.alloc | apply IsS82.drewN | apply IsS82.drew | apply IsS82.set_0 | apply IsS82.set_1 | apply IsS82.set_2) | exact HI0.out), by repeat (first | (with_reducible first | exact HB.out | apply pA | apply pN | apply p1 | refine pS ?_ (IsS82.ge HI0.out)) | exact HB.out), by repeat (first | (with_reducible first | exact HK.out | apply KeepBut.set_ | apply keep_drewN | apply keep_drew | apply keep_alloc) | exact HK.out)⟩
            ·rw [if_neg c17] at H
             have c17b0 : decide (1 < (wrap64 (x5_1 + 1))) = false := decide_eq_false c17
             clear c17
             simp only [Option.some.injEq, Prod.mk.injEq] at H
             obtain ⟨rfl, rfl, rfl, rfl, rfl, rfl⟩ := H
             go_wp2
             go_ret3
             exact ⟨by first | rfl | (simp [errW_none, errW_some] <;> rfl) | (simp only [← hji5, ← hji14]; first | rfl | (simp [errW_none, errW_some] <;> rfl)) | (simp [*, errW_none, errW_some] <;> rfl), by repeat (first | (with_reducible first | exact HI0.out | apply IsS82.alloc | apply IsS82.drewN | apply IsS82.drew | apply IsS82.set_0 | apply IsS82.set_1 | apply IsS82.set_2) | exact HI0.out), by repeat (first | (with_reducible first | exact HB.out | apply pA | apply pN | apply p1 | refine pS ?_ (IsS82.ge HI0.out)) | exact HB.out), by repeat (first | (with_reducible first | exact HK.out | apply KeepBut.set_ | apply keep_drewN | apply keep_drew | apply keep_alloc) | exact HK.out)⟩
           ·rw [if_neg c16] at H
            have c16b0 : ((bt s0_0 (ji5)) == 0) = false := oC c16
            have c16b1 : ((bt s0_0 (ji5)) != 0) = true := bne_iff_ne.mpr c16
            simp only [Option.some.injEq, Prod.mk.injEq] at H
            obtain ⟨rfl, rfl, rfl, rfl, rfl, rfl⟩ := H
            go_wp2
            go_ret3
            exact ⟨by first | rfl | (simp [errW_none, errW_some] <;> rfl) | (simp only [← hji5, ← hji14]; first | rfl | (simp [errW_none, errW_some] <;> rfl)) | (simp [*, errW_none, errW_some] <;> rfl), by repeat (first | (with_reducible first | exact HI0.out | apply IsS82.alloc | apply IsS82.drewN | apply IsS82.drew | apply IsS82.set_0 | apply IsS82.set_1 | apply IsS82.set_2) | exact HI0.out), by repeat (first | (with_reducible first | exact HB.out | apply pA | apply pN | apply p1 | refine pS ?_ (IsS82.ge HI0.out)) | exact HB.out), by repeat (first | (with_reducible first | exact HK.out | apply KeepBut.set_ | apply keep_drewN | apply keep_drew | apply keep_alloc) | exact HK.out)⟩
          ·rw [if_neg c15] at H
           have c15b0 : decide ((bt s0_0 (ji5)) < 128) = false := decide_eq_false c15
           clear c15
           have H' := Aside0.mk H
           clear H
           go_wp2
           go_roundg kj8
           case measure => have := HK1.out; have := HJ8.out; omega
           case rel => exact ⟨(Go.bits .or .u64 x4_1 (ji14)), ((wrap64 (x5_1 + 1))), (wrap64 (x7_1 + 7)), (by first | rfl | (simp; done) | (simp only [← hji14] <;> (first | rfl | simp)) | (simp [*]; done)), (by first | rfl | (simp; done) | (simp [*]; done)), (by first | rfl | (simp; done) | (simp [*]; done)), H', ⟨by have := HK1.out; have := HJ8.out; omega⟩, ⟨by repeat (first | (with_reducible first | exact HI0.out | apply IsS82.alloc | apply IsS82.drewN | apply IsS82.drew | apply IsS82.set_0 | apply IsS82.set_1 | apply IsS82.set_2) | exact HI0.out)⟩, ⟨by repeat (first | (with_reducible first | exact HK.out | apply KeepBut.set_ | apply keep_drewN | apply keep_drew | apply keep_alloc) | exact HK.out)⟩, ⟨by repeat (first | (with_reducible first | exact HB.out | apply pA | apply pN | apply p1 | refine pS ?_ (IsS82.ge HI0.out)) | exact HB.out)⟩⟩
         ·rw [if_neg c13] at H
          exact absurd H (by simp)
     ·rw [if_neg c7] at H
      exact absurd H (by simp)
    ·rw [if_neg c6] at H
     exact absurd H (by simp)
end Go.Proofs.YtbahagcidhmojaaDoor.PA
