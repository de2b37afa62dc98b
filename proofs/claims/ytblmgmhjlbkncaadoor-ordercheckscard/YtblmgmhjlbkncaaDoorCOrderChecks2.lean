/- Each Go function that the law reaches as a Lean function, and that its call comes to that function's answer. -/
import Derived.Test.YtblmgmhjlbkncaaDoorCOrderChecks1
import Derived.Test.YtblmgmhjlbkncaaDoorVOrderChecks
import Derived.Test.YtblmgmhjlbkncaaDoorProg
import Derived.Test.YtblmgmhjlbkncaaDoorShelf
import Derived.Below
import Derived.Deep.Draws
import Derived.Deep.AppendLies
import Derived.Maps.AppendAt
import Derived.OwnWalk
import Derived.Laws.BytesArg
import Derived.Laws.MakeOwn
import Derived.Laws.OwnMore
import Derived.Deep.OwnRows
import Derived.Tactics
import Derived.Lib.ConvBytes
import Derived.Laws.Slices
import Derived.WalkKit
import Derived.KernelRfl
import Derived.RowKit3
import Derived.Deep.LoopGhost
import Derived.Deep.QuietTactic
import Derived.BigQuiet
import Derived.WideLaws
import Derived.Deep.DeepCutAuto
import Derived.Deep.CutBlock
import Derived.Deep.RegionHeld3
import Derived.Laws.Rows
import Derived.Lib.AppendStr
import Derived.ArgAppend
import Derived.Laws.IdiomCopy
import Derived.OrdersHeld
import Derived.Laws.BitsLemmas
import Derived.RowKit
import Derived.LoopN
import Derived.Laws.EntriesVeiled
import Derived.LaidSub
import Derived.MakeChecks
import Derived.Lib.LaidTab
import Derived.Maps.OwnOps
import Derived.Maps.Views
import Derived.Maps.Keyed
import Derived.Shelf.SlicesQ.Load
import Derived.Laws.Tables
namespace Go.Proofs.YtblmgmhjlbkncaaDoor.PA
open Go.RowKit Go.Proofs.YtblmgmhjlbkncaaDoorW.PrintWords Go.Proofs.YtblmgmhjlbkncaaDoorW.PrintLast Go.Proofs.YtblmgmhjlbkncaaDoorW.PrintMore
attribute [local go_sem] max2_int min2_int max_two min_two max_three min_three max_four min_four
set_option linter.unusedVariables false
set_option linter.unusedSimpArgs false
def ident_Letter.l0 : Nat → ByteArray → Int → Int → Int → Option (Int)
 | 0, _, _, _, _ => none
 | k + 1, x0, x3, x6, x7 => if x7 < x6 then (if 0 ≤ x7 then (if x7 < (x0.size : Int) then (ident_Letter.l0 k x0 (Int.tmod (wrap64 (x3 + (wrap64 ((wrap64 ((Int.tmod x7 23) + 1)) * (wrap64 (bt x0 x7)))))) 23) x6 (wrap64 (x7 + 1))) else (none)) else (none)) else (some ((65 + ((x3) % 256)) % 256))
def ident_Letter.f (k : Nat) (a0 : ByteArray) : Option (Int) := ident_Letter.l0 k a0 0 (a0.size : Int) 0
set_option maxHeartbeats 8000000 in
set_option maxRecDepth 100000 in
theorem ident_Letter.calls (k : Nat) (a0 : ByteArray) (r : Int) (w : World) (h : ident_Letter.f k a0 = some r) :
  Calls Tryd.prog 90 #[.string a0] w fun e w' => e = .returned (.int .u8 r) ∧ Drawn0 w w' := by
 have H : (ident_Letter.l0 k a0 0 (a0.size : Int) 0) = some r := h
 clear h
 have H' := Aside0.mk H
 clear H
 go_enter Tryd.func90, Tryd.ntmps90
 go_wp2
 go_loopg [3, 7] k (fun kq v3 v7 w' => ∃ (x3_1 : Int) (x7_1 : Int), v3 = .int .i64 x3_1 ∧ v7 = .int .i64 x7_1 ∧ Aside0 (ident_Letter.l0 kq a0 x3_1 (a0.size : Int) x7_1 = some r) ∧ Aside0 (kq ≤ k) ∧ Drawn0 w w')
 case atStart => exact ⟨(0), (0), (by first | rfl | (simp; done) | (simp [*]; done)), (by first | rfl | (simp; done) | (simp [*]; done)), H', ⟨Nat.le_refl _⟩, by repeat (first | exact Drawn0.refl _ | apply Drawn0.step)⟩
 case round =>
  clear H'
  obtain ⟨x3_1, x7_1, rfl, rfl, HA, HK1, ⟨m1, rfl⟩⟩ := hrel
  cases gk with
  | zero => exact absurd HA.out (by simp [ident_Letter.l0])
  | succ k1 =>
   have H := HA.out
   clear HA
   simp only [ident_Letter.l0] at H
   by_cases c2 : x7_1 < (a0.size : Int)
   ·rw [if_pos c2] at H
    have c2b0 : decide (x7_1 < (a0.size : Int)) = true := decide_eq_true c2
    clear c2
    by_cases c3 : 0 ≤ x7_1
    ·rw [if_pos c3] at H
     have c3b0 : decide (0 ≤ x7_1) = true := decide_eq_true c3
     clear c3
     by_cases c4 : x7_1 < (a0.size : Int)
     ·rw [if_pos c4] at H
      have c4b0 : decide (x7_1 < (a0.size : Int)) = true := decide_eq_true c4
      clear c4
      have H' := Aside0.mk H
      clear H
      have p5 : 0 ≤ (x7_1 : Int) := of_decide_eq_true (by first | (with_reducible assumption) | assumption)
      have q5 : x7_1 < (a0.size : Int) := of_decide_eq_true (by first | (with_reducible assumption) | assumption)
      have hx5 := bt_at a0 x7_1
      replace p5 := eq_true p5
      replace q5 := eq_true q5
      go_wp2
      go_roundg k1
      case measure => have := HK1.out; omega
      case rel => exact ⟨(Int.tmod (wrap64 (x3_1 + (wrap64 ((wrap64 ((Int.tmod x7_1 23) + 1)) * (wrap64 (bt a0 x7_1)))))) 23), (wrap64 (x7_1 + 1)), (by first | rfl | (simp; done) | (simp [*]; done)), (by first | rfl | (simp; done) | (simp [*]; done)), H', ⟨by have := HK1.out; omega⟩, by repeat (first | exact Drawn0.refl _ | apply Drawn0.step)⟩
     ·rw [if_neg c4] at H
      exact absurd H (by simp)
    ·rw [if_neg c3] at H
     exact absurd H (by simp)
   ·rw [if_neg c2] at H
    have c2b0 : decide (x7_1 < (a0.size : Int)) = false := decide_eq_false c2
    clear c2
    obtain rfl := Option.some.inj H
    go_wp2
    go_ret
    exact ⟨by first | rfl | (simp; done) | (simp [*]; done), by repeat (first | exact Drawn0.refl _ | apply Drawn0.step)⟩
def ident_capital.f (a0 : Int) : Option (Bool) := if 65 ≤ a0 then (some (decide (a0 ≤ 90))) else (some false)
set_option maxHeartbeats 8000000 in
set_option maxRecDepth 100000 in
theorem ident_capital.calls (a0 : Int) (r : Bool) (w : World) (h : ident_capital.f a0 = some r) :
  Calls Tryd.prog 98 #[.int .u8 a0] w fun e w' => e = .returned (.bool r) ∧ Drawn0 w w' := by
 have H : (if 65 ≤ a0 then (some (decide (a0 ≤ 90))) else (some false)) = some r := h
 clear h
 by_cases c2 : 65 ≤ a0
 ·rw [if_pos c2] at H
  have c2b0 : decide (65 ≤ a0) = true := decide_eq_true c2
  clear c2
  obtain rfl := Option.some.inj H
  go_enter Tryd.func98, Tryd.ntmps98
  go_wp2
  go_ret
  exact ⟨by first | rfl | (simp; done) | (simp [*]; done), by repeat (first | exact Drawn0.refl _ | apply Drawn0.step)⟩
 ·rw [if_neg c2] at H
  have c2b0 : decide (65 ≤ a0) = false := decide_eq_false c2
  clear c2
  obtain rfl := Option.some.inj H
  go_enter Tryd.func98, Tryd.ntmps98
  go_wp2
  go_ret
  exact ⟨by first | rfl | (simp; done) | (simp [*]; done), by repeat (first | exact Drawn0.refl _ | apply Drawn0.step)⟩
set_option maxHeartbeats 1000000 in
set_option maxRecDepth 100000 in
theorem form_calls (w : World) : Calls Tryd.prog 89 #[] w fun e w' => e = .returned (.slice (some ⟨w.heap.size, 0, none⟩) 2 2) ∧ w' = w.alloc (.cells #[.int .i64 0, .int .i64 1, .func (.func 98) #[] #[], .int .i64 10, .int .i64 1, .int .i64 7, .func (.func 63) #[] #[], .int .i64 5] 117) := by
 go_enter Tryd.func89, Tryd.ntmps89
 go_wp2
 go_ret
 exact ⟨rfl, rfl⟩
def capB (c : Int) : Bool := decide (65 ≤ c ∧ c ≤ 90)
def digB (c : Int) : Bool := decide (48 ≤ c ∧ c ≤ 57)
theorem cap_calls (c : Int) (w : World) : Calls Tryd.prog 98 #[.int .u8 c] w fun e w' => e = .returned (.bool (capB c)) ∧ Drawn0 w w' :=
 ident_capital.calls c (capB c) w (by unfold ident_capital.f capB; split <;> simp [*])
theorem dig_calls (c : Int) (w : World) : Calls Tryd.prog 63 #[.int .u8 c] w fun e w' => e = .returned (.bool (digB c)) ∧ Drawn0 w w' :=
 ident_digit.calls c (digB c) w (by unfold ident_digit.f digB; split <;> simp [*])
theorem alloc_drewN (w : World) (n : Nat) (o : Obj) : (w.drewN n).alloc o = (w.alloc o).drewN n := rfl
theorem setCell_drewN (w : World) (n : Nat) (p : Addr) (v : Value) : (w.drewN n).setCell p v = (w.setCell p v).drewN n := by
 unfold World.setCell
 rfl
attribute [local go_sem] alloc_drewN setCell_drewN
theorem quiet_of_drawn {P : Program} {f : Nat} {args : Array Value} {w : World} {v : Value} (h : Calls P f args w fun e w' => e = .returned v ∧ Drawn0 w w') : Calls P f args w fun e w' => e = .returned v ∧ ∃ n, w' = w.drewN n :=
 h.mono fun _ _ ⟨he, hd⟩ => ⟨he, hd.out⟩
set_option maxHeartbeats 1000000 in
set_option maxRecDepth 100000 in
theorem split_short (a0 : ByteArray) (w : World) (h : ((a0.size : Int) != 8) = true) :
  Calls Tryd.prog 62 #[.string a0] w fun e w' => e = .returned (.tuple #[.int .u8 0, .int .i64 0, .int .i64 3]) ∧ w' = w := by
 go_enter Tryd.func62, Tryd.ntmps62
 go_wp2
 go_ret3
 exact ⟨rfl, rfl⟩
set_option maxHeartbeats 1000000 in
set_option maxRecDepth 100000 in
theorem split_nocap (a0 : ByteArray) (w : World) (h8 : a0.size = 8) (hc : capB (bt a0 0) = false) :
  Calls Tryd.prog 62 #[.string a0] w fun e w' => e = .returned (.tuple #[.int .u8 0, .int .i64 0, .int .i64 10]) ∧ Below w.heap.size w w' := by
 have h : ((a0.size : Int) != 8) = false := by rw [h8]; rfl
 have hx0 : ∀ h : 0 < a0.size, ((a0[0]'h).toNat : Int) = bt a0 0 := bt_at a0 0
 have hq : 0 < a0.size := by omega
 have HC := Aside0.mk hc
 clear hc h8
 have huF := Tryd.underlying117
 go_enter Tryd.func62, Tryd.ntmps62
 go_wp2_with (go_at_call 89; refine (form_calls _).mono ?_; rintro e w' ⟨rfl, rfl⟩)
 refine wp_loop_rounds 1 ?_
 rw [rounds_succ]
 go_wp2
 refine wp_loop_rounds 1 ?_
 rw [rounds_succ]
 go_wp2
 go_quiet ((go_at_call 98; (try simp only [hx0]); exact Calls.quiet_of (quiet_of_drawn (cap_calls _ _))))
 rw [HC.out]
 go_wp2
 go_quiet (fail)
 go_wp2
 go_ret3
 exact ⟨rfl, by repeat (first | exact Below.refl _ _ | apply pA | apply pN | apply below_drew)⟩
def allDig (a0 : ByteArray) : Bool := (List.range 6).all fun i => digB (bt a0 ((i + 1 : Nat) : Int))
theorem allDig_false (a0 : ByteArray) (k : Nat) (h1 : 1 ≤ k) (h2 : k < 7) (h : digB (bt a0 k) = false) : allDig a0 = false := by
 rw [allDig, List.all_eq_false]
 refine ⟨k - 1, by simp; omega, ?_⟩
 rw [Nat.sub_add_cancel h1, h]
 simp
theorem allDig_true (a0 : ByteArray) (h : ∀ j : Nat, 1 ≤ j → j < 7 → digB (bt a0 j) = true) : allDig a0 = true := by
 rw [allDig, List.all_eq_true]
 intro i hi
 exact h (i + 1) (by omega) (by simp at hi; omega)
def codeNum (s : ByteArray) : Int := 100000 * (bt s 1 - 48) + 10000 * (bt s 2 - 48) + 1000 * (bt s 3 - 48) + 100 * (bt s 4 - 48) + 10 * (bt s 5 - 48) + (bt s 6 - 48)
theorem dig_val (b : UInt8) (h : digB (b.toNat : Int) = true) : Lib.digitVal b = some (b.toNat - 48) ∧ 48 ≤ b.toNat ∧ b ≠ 45 ∧ b ≠ 43 := by
 have h' : 48 ≤ b.toNat ∧ b.toNat ≤ 57 := by simp [digB] at h; omega
 refine ⟨?_, h'.1, ?_, ?_⟩
 ·unfold Lib.digitVal
  rw [if_pos h']
 ·rintro rfl
  simp at h'
 ·rintro rfl
  simp at h'
theorem atoi_code (s : ByteArray) (h8 : s.size = 8) (h : allDig s = true) : (s.extract 1 7).size ≤ 18 ∧ Lib.atoi (s.extract 1 7).data.toList = some (codeNum s) := by
 obtain ⟨⟨l⟩⟩ := s
 match l, h8, h with
 | [b0, b1, b2, b3, b4, b5, b6, b7], _, h =>
  have h' : (digB (b1.toNat : Int) && (digB (b2.toNat : Int) && (digB (b3.toNat : Int) && (digB (b4.toNat : Int) && (digB (b5.toNat : Int) && (digB (b6.toNat : Int) && true)))))) = true := h
  simp only [Bool.and_eq_true, and_true] at h'
  obtain ⟨h1, h2, h3, h4, h5, h6⟩ := h'
  have e : (ByteArray.extract ⟨⟨[b0, b1, b2, b3, b4, b5, b6, b7]⟩⟩ 1 7).data.toList = [b1, b2, b3, b4, b5, b6] := by
   rw [Lib.extract_data]
   simp
  refine ⟨by rw [Lib.size_eq, e]; simp, ?_⟩
  rw [e]
  obtain ⟨v1, g1, n1, m1⟩ := dig_val b1 h1
  obtain ⟨v2, g2, -, -⟩ := dig_val b2 h2
  obtain ⟨v3, g3, -, -⟩ := dig_val b3 h3
  obtain ⟨v4, g4, -, -⟩ := dig_val b4 h4
  obtain ⟨v5, g5, -, -⟩ := dig_val b5 h5
  obtain ⟨v6, g6, -, -⟩ := dig_val b6 h6
  have c : codeNum ⟨⟨[b0, b1, b2, b3, b4, b5, b6, b7]⟩⟩ = 100000 * ((b1.toNat : Int) - 48) + 10000 * ((b2.toNat : Int) - 48) + 1000 * ((b3.toNat : Int) - 48) + 100 * ((b4.toNat : Int) - 48) + 10 * ((b5.toNat : Int) - 48) + ((b6.toNat : Int) - 48) := rfl
  rw [c]
  simp only [Lib.atoi, beq_iff_eq, n1, m1, if_false, Lib.decNat, List.isEmpty_cons, Lib.decFrom, v1, v2, v3, v4, v5, v6, Bool.false_eq_true, Option.map_some, Option.some.injEq]
  omega
def splitRes (a0 : ByteArray) (t : Int) : Int × Int × Int :=
 if allDig a0 = true then (if t = bt a0 7 then (bt a0 0, codeNum a0, 0) else (0, 0, 16)) else (0, 0, 5)
def SplitPost (a0 : ByteArray) (t : Int) (w : World) (e : Ending) (w' : World) : Prop :=
 e = .returned (.tuple #[.int .u8 (splitRes a0 t).1, .int .i64 (splitRes a0 t).2.1, .int .i64 (splitRes a0 t).2.2]) ∧ Below w.heap.size w w'
theorem splitPost_of {a0 : ByteArray} {t : Int} {w w' : World} {e : Ending} (x y z : Int) (he : e = .returned (.tuple #[.int .u8 x, .int .i64 y, .int .i64 z])) (hr : splitRes a0 t = (x, y, z)) (hb : Below w.heap.size w w') : SplitPost a0 t w e w' := by
 unfold SplitPost
 rw [hr]
 exact ⟨he, hb⟩
set_option maxHeartbeats 2000000 in
set_option maxRecDepth 100000 in
theorem split_main (k : Nat) (a0 : ByteArray) (t : Int) (w : World) (h8 : a0.size = 8) (hc : capB (bt a0 0) = true) (hL : allDig a0 = true → ident_Letter.f k (a0.extract 0 7) = some t) :
  Calls Tryd.prog 62 #[.string a0] w (SplitPost a0 t w) := by
 have h : ((a0.size : Int) != 8) = false := by rw [h8]; rfl
 have HX0 := q_ (show ∀ h : 0 < a0.size, ((a0[0]'h).toNat : Int) = bt a0 0 from bt_at a0 0)
 have HX1 := q_ (show ∀ h : 1 < a0.size, ((a0[1]'h).toNat : Int) = bt a0 1 from bt_at a0 1)
 have HX2 := q_ (show ∀ h : 2 < a0.size, ((a0[2]'h).toNat : Int) = bt a0 2 from bt_at a0 2)
 have HX3 := q_ (show ∀ h : 3 < a0.size, ((a0[3]'h).toNat : Int) = bt a0 3 from bt_at a0 3)
 have HX4 := q_ (show ∀ h : 4 < a0.size, ((a0[4]'h).toNat : Int) = bt a0 4 from bt_at a0 4)
 have HX5 := q_ (show ∀ h : 5 < a0.size, ((a0[5]'h).toNat : Int) = bt a0 5 from bt_at a0 5)
 have HX6 := q_ (show ∀ h : 6 < a0.size, ((a0[6]'h).toNat : Int) = bt a0 6 from bt_at a0 6)
 have HX7 := q_ (show ∀ h : 7 < a0.size, ((a0[7]'h).toNat : Int) = bt a0 7 from bt_at a0 7)
 have hq0 : 0 < a0.size := by omega
 have hq1 : 1 < a0.size := by omega
 have hq2 : 2 < a0.size := by omega
 have hq3 : 3 < a0.size := by omega
 have hq4 : 4 < a0.size := by omega
 have hq5 : 5 < a0.size := by omega
 have hq6 : 6 < a0.size := by omega
 have hq7 : 7 < a0.size := by omega
 have hz1 : (1 : Int) < (a0.size : Int) := by omega
 have hz2 : (2 : Int) < (a0.size : Int) := by omega
 have hz3 : (3 : Int) < (a0.size : Int) := by omega
 have hz4 : (4 : Int) < (a0.size : Int) := by omega
 have hz5 : (5 : Int) < (a0.size : Int) := by omega
 have hz6 : (6 : Int) < (a0.size : Int) := by omega
 have hz7 : (7 : Int) < (a0.size : Int) := by omega
 have H8 := Aside0.mk h8
 have HC := Aside0.mk hc
 have HLL := Aside0.mk hL
 clear hc h8 hL
 have huF := Tryd.underlying117
 go_enter Tryd.func62, Tryd.ntmps62
 go_wp2_with (go_at_call 89; refine (form_calls _).mono ?_; rintro e w' ⟨rfl, rfl⟩)
 refine wp_loop_rounds 3 ?_
 rw [rounds_succ]
 go_wp2
 refine wp_loop_rounds 2 ?_
 rw [rounds_succ]
 go_wp2
 go_quiet ((go_at_call 98; (try simp only [HX0.out]); exact Calls.quiet_of (quiet_of_drawn (cap_calls _ _))))
 rw [HC.out]
 go_wp2
 rw [rounds_succ]
 go_wp2
 rw [rounds_succ]
 go_wp2
 generalize hW : World.drewN _ _ = W1
 have hc1 : W1.cell? ⟨w.heap.size + 1 + 1, 1, none⟩ = some (.int .i64 7) := by rw [← hW]; clear hW; go_simp
 have hc2 : W1.cell? ⟨w.heap.size + 1 + 1, 2, none⟩ = some (.func (.func 63) #[] #[]) := by rw [← hW]; clear hW; go_simp
 have hc3 : W1.cell? ⟨w.heap.size + 1 + 1, 3, none⟩ = some (.int .i64 5) := by rw [← hW]; clear hW; go_simp
 have hb1 : Below w.heap.size w W1 := by rw [← hW]; repeat (first | exact Below.refl _ _ | apply pA | apply pN)
 have HB1 := Aside0.mk hb1
 clear hW hb1
 refine wp_loop_rounds 7 ?_
 rw [rounds_succ]
 go_wp2
 go_quiet ((go_at_call 63; (try simp only [HX1.out]); exact Calls.quiet_of (quiet_of_drawn (dig_calls _ _))))
 cases hd1 : digB (bt a0 1)
 ·have HD := Aside0.mk hd1
  clear hd1
  go_wp2
  go_quiet (fail)
  go_wp2
  go_ret3
  exact splitPost_of 0 0 5 rfl (by unfold splitRes; rw [allDig_false a0 1 (by omega) (by omega) HD.out]; rfl) (by repeat (first | exact HB1.out | apply pA | apply pN | apply below_drew))
 have HD1 := Aside0.mk hd1
 clear hd1
 go_wp2
 generalize hW : World.drewN W1 _ = W2
 replace hc1 : W2.cell? ⟨w.heap.size + 1 + 1, 1, none⟩ = some (.int .i64 7) := by rw [← hW]; exact hc1
 replace hc2 : W2.cell? ⟨w.heap.size + 1 + 1, 2, none⟩ = some (.func (.func 63) #[] #[]) := by rw [← hW]; exact hc2
 replace hc3 : W2.cell? ⟨w.heap.size + 1 + 1, 3, none⟩ = some (.int .i64 5) := by rw [← hW]; exact hc3
 replace HB1 : Aside0 (Below w.heap.size w W2) := by rw [← hW]; exact q_ (pN HB1.out _)
 clear hW
 rw [rounds_succ]
 go_wp2
 go_quiet ((go_at_call 63; (try simp only [HX2.out]); exact Calls.quiet_of (quiet_of_drawn (dig_calls _ _))))
 cases hd2 : digB (bt a0 2)
 ·have HD := Aside0.mk hd2
  clear hd2
  go_wp2
  go_quiet (fail)
  go_wp2
  go_ret3
  exact splitPost_of 0 0 5 rfl (by unfold splitRes; rw [allDig_false a0 2 (by omega) (by omega) HD.out]; rfl) (by repeat (first | exact HB1.out | apply pA | apply pN | apply below_drew))
 have HD2 := Aside0.mk hd2
 clear hd2
 go_wp2
 generalize hW : World.drewN W2 _ = W3
 replace hc1 : W3.cell? ⟨w.heap.size + 1 + 1, 1, none⟩ = some (.int .i64 7) := by rw [← hW]; exact hc1
 replace hc2 : W3.cell? ⟨w.heap.size + 1 + 1, 2, none⟩ = some (.func (.func 63) #[] #[]) := by rw [← hW]; exact hc2
 replace hc3 : W3.cell? ⟨w.heap.size + 1 + 1, 3, none⟩ = some (.int .i64 5) := by rw [← hW]; exact hc3
 replace HB1 : Aside0 (Below w.heap.size w W3) := by rw [← hW]; exact q_ (pN HB1.out _)
 clear hW
 rw [rounds_succ]
 go_wp2
 go_quiet ((go_at_call 63; (try simp only [HX3.out]); exact Calls.quiet_of (quiet_of_drawn (dig_calls _ _))))
 cases hd3 : digB (bt a0 3)
 ·have HD := Aside0.mk hd3
  clear hd3
  go_wp2
  go_quiet (fail)
  go_wp2
  go_ret3
  exact splitPost_of 0 0 5 rfl (by unfold splitRes; rw [allDig_false a0 3 (by omega) (by omega) HD.out]; rfl) (by repeat (first | exact HB1.out | apply pA | apply pN | apply below_drew))
 have HD3 := Aside0.mk hd3
 clear hd3
 go_wp2
 generalize hW : World.drewN W3 _ = W4
 replace hc1 : W4.cell? ⟨w.heap.size + 1 + 1, 1, none⟩ = some (.int .i64 7) := by rw [← hW]; exact hc1
 replace hc2 : W4.cell? ⟨w.heap.size + 1 + 1, 2, none⟩ = some (.func (.func 63) #[] #[]) := by rw [← hW]; exact hc2
 replace hc3 : W4.cell? ⟨w.heap.size + 1 + 1, 3, none⟩ = some (.int .i64 5) := by rw [← hW]; exact hc3
 replace HB1 : Aside0 (Below w.heap.size w W4) := by rw [← hW]; exact q_ (pN HB1.out _)
 clear hW
 rw [rounds_succ]
 go_wp2
 go_quiet ((go_at_call 63; (try simp only [HX4.out]); exact Calls.quiet_of (quiet_of_drawn (dig_calls _ _))))
 cases hd4 : digB (bt a0 4)
 ·have HD := Aside0.mk hd4
  clear hd4
  go_wp2
  go_quiet (fail)
  go_wp2
  go_ret3
  exact splitPost_of 0 0 5 rfl (by unfold splitRes; rw [allDig_false a0 4 (by omega) (by omega) HD.out]; rfl) (by repeat (first | exact HB1.out | apply pA | apply pN | apply below_drew))
 have HD4 := Aside0.mk hd4
 clear hd4
 go_wp2
 generalize hW : World.drewN W4 _ = W5
 replace hc1 : W5.cell? ⟨w.heap.size + 1 + 1, 1, none⟩ = some (.int .i64 7) := by rw [← hW]; exact hc1
 replace hc2 : W5.cell? ⟨w.heap.size + 1 + 1, 2, none⟩ = some (.func (.func 63) #[] #[]) := by rw [← hW]; exact hc2
 replace hc3 : W5.cell? ⟨w.heap.size + 1 + 1, 3, none⟩ = some (.int .i64 5) := by rw [← hW]; exact hc3
 replace HB1 : Aside0 (Below w.heap.size w W5) := by rw [← hW]; exact q_ (pN HB1.out _)
 clear hW
 rw [rounds_succ]
 go_wp2
 go_quiet ((go_at_call 63; (try simp only [HX5.out]); exact Calls.quiet_of (quiet_of_drawn (dig_calls _ _))))
 cases hd5 : digB (bt a0 5)
 ·have HD := Aside0.mk hd5
  clear hd5
  go_wp2
  go_quiet (fail)
  go_wp2
  go_ret3
  exact splitPost_of 0 0 5 rfl (by unfold splitRes; rw [allDig_false a0 5 (by omega) (by omega) HD.out]; rfl) (by repeat (first | exact HB1.out | apply pA | apply pN | apply below_drew))
 have HD5 := Aside0.mk hd5
 clear hd5
 go_wp2
 generalize hW : World.drewN W5 _ = W6
 replace hc1 : W6.cell? ⟨w.heap.size + 1 + 1, 1, none⟩ = some (.int .i64 7) := by rw [← hW]; exact hc1
 replace hc2 : W6.cell? ⟨w.heap.size + 1 + 1, 2, none⟩ = some (.func (.func 63) #[] #[]) := by rw [← hW]; exact hc2
 replace hc3 : W6.cell? ⟨w.heap.size + 1 + 1, 3, none⟩ = some (.int .i64 5) := by rw [← hW]; exact hc3
 replace HB1 : Aside0 (Below w.heap.size w W6) := by rw [← hW]; exact q_ (pN HB1.out _)
 clear hW
 rw [rounds_succ]
 go_wp2
 go_quiet ((go_at_call 63; (try simp only [HX6.out]); exact Calls.quiet_of (quiet_of_drawn (dig_calls _ _))))
 cases hd6 : digB (bt a0 6)
 ·have HD := Aside0.mk hd6
  clear hd6
  go_wp2
  go_quiet (fail)
  go_wp2
  go_ret3
  exact splitPost_of 0 0 5 rfl (by unfold splitRes; rw [allDig_false a0 6 (by omega) (by omega) HD.out]; rfl) (by repeat (first | exact HB1.out | apply pA | apply pN | apply below_drew))
 have HD6 := Aside0.mk hd6
 clear hd6
 go_wp2
 generalize hW : World.drewN W6 _ = W7
 replace hc1 : W7.cell? ⟨w.heap.size + 1 + 1, 1, none⟩ = some (.int .i64 7) := by rw [← hW]; exact hc1
 replace hc2 : W7.cell? ⟨w.heap.size + 1 + 1, 2, none⟩ = some (.func (.func 63) #[] #[]) := by rw [← hW]; exact hc2
 replace hc3 : W7.cell? ⟨w.heap.size + 1 + 1, 3, none⟩ = some (.int .i64 5) := by rw [← hW]; exact hc3
 replace HB1 : Aside0 (Below w.heap.size w W7) := by rw [← hW]; exact q_ (pN HB1.out _)
 clear hW
 rw [rounds_succ]
 go_wp2
 rw [rounds_succ]
 go_wp2
 have hall : allDig a0 = true := by
  show (digB (bt a0 1) && (digB (bt a0 2) && (digB (bt a0 3) && (digB (bt a0 4) && (digB (bt a0 5) && (digB (bt a0 6) && true)))))) = true
  rw [HD1.out, HD2.out, HD3.out, HD4.out, HD5.out, HD6.out]
  rfl
 have HL := q_ (HLL.out hall)
 have HALL := Aside0.mk hall
 clear hall
 go_quiet ((go_at_call 90; exact Calls.quiet_of (quiet_of_drawn (ident_Letter.calls k _ t _ HL.out))))
 rw [HX7.out hq7]
 by_cases ht : t = bt a0 7
 ·have hb : (t != bt a0 7) = false := oD ht
  have HR := q_ (show splitRes a0 t = (bt a0 0, codeNum a0, 0) by unfold splitRes; rw [if_pos HALL.out, if_pos ht])
  have hle7 : (7 : Int) ≤ (a0.size : Int) := by omega
  have hle7n : 7 ≤ a0.size := by omega
  have HAT := q_ (atoi_code a0 H8.out HALL.out)
  clear ht
  rw [hb]
  clear hb
  go_wp2_with (go_at_call 91; refine (Tryd.strconv_Atoi _ _ HAT.out.1 HAT.out.2 _).mono ?_; rintro e w' ⟨rfl, ⟨tb, rfl⟩⟩)
  rw [HX0.out hq0]
  go_ret3
  exact splitPost_of _ _ _ rfl HR.out (bytes_below (by repeat (first | exact HB1.out | apply pA | apply pN | apply below_drew)) (pZ (by repeat (first | exact HB1.out | apply pA | apply pN | apply below_drew))) _ _)
 ·have hb : (t != bt a0 7) = true := bne_iff_ne.mpr ht
  have HR := q_ (show splitRes a0 t = (0, 0, 16) by unfold splitRes; rw [if_pos HALL.out, if_neg ht])
  clear ht
  rw [hb]
  clear hb
  go_wp2
  go_ret3
  exact splitPost_of _ _ _ rfl HR.out (by repeat (first | exact HB1.out | apply pA | apply pN | apply below_drew))
def ident_Split.f (k : Nat) (a0 : ByteArray) : Option (Int × Int × Int) :=
 if (a0.size : Int) = 8 then
  (if capB (bt a0 0) = true then (if allDig a0 = true then (ident_Letter.f k (a0.extract 0 7)).bind fun t => some (splitRes a0 t) else some (0, 0, 5)) else some (0, 0, 10))
 else some (0, 0, 3)
theorem ident_Split.calls (k : Nat) (a0 : ByteArray) (r1 r2 r3 : Int) (w : World) (h : ident_Split.f k a0 = some (r1, r2, r3)) :
  Calls Tryd.prog 62 #[.string a0] w fun e w' => e = .returned (.tuple #[.int .u8 r1, .int .i64 r2, .int .i64 r3]) ∧ Below w.heap.size w w' := by
 unfold ident_Split.f at h
 by_cases h8 : (a0.size : Int) = 8
 ·rw [if_pos h8] at h
  by_cases hc : capB (bt a0 0) = true
  ·rw [if_pos hc] at h
   by_cases hd : allDig a0 = true
   ·rw [if_pos hd] at h
    obtain ⟨t, ht, h⟩ := oB h
    have h := Option.some.inj h
    refine (split_main k a0 t w (by omega) hc (fun _ => ht)).mono ?_
    rintro e w' ⟨he, hb⟩
    rw [h] at he
    exact ⟨he, hb⟩
   ·rw [if_neg hd] at h
    have h := Option.some.inj h
    refine (split_main k a0 0 w (by omega) hc (fun hh => absurd hh hd)).mono ?_
    rintro e w' ⟨he, hb⟩
    have hr : splitRes a0 0 = (0, 0, 5) := by unfold splitRes; rw [if_neg hd]
    rw [hr, h] at he
    exact ⟨he, hb⟩
  ·rw [if_neg hc] at h
   have h := Option.some.inj h
   refine (split_nocap a0 w (by omega) (by simpa using hc)).mono ?_
   rintro e w' ⟨he, hb⟩
   simp only [Prod.mk.injEq] at h
   obtain ⟨rfl, rfl, rfl⟩ := h
   exact ⟨he, hb⟩
 ·rw [if_neg h8] at h
  have h := Option.some.inj h
  refine (split_short a0 w (bne_iff_ne.mpr h8)).mono ?_
  rintro e w' ⟨he, rfl⟩
  simp only [Prod.mk.injEq] at h
  obtain ⟨rfl, rfl, rfl⟩ := h
  exact ⟨he, Below.refl _ _⟩
def ident_Is.f (k : Nat) (a0 : ByteArray) (a1 : Int) : Option (Bool) := (ident_Split.f k a0).bind fun bt131 => (if bt131.2.2 = 0 then (some (bt131.1 == a1)) else (some false))
set_option maxHeartbeats 8000000 in
set_option maxRecDepth 100000 in
theorem ident_Is.calls (k : Nat) (a0 : ByteArray) (a1 : Int) (r : Bool) (w : World) (h : ident_Is.f k a0 a1 = some r) :
  Calls Tryd.prog 28 #[.string a0, .int .u8 a1] w fun e w' => e = .returned (.bool r) ∧ Below w.heap.size w w' := by
 have HB := q_ (Below.refl w.heap.size w)
 have H : ((ident_Split.f k a0).bind fun bt131 => (if bt131.2.2 = 0 then (some (bt131.1 == a1)) else (some false))) = some r := h
 clear h
 replace H := oB H
 obtain ⟨⟨t131, t132, t133⟩, A30, H⟩ := H
 replace H : (if t133 = 0 then (some (t131 == a1)) else (some false)) = some r := H
 have A3 := Aside0.mk A30
 clear A30
 by_cases c4 : t133 = 0
 ·rw [if_pos c4] at H
  have c4b0 : (t133 == 0) = true := beq_iff_eq.mpr c4
  have c4b1 : (t133 != 0) = false := oD c4
  clear c4
  obtain rfl := Option.some.inj H
  go_enter Tryd.func28, Tryd.ntmps28
  go_wp2_with (first | ((with_reducible refine gate_callee (f := 62) rfl ?_); refine goesL_ (some 10) rfl rfl Tryd.func62 (by kernel_rfl) rfl #[.string a0] rfl (by first | rfl | (simp only [List.map_toArray]; rfl)) ?_; (with_reducible refine (ident_Split.calls k a0 t131 t132 t133 _ A3.out).mono ?_); rintro e w5 ⟨rfl, hb⟩; refine ⟨_, rfl, ?_⟩; have n0_ := q_ (pT (by repeat (first | (with_reducible first | exact HB.out | apply pA | apply pN | apply p1) | exact HB.out)) hb); clear HB; have HB := n0_; clear n0_; (try clear hb); (try clear hb2); (try clear hk); (try clear hi)))
  go_ret
  exact ⟨by first | rfl | (simp [*] <;> rfl), by repeat (first | (with_reducible first | exact HB.out | apply pA | apply pN | apply p1) | exact HB.out)⟩
 ·rw [if_neg c4] at H
  have c4b0 : (t133 == 0) = false := oC c4
  have c4b1 : (t133 != 0) = true := bne_iff_ne.mpr c4
  obtain rfl := Option.some.inj H
  go_enter Tryd.func28, Tryd.ntmps28
  go_wp2_with (first | ((with_reducible refine gate_callee (f := 62) rfl ?_); refine goesL_ (some 10) rfl rfl Tryd.func62 (by kernel_rfl) rfl #[.string a0] rfl (by first | rfl | (simp only [List.map_toArray]; rfl)) ?_; (with_reducible refine (ident_Split.calls k a0 t131 t132 t133 _ A3.out).mono ?_); rintro e w6 ⟨rfl, hb⟩; refine ⟨_, rfl, ?_⟩; have n0_ := q_ (pT (by repeat (first | (with_reducible first | exact HB.out | apply pA | apply pN | apply p1) | exact HB.out)) hb); clear HB; have HB := n0_; clear n0_; (try clear hb); (try clear hb2); (try clear hk); (try clear hi)))
  go_ret
  exact ⟨by first | rfl | (simp [*] <;> rfl), by repeat (first | (with_reducible first | exact HB.out | apply pA | apply pN | apply p1) | exact HB.out)⟩
def slices_Index_int_int.l0 : Nat → List Int → Int → Int → Int → Option (Int)
 | 0, _, _, _, _ => none
 | k + 1, x0, x1, x7, x8 => if x8 < x7 then (if 0 ≤ x8 then (if x8 < (x0.length : Int) then (if x1 = (rd x0 x8) then (some x8) else (slices_Index_int_int.l0 k x0 x1 x7 (wrap64 (x8 + 1)))) else (none)) else (none)) else (some (-1))
def slices_Index_int_int.f (k : Nat) (l0 : List Int) (a1 : Int) : Option (Int) := slices_Index_int_int.l0 k l0 a1 (l0.length : Int) 0
set_option maxHeartbeats 8000000 in
set_option maxRecDepth 100000 in
theorem slices_Index_int_int.calls (k : Nat) (A0 : Option Addr) (c0 : Nat) (l0 : List Int) (a1 : Int) (r : Int) (w : World) (hr0 : Kd.C (Kd.int .i64) w A0 l0.length l0) (hc0 : l0.length ≤ c0) (h : slices_Index_int_int.f k l0 a1 = some r) :
  Calls Tryd.prog 64 #[.slice A0 l0.length c0, .int .i64 a1] w fun e w' => e = .returned (.int .i64 r) ∧ Drawn0 w w' := by
 have HR0 := Aside0.mk hr0
 have HC0 := Aside0.mk hc0
 clear hr0 hc0
 have H : (slices_Index_int_int.l0 k l0 a1 (l0.length : Int) 0) = some r := h
 clear h
 have H' := Aside0.mk H
 clear H
 go_enter Tryd.func64, Tryd.ntmps64
 go_wp2
 go_loopg [8] k (fun kq v8 w' => ∃ (x8_1 : Int), v8 = .int .i64 x8_1 ∧ Aside0 (slices_Index_int_int.l0 kq l0 a1 (l0.length : Int) x8_1 = some r) ∧ Aside0 (kq ≤ k) ∧ Drawn0 w w')
 case atStart => exact ⟨(0), (by first | rfl | (simp; done) | (simp [*]; done)), H', ⟨Nat.le_refl _⟩, by repeat (first | exact Drawn0.refl _ | apply Drawn0.step)⟩
 case round =>
  clear H'
  try clear p2
  obtain ⟨x8_1, rfl, HA, HK1, ⟨m1, rfl⟩⟩ := hrel
  cases gk with
  | zero => exact absurd HA.out (by simp [slices_Index_int_int.l0])
  | succ k1 =>
   have H := HA.out
   clear HA
   simp only [slices_Index_int_int.l0] at H
   by_cases c3 : x8_1 < (l0.length : Int)
   ·rw [if_pos c3] at H
    have c3b0 : decide (x8_1 < (l0.length : Int)) = true := decide_eq_true c3
    clear c3
    by_cases c4 : 0 ≤ x8_1
    ·rw [if_pos c4] at H
     have c4b0 : decide (0 ≤ x8_1) = true := decide_eq_true c4
     clear c4
     by_cases c5 : x8_1 < (l0.length : Int)
     ·rw [if_pos c5] at H
      have c5b0 : decide (x8_1 < (l0.length : Int)) = true := decide_eq_true c5
      clear c5
      by_cases c6 : a1 = (rd l0 x8_1)
      ·rw [if_pos c6] at H
       have c6b0 : (a1 == (rd l0 x8_1)) = true := beq_iff_eq.mpr c6
       have c6b1 : (a1 != (rd l0 x8_1)) = false := oD c6
       clear c6
       obtain rfl := Option.some.inj H
       have p134 : 0 ≤ (x8_1 : Int) := of_decide_eq_true (by first | (with_reducible assumption) | assumption)
       have q134 : x8_1 < (l0.length : Int) := of_decide_eq_true (by first | (with_reducible assumption) | assumption)
       obtain ⟨ad134, e134, hx134_0⟩ := Kd.at_int HR0.out x8_1 p134 q134
       cases e134
       replace p134 := eq_true p134
       replace q134 := eq_true q134
       go_wp2
       go_ret
       exact ⟨by first | rfl | (simp; done) | (simp [*]; done), by repeat (first | exact Drawn0.refl _ | apply Drawn0.step)⟩
      ·rw [if_neg c6] at H
       have c6b0 : (a1 == (rd l0 x8_1)) = false := oC c6
       have c6b1 : (a1 != (rd l0 x8_1)) = true := bne_iff_ne.mpr c6
       have H' := Aside0.mk H
       clear H
       have p134 : 0 ≤ (x8_1 : Int) := of_decide_eq_true (by first | (with_reducible assumption) | assumption)
       have q134 : x8_1 < (l0.length : Int) := of_decide_eq_true (by first | (with_reducible assumption) | assumption)
       obtain ⟨ad134, e134, hx134_0⟩ := Kd.at_int HR0.out x8_1 p134 q134
       cases e134
       replace p134 := eq_true p134
       replace q134 := eq_true q134
       go_wp2
       go_roundg k1
       case measure => have := HK1.out; omega
       case rel => exact ⟨(wrap64 (x8_1 + 1)), (by first | rfl | (simp; done) | (simp [*]; done)), H', ⟨by have := HK1.out; omega⟩, by repeat (first | exact Drawn0.refl _ | apply Drawn0.step)⟩
     ·rw [if_neg c5] at H
      exact absurd H (by simp)
    ·rw [if_neg c4] at H
     exact absurd H (by simp)
   ·rw [if_neg c3] at H
    have c3b0 : decide (x8_1 < (l0.length : Int)) = false := decide_eq_false c3
    clear c3
    obtain rfl := Option.some.inj H
    go_wp2
    go_ret
    exact ⟨by first | rfl | (simp; done) | (simp [*]; done), by repeat (first | exact Drawn0.refl _ | apply Drawn0.step)⟩
def slices_Contains_int_int.f (k : Nat) (l0 : List Int) (a1 : Int) : Option (Bool) := (slices_Index_int_int.f k l0 a1).bind fun t135 => (some (decide (t135 ≥ 0)))
set_option maxHeartbeats 8000000 in
set_option maxRecDepth 100000 in
theorem slices_Contains_int_int.calls (k : Nat) (A0 : Option Addr) (c0 : Nat) (l0 : List Int) (a1 : Int) (r : Bool) (w : World) (hr0 : Kd.C (Kd.int .i64) w A0 l0.length l0) (hc0 : l0.length ≤ c0) (h : slices_Contains_int_int.f k l0 a1 = some r) :
  Calls Tryd.prog 30 #[.slice A0 l0.length c0, .int .i64 a1] w fun e w' => e = .returned (.bool r) ∧ Drawn0 w w' := by
 have HR0 := Aside0.mk hr0
 have HC0 := Aside0.mk hc0
 clear hr0 hc0
 have H : ((slices_Index_int_int.f k l0 a1).bind fun t135 => (some (decide (t135 ≥ 0)))) = some r := h
 clear h
 replace H := oB H
 obtain ⟨t135, A30, H⟩ := H
 replace H : (some (decide (t135 ≥ 0))) = some r := H
 have A3 := Aside0.mk A30
 clear A30
 obtain rfl := Option.some.inj H
 go_enter Tryd.func30, Tryd.ntmps30
 go_wp2_with (first | ((with_reducible refine gate_callee (f := 64) rfl ?_); refine goesL_ (some 7) rfl rfl Tryd.func64 (by kernel_rfl) rfl #[.slice A0 l0.length c0, .int .i64 a1] rfl (by first | rfl | (simp only [List.map_toArray]; rfl)) ?_; (with_reducible refine (slices_Index_int_int.calls k _ _ l0 a1 t135 _ ?side1 ?side2 A3.out).mono ?_); (case side1 => repeat (first | exact HR0.out | (with_reducible refine Kd.C_alloc ?_ _) | (with_reducible refine Kd.C_drewN ?_ _) | (with_reducible refine Kd.C_drew ?_))); (case side2 => exact HC0.out); rintro e w' ⟨rfl, ⟨nd, rfl⟩⟩; refine ⟨_, rfl, ?_⟩))
 go_ret
 exact ⟨by first | rfl | (simp; done) | (simp [*]; done), by repeat (first | exact Drawn0.refl _ | apply Drawn0.step)⟩
def order_sound.f (a0_0 : ByteArray) (a0_1 : ByteArray) (a0_2 : Int) (a0_3 : Int) (a0_4 : Int) (a0_5 : Int) (a0_6 : Int) (a0_7 : Int) (a0_8 : Int) (a0_9 : Int) (a0_10 : Int) : Option (Bool) := if a0_6 < 1 then (some false) else (if a0_6 > 200 then (some false) else (if a0_7 ≥ 0 then (if a0_7 < a0_6 then (if a0_8 ≥ 0 then (some (decide (a0_8 ≤ (wrap64 (200 - a0_6))))) else (some false)) else (some false)) else (some false)))
set_option maxHeartbeats 8000000 in
set_option maxRecDepth 100000 in
theorem order_sound.calls (a0_0 : ByteArray) (a0_1 : ByteArray) (a0_2 : Int) (a0_3 : Int) (a0_4 : Int) (a0_5 : Int) (a0_6 : Int) (a0_7 : Int) (a0_8 : Int) (a0_9 : Int) (a0_10 : Int) (r : Bool) (w : World) (h : order_sound.f a0_0 a0_1 a0_2 a0_3 a0_4 a0_5 a0_6 a0_7 a0_8 a0_9 a0_10 = some r) :
  Calls Tryd.prog 31 #[.agg #[.string a0_0, .string a0_1, .int .i64 a0_2, .int .i64 a0_3, .int .i64 a0_4, .int .i64 a0_5, .int .i64 a0_6, .int .i64 a0_7, .int .i64 a0_8, .int .i64 a0_9, .int .i64 a0_10]] w fun e w' => e = .returned (.bool r) ∧ Below w.heap.size w w' := by
 have hu23 := Tryd.underlying23
 have HB := q_ (Below.refl w.heap.size w)
 have H : (if a0_6 < 1 then (some false) else (if a0_6 > 200 then (some false) else (if a0_7 ≥ 0 then (if a0_7 < a0_6 then (if a0_8 ≥ 0 then (some (decide (a0_8 ≤ (wrap64 (200 - a0_6))))) else (some false)) else (some false)) else (some false)))) = some r := h
 clear h
 by_cases c2 : a0_6 < 1
 ·rw [if_pos c2] at H
  have c2b0 : decide (a0_6 < 1) = true := decide_eq_true c2
  clear c2
  obtain rfl := Option.some.inj H
  go_enter Tryd.func31, Tryd.ntmps31
  go_wp2_with (first | (refine wpList_load_cells (by rfl) 23 _ (by exact rfl) ⟨gb136, 0, none⟩ (by rfl) _ _ (cells_of_blk (by (with_reducible repeat (first | refine bN ?_ _ | refine bW ?_ | refine bA ?_ _)); exact BK136.out)) Tryd.underlying23 rfl (by kernel_rfl) ?_) | ((with_reducible refine gate_dst (N := 1) rfl ?_); refine box_event ?hg (N := 1) ?hd (cs := #[.string a0_0, .string a0_1, .int .i64 a0_2, .int .i64 a0_3, .int .i64 a0_4, .int .i64 a0_5, .int .i64 a0_6, .int .i64 a0_7, .int .i64 a0_8, .int .i64 a0_9, .int .i64 a0_10]) (t := 23) ?hr ?_; (case hd => rfl); (case hg => rfl); (case hr => first | (go_simp; done) | (go_simp; rfl)); intro gb136 hg w3 hbox hb; have n0_ := q_ (pT (by repeat (first | (with_reducible first | exact HB.out | apply pA | apply pN | apply p1) | exact HB.out)) hb); have n1_ := q_ (hbox); have n2_ := q_ ((by rw [hg]; exact (pZ (by repeat (first | (with_reducible first | exact HB.out | apply pA | apply pN | apply p1) | exact HB.out))) : w.heap.size ≤ gb136)); have n3_ := n2_; clear HB; have HB := n0_; have BK136 := n1_; have GW136 := n2_; have GE136 := n3_; clear n0_ n1_ n2_ n3_; clear hb hbox hg; have hcz4 := blk_all BK136.out; simp only [CellsAt, List.toList_toArray, Nat.reduceAdd, and_true] at hcz4; have hfz4 := bF BK136.out))
  go_ret
  exact ⟨by first | rfl | (simp [*] <;> rfl), by repeat (first | (with_reducible first | exact HB.out | apply pA | apply pN | apply p1 | refine pS ?_ GE136.out) | exact HB.out)⟩
 ·rw [if_neg c2] at H
  have c2b0 : decide (a0_6 < 1) = false := decide_eq_false c2
  clear c2
  by_cases c5 : a0_6 > 200
  ·rw [if_pos c5] at H
   have c5b0 : decide (200 < a0_6) = true := decide_eq_true c5
   clear c5
   obtain rfl := Option.some.inj H
   go_enter Tryd.func31, Tryd.ntmps31
   go_wp2_with (first | (refine wpList_load_cells (by rfl) 23 _ (by exact rfl) ⟨gb136, 0, none⟩ (by rfl) _ _ (cells_of_blk (by (with_reducible repeat (first | refine bN ?_ _ | refine bW ?_ | refine bA ?_ _)); exact BK136.out)) Tryd.underlying23 rfl (by kernel_rfl) ?_) | ((with_reducible refine gate_dst (N := 1) rfl ?_); refine box_event ?hg (N := 1) ?hd (cs := #[.string a0_0, .string a0_1, .int .i64 a0_2, .int .i64 a0_3, .int .i64 a0_4, .int .i64 a0_5, .int .i64 a0_6, .int .i64 a0_7, .int .i64 a0_8, .int .i64 a0_9, .int .i64 a0_10]) (t := 23) ?hr ?_; (case hd => rfl); (case hg => rfl); (case hr => first | (go_simp; done) | (go_simp; rfl)); intro gb136 hg w6 hbox hb; have n0_ := q_ (pT (by repeat (first | (with_reducible first | exact HB.out | apply pA | apply pN | apply p1) | exact HB.out)) hb); have n1_ := q_ (hbox); have n2_ := q_ ((by rw [hg]; exact (pZ (by repeat (first | (with_reducible first | exact HB.out | apply pA | apply pN | apply p1) | exact HB.out))) : w.heap.size ≤ gb136)); have n3_ := n2_; clear HB; have HB := n0_; have BK136 := n1_; have GW136 := n2_; have GE136 := n3_; clear n0_ n1_ n2_ n3_; clear hb hbox hg; have hcz7 := blk_all BK136.out; simp only [CellsAt, List.toList_toArray, Nat.reduceAdd, and_true] at hcz7; have hfz7 := bF BK136.out))
   go_ret
   exact ⟨by first | rfl | (simp [*] <;> rfl), by repeat (first | (with_reducible first | exact HB.out | apply pA | apply pN | apply p1 | refine pS ?_ GE136.out) | exact HB.out)⟩
  ·rw [if_neg c5] at H
   have c5b0 : decide (200 < a0_6) = false := decide_eq_false c5
   clear c5
   by_cases c8 : a0_7 ≥ 0
   ·rw [if_pos c8] at H
    have c8b0 : decide (0 ≤ a0_7) = true := decide_eq_true c8
    clear c8
    by_cases c9 : a0_7 < a0_6
    ·rw [if_pos c9] at H
     have c9b0 : decide (a0_7 < a0_6) = true := decide_eq_true c9
     clear c9
     by_cases c10 : a0_8 ≥ 0
     ·rw [if_pos c10] at H
      have c10b0 : decide (0 ≤ a0_8) = true := decide_eq_true c10
      clear c10
      obtain rfl := Option.some.inj H
      go_enter Tryd.func31, Tryd.ntmps31
      go_wp2_with (first | (refine wpList_load_cells (by rfl) 23 _ (by exact rfl) ⟨gb136, 0, none⟩ (by rfl) _ _ (cells_of_blk (by (with_reducible repeat (first | refine bN ?_ _ | refine bW ?_ | refine bA ?_ _)); exact BK136.out)) Tryd.underlying23 rfl (by kernel_rfl) ?_) | ((with_reducible refine gate_dst (N := 1) rfl ?_); refine box_event ?hg (N := 1) ?hd (cs := #[.string a0_0, .string a0_1, .int .i64 a0_2, .int .i64 a0_3, .int .i64 a0_4, .int .i64 a0_5, .int .i64 a0_6, .int .i64 a0_7, .int .i64 a0_8, .int .i64 a0_9, .int .i64 a0_10]) (t := 23) ?hr ?_; (case hd => rfl); (case hg => rfl); (case hr => first | (go_simp; done) | (go_simp; rfl)); intro gb136 hg w11 hbox hb; have n0_ := q_ (pT (by repeat (first | (with_reducible first | exact HB.out | apply pA | apply pN | apply p1) | exact HB.out)) hb); have n1_ := q_ (hbox); have n2_ := q_ ((by rw [hg]; exact (pZ (by repeat (first | (with_reducible first | exact HB.out | apply pA | apply pN | apply p1) | exact HB.out))) : w.heap.size ≤ gb136)); have n3_ := n2_; clear HB; have HB := n0_; have BK136 := n1_; have GW136 := n2_; have GE136 := n3_; clear n0_ n1_ n2_ n3_; clear hb hbox hg; have hcz12 := blk_all BK136.out; simp only [CellsAt, List.toList_toArray, Nat.reduceAdd, and_true] at hcz12; have hfz12 := bF BK136.out))
      go_ret
      exact ⟨by first | rfl | (simp [*] <;> rfl), by repeat (first | (with_reducible first | exact HB.out | apply pA | apply pN | apply p1 | refine pS ?_ GE136.out) | exact HB.out)⟩
     ·rw [if_neg c10] at H
      have c10b0 : decide (0 ≤ a0_8) = false := decide_eq_false c10
      clear c10
      obtain rfl := Option.some.inj H
      go_enter Tryd.func31, Tryd.ntmps31
      go_wp2_with (first | (refine wpList_load_cells (by rfl) 23 _ (by exact rfl) ⟨gb136, 0, none⟩ (by rfl) _ _ (cells_of_blk (by (with_reducible repeat (first | refine bN ?_ _ | refine bW ?_ | refine bA ?_ _)); exact BK136.out)) Tryd.underlying23 rfl (by kernel_rfl) ?_) | ((with_reducible refine gate_dst (N := 1) rfl ?_); refine box_event ?hg (N := 1) ?hd (cs := #[.string a0_0, .string a0_1, .int .i64 a0_2, .int .i64 a0_3, .int .i64 a0_4, .int .i64 a0_5, .int .i64 a0_6, .int .i64 a0_7, .int .i64 a0_8, .int .i64 a0_9, .int .i64 a0_10]) (t := 23) ?hr ?_; (case hd => rfl); (case hg => rfl); (case hr => first | (go_simp; done) | (go_simp; rfl)); intro gb136 hg w13 hbox hb; have n0_ := q_ (pT (by repeat (first | (with_reducible first | exact HB.out | apply pA | apply pN | apply p1) | exact HB.out)) hb); have n1_ := q_ (hbox); have n2_ := q_ ((by rw [hg]; exact (pZ (by repeat (first | (with_reducible first | exact HB.out | apply pA | apply pN | apply p1) | exact HB.out))) : w.heap.size ≤ gb136)); have n3_ := n2_; clear HB; have HB := n0_; have BK136 := n1_; have GW136 := n2_; have GE136 := n3_; clear n0_ n1_ n2_ n3_; clear hb hbox hg; have hcz14 := blk_all BK136.out; simp only [CellsAt, List.toList_toArray, Nat.reduceAdd, and_true] at hcz14; have hfz14 := bF BK136.out))
      go_ret
      exact ⟨by first | rfl | (simp [*] <;> rfl), by repeat (first | (with_reducible first | exact HB.out | apply pA | apply pN | apply p1 | refine pS ?_ GE136.out) | exact HB.out)⟩
    ·rw [if_neg c9] at H
     have c9b0 : decide (a0_7 < a0_6) = false := decide_eq_false c9
     clear c9
     obtain rfl := Option.some.inj H
     go_enter Tryd.func31, Tryd.ntmps31
     go_wp2_with (first | (refine wpList_load_cells (by rfl) 23 _ (by exact rfl) ⟨gb136, 0, none⟩ (by rfl) _ _ (cells_of_blk (by (with_reducible repeat (first | refine bN ?_ _ | refine bW ?_ | refine bA ?_ _)); exact BK136.out)) Tryd.underlying23 rfl (by kernel_rfl) ?_) | ((with_reducible refine gate_dst (N := 1) rfl ?_); refine box_event ?hg (N := 1) ?hd (cs := #[.string a0_0, .string a0_1, .int .i64 a0_2, .int .i64 a0_3, .int .i64 a0_4, .int .i64 a0_5, .int .i64 a0_6, .int .i64 a0_7, .int .i64 a0_8, .int .i64 a0_9, .int .i64 a0_10]) (t := 23) ?hr ?_; (case hd => rfl); (case hg => rfl); (case hr => first | (go_simp; done) | (go_simp; rfl)); intro gb136 hg w15 hbox hb; have n0_ := q_ (pT (by repeat (first | (with_reducible first | exact HB.out | apply pA | apply pN | apply p1) | exact HB.out)) hb); have n1_ := q_ (hbox); have n2_ := q_ ((by rw [hg]; exact (pZ (by repeat (first | (with_reducible first | exact HB.out | apply pA | apply pN | apply p1) | exact HB.out))) : w.heap.size ≤ gb136)); have n3_ := n2_; clear HB; have HB := n0_; have BK136 := n1_; have GW136 := n2_; have GE136 := n3_; clear n0_ n1_ n2_ n3_; clear hb hbox hg; have hcz16 := blk_all BK136.out; simp only [CellsAt, List.toList_toArray, Nat.reduceAdd, and_true] at hcz16; have hfz16 := bF BK136.out))
     go_ret
     exact ⟨by first | rfl | (simp [*] <;> rfl), by repeat (first | (with_reducible first | exact HB.out | apply pA | apply pN | apply p1 | refine pS ?_ GE136.out) | exact HB.out)⟩
   ·rw [if_neg c8] at H
    have c8b0 : decide (0 ≤ a0_7) = false := decide_eq_false c8
    clear c8
    obtain rfl := Option.some.inj H
    go_enter Tryd.func31, Tryd.ntmps31
    go_wp2_with (first | (refine wpList_load_cells (by rfl) 23 _ (by exact rfl) ⟨gb136, 0, none⟩ (by rfl) _ _ (cells_of_blk (by (with_reducible repeat (first | refine bN ?_ _ | refine bW ?_ | refine bA ?_ _)); exact BK136.out)) Tryd.underlying23 rfl (by kernel_rfl) ?_) | ((with_reducible refine gate_dst (N := 1) rfl ?_); refine box_event ?hg (N := 1) ?hd (cs := #[.string a0_0, .string a0_1, .int .i64 a0_2, .int .i64 a0_3, .int .i64 a0_4, .int .i64 a0_5, .int .i64 a0_6, .int .i64 a0_7, .int .i64 a0_8, .int .i64 a0_9, .int .i64 a0_10]) (t := 23) ?hr ?_; (case hd => rfl); (case hg => rfl); (case hr => first | (go_simp; done) | (go_simp; rfl)); intro gb136 hg w17 hbox hb; have n0_ := q_ (pT (by repeat (first | (with_reducible first | exact HB.out | apply pA | apply pN | apply p1) | exact HB.out)) hb); have n1_ := q_ (hbox); have n2_ := q_ ((by rw [hg]; exact (pZ (by repeat (first | (with_reducible first | exact HB.out | apply pA | apply pN | apply p1) | exact HB.out))) : w.heap.size ≤ gb136)); have n3_ := n2_; clear HB; have HB := n0_; have BK136 := n1_; have GW136 := n2_; have GE136 := n3_; clear n0_ n1_ n2_ n3_; clear hb hbox hg; have hcz18 := blk_all BK136.out; simp only [CellsAt, List.toList_toArray, Nat.reduceAdd, and_true] at hcz18; have hfz18 := bF BK136.out))
    go_ret
    exact ⟨by first | rfl | (simp [*] <;> rfl), by repeat (first | (with_reducible first | exact HB.out | apply pA | apply pN | apply p1 | refine pS ?_ GE136.out) | exact HB.out)⟩
end Go.Proofs.YtblmgmhjlbkncaaDoor.PA
namespace Go.Proofs.YtblmgmhjlbkncaaDoor.PA
open Go.RowKit Go.Proofs.YtblmgmhjlbkncaaDoorW.PrintWords Go.Proofs.YtblmgmhjlbkncaaDoorW.PrintLast Go.Proofs.YtblmgmhjlbkncaaDoorW.PrintMore
attribute [local go_sem] max2_int min2_int max_two min_two max_three min_three max_four min_four
set_option linter.unusedVariables false
set_option linter.unusedSimpArgs false
mutual
def order_Check.j0 : Nat → List (S54) → Bool → ByteArray → ByteArray → Int → Int → Int → Int → Int → Int → Int → Int → Int → Option (Int)
 | 0, _, _, _, _, _, _, _, _, _, _, _, _, _ => none
 | k + 1, x1, x11, x138000, x138001, x138002, x138003, x138004, x138005, x138006, x138007, x138008, x138009, x138010 => if x11 = true then (some 6) else (if x138002 < 0 then (order_Check.j1 k x1 true x138000 x138001 x138002 x138003 x138004 x138005 x138006 x138007 x138008 x138009 x138010) else (order_Check.j1 k x1 (decide (x138002 ≥ (x1.length : Int))) x138000 x138001 x138002 x138003 x138004 x138005 x138006 x138007 x138008 x138009 x138010))
def order_Check.j1 : Nat → List (S54) → Bool → ByteArray → ByteArray → Int → Int → Int → Int → Int → Int → Int → Int → Int → Option (Int)
 | 0, _, _, _, _, _, _, _, _, _, _, _, _, _ => none
 | k + 1, x1, x22, x138000, x138001, x138002, x138003, x138004, x138005, x138006, x138007, x138008, x138009, x138010 => if x22 = true then (some 8) else (if 0 ≤ x138002 then (if x138002 < (x1.length : Int) then ((slices_Contains_int_int.f k ((rd_T54 x1 x138002).f5) x138003).bind fun t142 => (if t142 = true then (if x138004 < 1 then (order_Check.j2 k true x138000 x138001 x138002 x138003 x138004 x138005 x138006 x138007 x138008 x138009 x138010) else (order_Check.j2 k (decide (x138004 > 9)) x138000 x138001 x138002 x138003 x138004 x138005 x138006 x138007 x138008 x138009 x138010)) else (some 20))) else (none)) else (none))
def order_Check.j2 : Nat → Bool → ByteArray → ByteArray → Int → Int → Int → Int → Int → Int → Int → Int → Int → Option (Int)
 | 0, _, _, _, _, _, _, _, _, _, _, _, _ => none
 | k + 1, x44, x138000, x138001, x138002, x138003, x138004, x138005, x138006, x138007, x138008, x138009, x138010 => if x44 = true then (some 26) else (if x138005 < 0 then (order_Check.j3 k true x138000 x138001 x138002 x138003 x138004 x138005 x138006 x138007 x138008 x138009 x138010) else (order_Check.j3 k (decide (x138005 > 20000)) x138000 x138001 x138002 x138003 x138004 x138005 x138006 x138007 x138008 x138009 x138010))
def order_Check.j3 : Nat → Bool → ByteArray → ByteArray → Int → Int → Int → Int → Int → Int → Int → Int → Int → Option (Int)
 | 0, _, _, _, _, _, _, _, _, _, _, _, _ => none
 | k + 1, x53, x138000, x138001, x138002, x138003, x138004, x138005, x138006, x138007, x138008, x138009, x138010 => if x53 = true then (some 25) else ((order_sound.f x138000 x138001 x138002 x138003 x138004 x138005 x138006 x138007 x138008 x138009 x138010).bind fun t143 => (if t143 = true then (if x138009 < 0 then (some 9) else (if x138009 > 1000000000 then (some 9) else (if x138010 < 0 then (some 9) else (if x138010 > 10000000 then (some 9) else (some 0))))) else (some 9)))
end
def order_Check.f (k : Nat) (a0_0 : ByteArray) (a0_1 : ByteArray) (a0_2 : Int) (a0_3 : Int) (a0_4 : Int) (a0_5 : Int) (a0_6 : Int) (a0_7 : Int) (a0_8 : Int) (a0_9 : Int) (a0_10 : Int) (l1 : List (S54)) : Option (Int) := (product_Check.f k l1).bind fun t138 => (if t138 = 0 then ((ident_Is.f k a0_0 79).bind fun t139 => (if t139 = true then ((ident_IsName.f k a0_1).bind fun t140 => (order_Check.j0 k l1 (!t140) a0_0 a0_1 a0_2 a0_3 a0_4 a0_5 a0_6 a0_7 a0_8 a0_9 a0_10)) else (order_Check.j0 k l1 true a0_0 a0_1 a0_2 a0_3 a0_4 a0_5 a0_6 a0_7 a0_8 a0_9 a0_10))) else (some t138))
set_option maxHeartbeats 8000000 in
set_option maxRecDepth 100000 in
theorem order_Check.calls (k : Nat) (a0_0 : ByteArray) (a0_1 : ByteArray) (a0_2 : Int) (a0_3 : Int) (a0_4 : Int) (a0_5 : Int) (a0_6 : Int) (a0_7 : Int) (a0_8 : Int) (a0_9 : Int) (a0_10 : Int) (A1 : Option Addr) (c1 : Nat) (l1 : List (S54)) (r : Int) (w : World) (hr1 : Kd.C k54 w A1 l1.length l1) (hc1 : l1.length ≤ c1) (h : order_Check.f k a0_0 a0_1 a0_2 a0_3 a0_4 a0_5 a0_6 a0_7 a0_8 a0_9 a0_10 l1 = some r) :
  Calls Tryd.prog 12 #[.agg #[.string a0_0, .string a0_1, .int .i64 a0_2, .int .i64 a0_3, .int .i64 a0_4, .int .i64 a0_5, .int .i64 a0_6, .int .i64 a0_7, .int .i64 a0_8, .int .i64 a0_9, .int .i64 a0_10], .slice A1 l1.length c1] w fun e w' => e = .returned (.int .i64 r) ∧ Below w.heap.size w w' := by
 have hu23 := Tryd.underlying23
 have HR1 := Aside0.mk hr1
 have HC1 := Aside0.mk hc1
 clear hr1 hc1
 have HB := q_ (Below.refl w.heap.size w)
 have H : ((product_Check.f k l1).bind fun t138 => (if t138 = 0 then ((ident_Is.f k a0_0 79).bind fun t139 => (if t139 = true then ((ident_IsName.f k a0_1).bind fun t140 => (order_Check.j0 k l1 (!t140) a0_0 a0_1 a0_2 a0_3 a0_4 a0_5 a0_6 a0_7 a0_8 a0_9 a0_10)) else (order_Check.j0 k l1 true a0_0 a0_1 a0_2 a0_3 a0_4 a0_5 a0_6 a0_7 a0_8 a0_9 a0_10))) else (some t138))) = some r := h
 clear h
 replace H := oB H
 obtain ⟨t138, A30, H⟩ := H
 replace H : (if t138 = 0 then ((ident_Is.f k a0_0 79).bind fun t139 => (if t139 = true then ((ident_IsName.f k a0_1).bind fun t140 => (order_Check.j0 k l1 (!t140) a0_0 a0_1 a0_2 a0_3 a0_4 a0_5 a0_6 a0_7 a0_8 a0_9 a0_10)) else (order_Check.j0 k l1 true a0_0 a0_1 a0_2 a0_3 a0_4 a0_5 a0_6 a0_7 a0_8 a0_9 a0_10))) else (some t138)) = some r := H
 have A3 := Aside0.mk A30
 clear A30
 by_cases c4 : t138 = 0
 ·rw [if_pos c4] at H
  have c4b0 : (t138 == 0) = true := beq_iff_eq.mpr c4
  have c4b1 : (t138 != 0) = false := oD c4
  clear c4
  have HC5 := Aside0.mk H
  clear H
  go_enter Tryd.func12, Tryd.ntmps12
  go_upto_region 4 with (first | ((with_reducible refine gate_dst (N := 2) rfl ?_); (try (refine gate_guard (by rfl) ?_; dsimp only)); refine box_event ?hg (N := 2) ?hd (cs := #[.string a0_0, .string a0_1, .int .i64 a0_2, .int .i64 a0_3, .int .i64 a0_4, .int .i64 a0_5, .int .i64 a0_6, .int .i64 a0_7, .int .i64 a0_8, .int .i64 a0_9, .int .i64 a0_10]) (t := 23) ?hr ?_; (case hd => rfl); (case hg => rfl); (case hr => first | (go_simp; done) | (go_simp; rfl)); intro gb137 hg w6 hbox hb; have n0_ := q_ (pT (by repeat (first | (with_reducible first | exact HB.out | apply pA | apply pN | apply p1) | exact HB.out)) hb); have n1_ := q_ (hbox); have n2_ := q_ ((by rw [hg]; exact (pZ (by repeat (first | (with_reducible first | exact HB.out | apply pA | apply pN | apply p1) | exact HB.out))) : w.heap.size ≤ gb137)); have n3_ := n2_; clear HB; have HB := n0_; have BK137 := n1_; have GW137 := n2_; have GE137 := n3_; clear n0_ n1_ n2_ n3_; clear hb hbox hg) | (go_at_call 27; (with_reducible refine (product_Check.calls k _ _ l1 t138 _ ?side1 ?side2 A3.out).mono ?_); (case side1 => repeat (first | exact (Kd.C_below HR1.out HB.out) | (with_reducible refine Kd.C_alloc ?_ _) | (with_reducible refine Kd.C_drewN ?_ _) | (with_reducible refine Kd.C_drew ?_))); (case side2 => exact HC1.out); rintro e w7 ⟨rfl, hb⟩; have n0_ := q_ (bB (g := gb137) (by (with_reducible repeat (first | refine bN ?_ _ | refine bW ?_ | refine bA ?_ _)); exact BK137.out) hb); have n1_ := q_ (pT (by repeat (first | (with_reducible first | exact HB.out | apply pA | apply pN | apply p1 | refine pS ?_ GE137.out) | exact HB.out)) hb); clear BK137; clear HB; have BK137 := n0_; have HB := n1_; clear n0_ n1_; (try clear hb); (try clear hb2); (try clear hk); (try clear hi)))
  repeat (go_quiet (first | ((with_reducible refine gate_dst (N := 2) rfl ?_); (try (refine gate_guard (by rfl) ?_; dsimp only)); refine box_event ?hg (N := 2) ?hd (cs := #[.string a0_0, .string a0_1, .int .i64 a0_2, .int .i64 a0_3, .int .i64 a0_4, .int .i64 a0_5, .int .i64 a0_6, .int .i64 a0_7, .int .i64 a0_8, .int .i64 a0_9, .int .i64 a0_10]) (t := 23) ?hr ?_; (case hd => rfl); (case hg => rfl); (case hr => first | (go_simp; done) | (go_simp; rfl)); intro gb137 hg w6 hbox hb; have n0_ := q_ (pT (by repeat (first | (with_reducible first | exact HB.out | apply pA | apply pN | apply p1) | exact HB.out)) hb); have n1_ := q_ (hbox); have n2_ := q_ ((by rw [hg]; exact (pZ (by repeat (first | (with_reducible first | exact HB.out | apply pA | apply pN | apply p1) | exact HB.out))) : w.heap.size ≤ gb137)); have n3_ := n2_; clear HB; have HB := n0_; have BK137 := n1_; have GW137 := n2_; have GE137 := n3_; clear n0_ n1_ n2_ n3_; clear hb hbox hg) | (go_at_call 27; (with_reducible refine (product_Check.calls k _ _ l1 t138 _ ?side1 ?side2 A3.out).mono ?_); (case side1 => repeat (first | exact (Kd.C_below HR1.out HB.out) | (with_reducible refine Kd.C_alloc ?_ _) | (with_reducible refine Kd.C_drewN ?_ _) | (with_reducible refine Kd.C_drew ?_))); (case side2 => exact HC1.out); rintro e w7 ⟨rfl, hb⟩; have n0_ := q_ (bB (g := gb137) (by (with_reducible repeat (first | refine bN ?_ _ | refine bW ?_ | refine bA ?_ _)); exact BK137.out) hb); have n1_ := q_ (pT (by repeat (first | (with_reducible first | exact HB.out | apply pA | apply pN | apply p1 | refine pS ?_ GE137.out) | exact HB.out)) hb); clear BK137; clear HB; have BK137 := n0_; have HB := n1_; clear n0_ n1_; (try clear hb); (try clear hb2); (try clear hk); (try clear hi))); go_upto_region 4 with (first | ((with_reducible refine gate_dst (N := 2) rfl ?_); (try (refine gate_guard (by rfl) ?_; dsimp only)); refine box_event ?hg (N := 2) ?hd (cs := #[.string a0_0, .string a0_1, .int .i64 a0_2, .int .i64 a0_3, .int .i64 a0_4, .int .i64 a0_5, .int .i64 a0_6, .int .i64 a0_7, .int .i64 a0_8, .int .i64 a0_9, .int .i64 a0_10]) (t := 23) ?hr ?_; (case hd => rfl); (case hg => rfl); (case hr => first | (go_simp; done) | (go_simp; rfl)); intro gb137 hg w6 hbox hb; have n0_ := q_ (pT (by repeat (first | (with_reducible first | exact HB.out | apply pA | apply pN | apply p1) | exact HB.out)) hb); have n1_ := q_ (hbox); have n2_ := q_ ((by rw [hg]; exact (pZ (by repeat (first | (with_reducible first | exact HB.out | apply pA | apply pN | apply p1) | exact HB.out))) : w.heap.size ≤ gb137)); have n3_ := n2_; clear HB; have HB := n0_; have BK137 := n1_; have GW137 := n2_; have GE137 := n3_; clear n0_ n1_ n2_ n3_; clear hb hbox hg) | (go_at_call 27; (with_reducible refine (product_Check.calls k _ _ l1 t138 _ ?side1 ?side2 A3.out).mono ?_); (case side1 => repeat (first | exact (Kd.C_below HR1.out HB.out) | (with_reducible refine Kd.C_alloc ?_ _) | (with_reducible refine Kd.C_drewN ?_ _) | (with_reducible refine Kd.C_drew ?_))); (case side2 => exact HC1.out); rintro e w7 ⟨rfl, hb⟩; have n0_ := q_ (bB (g := gb137) (by (with_reducible repeat (first | refine bN ?_ _ | refine bW ?_ | refine bA ?_ _)); exact BK137.out) hb); have n1_ := q_ (pT (by repeat (first | (with_reducible first | exact HB.out | apply pA | apply pN | apply p1 | refine pS ?_ GE137.out) | exact HB.out)) hb); clear BK137; clear HB; have BK137 := n0_; have HB := n1_; clear n0_ n1_; (try clear hb); (try clear hb2); (try clear hk); (try clear hi))))
  (try simp only [Act.put, List.setIfInBounds_toArray, List.set_cons_zero, List.set_cons_succ])
  go_cut [11] (fun v11 wc => ∃ (kq : Nat) (x11_4 : Bool), v11 = .bool x11_4 ∧ Aside0 (order_Check.j0 kq l1 x11_4 a0_0 a0_1 a0_2 a0_3 a0_4 a0_5 a0_6 a0_7 a0_8 a0_9 a0_10 = some r) ∧ Aside0 (kq ≤ k) ∧ Aside0 (wc.heap[gb137]? = some (.cells #[.string a0_0, .string a0_1, .int .i64 a0_2, .int .i64 a0_3, .int .i64 a0_4, .int .i64 a0_5, .int .i64 a0_6, .int .i64 a0_7, .int .i64 a0_8, .int .i64 a0_9, .int .i64 a0_10] 23 (0, 0))) ∧ Aside0 (Below w.heap.size w wc))
  case first =>
   have H := HC5.out
   clear HC5
   replace H := oB H
   obtain ⟨t139, A80, H⟩ := H
   replace H : (if t139 = true then ((ident_IsName.f k a0_1).bind fun t140 => (order_Check.j0 k l1 (!t140) a0_0 a0_1 a0_2 a0_3 a0_4 a0_5 a0_6 a0_7 a0_8 a0_9 a0_10)) else (order_Check.j0 k l1 true a0_0 a0_1 a0_2 a0_3 a0_4 a0_5 a0_6 a0_7 a0_8 a0_9 a0_10)) = some r := H
   have A8 := Aside0.mk A80
   clear A80
   by_cases c9 : t139 = true
   ·subst c9
    have H1 : ((ident_IsName.f k a0_1).bind fun t140 => (order_Check.j0 k l1 (!t140) a0_0 a0_1 a0_2 a0_3 a0_4 a0_5 a0_6 a0_7 a0_8 a0_9 a0_10)) = some r := by rw [if_pos rfl] at H; exact H
    clear H
    have H := H1
    clear H1
    replace H := oB H
    obtain ⟨t140, A100, H⟩ := H
    replace H : (order_Check.j0 k l1 (!t140) a0_0 a0_1 a0_2 a0_3 a0_4 a0_5 a0_6 a0_7 a0_8 a0_9 a0_10) = some r := H
    have A10 := Aside0.mk A100
    clear A100
    have H' := Aside0.mk H
    clear H
    have hcz11 := blk_all BK137.out
    simp only [CellsAt, List.toList_toArray, Nat.reduceAdd, and_true] at hcz11
    have hfz11 := bF BK137.out
    go_wp2_with (first | (go_at_call 28; (with_reducible refine (ident_Is.calls k a0_0 79 true _ A8.out).mono ?_); rintro e w12 ⟨rfl, hb⟩; have n0_ := q_ (bB (g := gb137) (by (with_reducible repeat (first | refine bN ?_ _ | refine bW ?_ | refine bA ?_ _)); exact BK137.out) hb); have n1_ := q_ (pT (by repeat (first | (with_reducible first | exact HB.out | apply pA | apply pN | apply p1 | refine pS ?_ GE137.out) | exact HB.out)) hb); clear BK137; clear HB; have BK137 := n0_; have HB := n1_; clear n0_ n1_; (try clear hb); (try clear hb2); (try clear hk); (try clear hi); have hcz13 := blk_all BK137.out; simp only [CellsAt, List.toList_toArray, Nat.reduceAdd, and_true] at hcz13; have hfz13 := bF BK137.out) | (go_at_call 29; (with_reducible refine (ident_IsName.calls k a0_1 t140 _ A10.out).mono ?_); rintro e w' ⟨rfl, ⟨nd, rfl⟩⟩; (try first | exact ⟨rfl, _, World.drewN_drewN _ _ _⟩ | exact ⟨rfl, _, Eq.trans (World.drewN_drewN _ _ _) (congrArg (World.drewN _) (Nat.add_assoc _ _ _))⟩)))
    repeat (go_quiet (first | (go_at_call 28; (with_reducible refine (ident_Is.calls k a0_0 79 true _ A8.out).mono ?_); rintro e w12 ⟨rfl, hb⟩; have n0_ := q_ (bB (g := gb137) (by (with_reducible repeat (first | refine bN ?_ _ | refine bW ?_ | refine bA ?_ _)); exact BK137.out) hb); have n1_ := q_ (pT (by repeat (first | (with_reducible first | exact HB.out | apply pA | apply pN | apply p1 | refine pS ?_ GE137.out) | exact HB.out)) hb); clear BK137; clear HB; have BK137 := n0_; have HB := n1_; clear n0_ n1_; (try clear hb); (try clear hb2); (try clear hk); (try clear hi); have hcz13 := blk_all BK137.out; simp only [CellsAt, List.toList_toArray, Nat.reduceAdd, and_true] at hcz13; have hfz13 := bF BK137.out) | (go_at_call 29; (with_reducible refine (ident_IsName.calls k a0_1 t140 _ A10.out).mono ?_); rintro e w' ⟨rfl, ⟨nd, rfl⟩⟩; (try first | exact ⟨rfl, _, World.drewN_drewN _ _ _⟩ | exact ⟨rfl, _, Eq.trans (World.drewN_drewN _ _ _) (congrArg (World.drewN _) (Nat.add_assoc _ _ _))⟩))); try go_wp2_with (first | (go_at_call 28; (with_reducible refine (ident_Is.calls k a0_0 79 true _ A8.out).mono ?_); rintro e w12 ⟨rfl, hb⟩; have n0_ := q_ (bB (g := gb137) (by (with_reducible repeat (first | refine bN ?_ _ | refine bW ?_ | refine bA ?_ _)); exact BK137.out) hb); have n1_ := q_ (pT (by repeat (first | (with_reducible first | exact HB.out | apply pA | apply pN | apply p1 | refine pS ?_ GE137.out) | exact HB.out)) hb); clear BK137; clear HB; have BK137 := n0_; have HB := n1_; clear n0_ n1_; (try clear hb); (try clear hb2); (try clear hk); (try clear hi); have hcz13 := blk_all BK137.out; simp only [CellsAt, List.toList_toArray, Nat.reduceAdd, and_true] at hcz13; have hfz13 := bF BK137.out) | (go_at_call 29; (with_reducible refine (ident_IsName.calls k a0_1 t140 _ A10.out).mono ?_); rintro e w' ⟨rfl, ⟨nd, rfl⟩⟩; (try first | exact ⟨rfl, _, World.drewN_drewN _ _ _⟩ | exact ⟨rfl, _, Eq.trans (World.drewN_drewN _ _ _) (congrArg (World.drewN _) (Nat.add_assoc _ _ _))⟩))))
    go_meet
    case rel => exact ⟨_, (!t140), (by first | rfl | (simp; done) | (simp [*]; done)), H', ⟨by first | omega | exact Nat.le_refl _⟩, ⟨by (with_reducible repeat (first | refine bN ?_ _ | refine bW ?_ | refine bA ?_ _)); exact BK137.out⟩, ⟨by repeat (first | (with_reducible first | exact HB.out | apply pA | apply pN | apply p1 | refine pS ?_ GE137.out) | exact HB.out)⟩⟩
   ·replace c9 := Bool.eq_false_iff.mpr c9
    subst c9
    have H1 : (order_Check.j0 k l1 true a0_0 a0_1 a0_2 a0_3 a0_4 a0_5 a0_6 a0_7 a0_8 a0_9 a0_10) = some r := by rw [if_neg (show ¬ (false = true) by decide)] at H; exact H
    clear H
    have H := H1
    clear H1
    have H' := Aside0.mk H
    clear H
    have hcz14 := blk_all BK137.out
    simp only [CellsAt, List.toList_toArray, Nat.reduceAdd, and_true] at hcz14
    have hfz14 := bF BK137.out
    go_wp2_with (first | (go_at_call 28; (with_reducible refine (ident_Is.calls k a0_0 79 false _ A8.out).mono ?_); rintro e w15 ⟨rfl, hb⟩; have n0_ := q_ (bB (g := gb137) (by (with_reducible repeat (first | refine bN ?_ _ | refine bW ?_ | refine bA ?_ _)); exact BK137.out) hb); have n1_ := q_ (pT (by repeat (first | (with_reducible first | exact HB.out | apply pA | apply pN | apply p1 | refine pS ?_ GE137.out) | exact HB.out)) hb); clear BK137; clear HB; have BK137 := n0_; have HB := n1_; clear n0_ n1_; (try clear hb); (try clear hb2); (try clear hk); (try clear hi)))
    repeat (go_quiet (first | (go_at_call 28; (with_reducible refine (ident_Is.calls k a0_0 79 false _ A8.out).mono ?_); rintro e w15 ⟨rfl, hb⟩; have n0_ := q_ (bB (g := gb137) (by (with_reducible repeat (first | refine bN ?_ _ | refine bW ?_ | refine bA ?_ _)); exact BK137.out) hb); have n1_ := q_ (pT (by repeat (first | (with_reducible first | exact HB.out | apply pA | apply pN | apply p1 | refine pS ?_ GE137.out) | exact HB.out)) hb); clear BK137; clear HB; have BK137 := n0_; have HB := n1_; clear n0_ n1_; (try clear hb); (try clear hb2); (try clear hk); (try clear hi))); try go_wp2_with (first | (go_at_call 28; (with_reducible refine (ident_Is.calls k a0_0 79 false _ A8.out).mono ?_); rintro e w15 ⟨rfl, hb⟩; have n0_ := q_ (bB (g := gb137) (by (with_reducible repeat (first | refine bN ?_ _ | refine bW ?_ | refine bA ?_ _)); exact BK137.out) hb); have n1_ := q_ (pT (by repeat (first | (with_reducible first | exact HB.out | apply pA | apply pN | apply p1 | refine pS ?_ GE137.out) | exact HB.out)) hb); clear BK137; clear HB; have BK137 := n0_; have HB := n1_; clear n0_ n1_; (try clear hb); (try clear hb2); (try clear hk); (try clear hi))))
    go_meet
    case rel => exact ⟨_, (true), (by first | rfl | (simp; done) | (simp [*]; done)), H', ⟨by first | omega | exact Nat.le_refl _⟩, ⟨by (with_reducible repeat (first | refine bN ?_ _ | refine bW ?_ | refine bA ?_ _)); exact BK137.out⟩, ⟨by repeat (first | (with_reducible first | exact HB.out | apply pA | apply pN | apply p1 | refine pS ?_ GE137.out) | exact HB.out)⟩⟩
  case rest =>
   clear HC5
   try clear c1
   try clear p2
   try clear c4
   try clear c4b0
   try clear c4b1
   try clear c9
   try clear c12
   try clear hcz11
   try clear hcz13
   try clear hcz14
   try clear hfz11
   try clear hfz13
   try clear hfz14
   obtain ⟨kq, x11_4, rfl, HA, HJ4, BK137, HB⟩ := hcut
   cases kq with
   | zero => exact absurd HA.out (by simp [order_Check.j0])
   | succ kj4 =>
    have H := HA.out
    clear HA
    simp only [order_Check.j0] at H
    by_cases c16 : x11_4 = true
    ·subst c16
     have H1 : (some 6) = some r := by rw [if_pos rfl] at H; exact H
     clear H
     have H := H1
     clear H1
     obtain rfl := Option.some.inj H
     go_wp2
     repeat (go_quiet (fail); try go_wp2)
     go_ret
     exact ⟨by first | rfl | (simp [*] <;> rfl), by repeat (first | (with_reducible first | exact HB.out | apply pA | apply pN | apply p1 | refine pS ?_ GE137.out) | exact HB.out)⟩
    ·replace c16 := Bool.eq_false_iff.mpr c16
     subst c16
     have H1 : (if a0_2 < 0 then (order_Check.j1 kj4 l1 true a0_0 a0_1 a0_2 a0_3 a0_4 a0_5 a0_6 a0_7 a0_8 a0_9 a0_10) else (order_Check.j1 kj4 l1 (decide (a0_2 ≥ (l1.length : Int))) a0_0 a0_1 a0_2 a0_3 a0_4 a0_5 a0_6 a0_7 a0_8 a0_9 a0_10)) = some r := by rw [if_neg (show ¬ (false = true) by decide)] at H; exact H
     clear H
     have H := H1
     clear H1
     have HC17 := Aside0.mk H
     clear H
     go_upto_region 6 with (fail)
     repeat (go_quiet (fail); go_upto_region 6 with (fail))
     go_cut [22] (fun v22 wc => ∃ (kq : Nat) (x22_16 : Bool), v22 = .bool x22_16 ∧ Aside0 (order_Check.j1 kq l1 x22_16 a0_0 a0_1 a0_2 a0_3 a0_4 a0_5 a0_6 a0_7 a0_8 a0_9 a0_10 = some r) ∧ Aside0 (kq ≤ kj4) ∧ Aside0 (wc.heap[gb137]? = some (.cells #[.string a0_0, .string a0_1, .int .i64 a0_2, .int .i64 a0_3, .int .i64 a0_4, .int .i64 a0_5, .int .i64 a0_6, .int .i64 a0_7, .int .i64 a0_8, .int .i64 a0_9, .int .i64 a0_10] 23 (0, 0))) ∧ Aside0 (Below w.heap.size w wc))
     case first =>
      have H := HC17.out
      clear HC17
      by_cases c18 : a0_2 < 0
      ·rw [if_pos c18] at H
       have c18b0 : decide (a0_2 < 0) = true := decide_eq_true c18
       clear c18
       (first | rw [c18b0] | (simp only [i64_w, i32_w]; rw [c18b0]) | skip)
       have H' := Aside0.mk H
       clear H
       have hcz19 := blk_all BK137.out
       simp only [CellsAt, List.toList_toArray, Nat.reduceAdd, and_true] at hcz19
       have hfz19 := bF BK137.out
       go_wp2
       repeat (go_quiet (fail); try go_wp2)
       go_meet
       case rel => exact ⟨_, (true), (by first | rfl | (simp; done) | (simp [*]; done)), H', ⟨by have := HJ4.out; first | omega | exact Nat.le_refl _⟩, ⟨by (with_reducible repeat (first | refine bN ?_ _ | refine bW ?_ | refine bA ?_ _)); exact BK137.out⟩, ⟨by repeat (first | (with_reducible first | exact HB.out | apply pA | apply pN | apply p1 | refine pS ?_ GE137.out) | exact HB.out)⟩⟩
      ·rw [if_neg c18] at H
       have c18b0 : decide (a0_2 < 0) = false := decide_eq_false c18
       clear c18
       (first | rw [c18b0] | (simp only [i64_w, i32_w]; rw [c18b0]) | skip)
       have H' := Aside0.mk H
       clear H
       have hcz20 := blk_all BK137.out
       simp only [CellsAt, List.toList_toArray, Nat.reduceAdd, and_true] at hcz20
       have hfz20 := bF BK137.out
       go_wp2
       repeat (go_quiet (fail); try go_wp2)
       go_meet
       case rel => exact ⟨_, (decide (a0_2 ≥ (l1.length : Int))), (by first | rfl | (simp; done) | (simp [*]; done)), H', ⟨by have := HJ4.out; first | omega | exact Nat.le_refl _⟩, ⟨by (with_reducible repeat (first | refine bN ?_ _ | refine bW ?_ | refine bA ?_ _)); exact BK137.out⟩, ⟨by repeat (first | (with_reducible first | exact HB.out | apply pA | apply pN | apply p1 | refine pS ?_ GE137.out) | exact HB.out)⟩⟩
     case rest =>
      clear HC17
      try clear c1
      try clear p2
      try clear c4
      try clear c4b0
      try clear c4b1
      try clear c9
      try clear c12
      try clear c16
      try clear c18
      try clear c18b0
      try clear hcz11
      try clear hcz13
      try clear hcz14
      try clear hcz19
      try clear hcz20
      try clear hfz11
      try clear hfz13
      try clear hfz14
      try clear hfz19
      try clear hfz20
      try clear p2
      obtain ⟨kq, x22_16, rfl, HA, HJ16, BK137, HB⟩ := hcut
      cases kq with
      | zero => exact absurd HA.out (by simp [order_Check.j1])
      | succ kj16 =>
       have H := HA.out
       clear HA
       simp only [order_Check.j1] at H
       by_cases c21 : x22_16 = true
       ·subst c21
        have H1 : (some 8) = some r := by rw [if_pos rfl] at H; exact H
        clear H
        have H := H1
        clear H1
        obtain rfl := Option.some.inj H
        go_wp2
        repeat (go_quiet (fail); try go_wp2)
        go_ret
        exact ⟨by first | rfl | (simp [*] <;> rfl), by repeat (first | (with_reducible first | exact HB.out | apply pA | apply pN | apply p1 | refine pS ?_ GE137.out) | exact HB.out)⟩
       ·replace c21 := Bool.eq_false_iff.mpr c21
        subst c21
        have H1 : (if 0 ≤ a0_2 then (if a0_2 < (l1.length : Int) then ((slices_Contains_int_int.f kj16 ((rd_T54 l1 a0_2).f5) a0_3).bind fun t142 => (if t142 = true then (if a0_4 < 1 then (order_Check.j2 kj16 true a0_0 a0_1 a0_2 a0_3 a0_4 a0_5 a0_6 a0_7 a0_8 a0_9 a0_10) else (order_Check.j2 kj16 (decide (a0_4 > 9)) a0_0 a0_1 a0_2 a0_3 a0_4 a0_5 a0_6 a0_7 a0_8 a0_9 a0_10)) else (some 20))) else (none)) else (none)) = some r := by rw [if_neg (show ¬ (false = true) by decide)] at H; exact H
        clear H
        have H := H1
        clear H1
        by_cases c22 : 0 ≤ a0_2
        ·rw [if_pos c22] at H
         have c22b0 : decide (0 ≤ a0_2) = true := decide_eq_true c22
         clear c22
         by_cases c23 : a0_2 < (l1.length : Int)
         ·rw [if_pos c23] at H
          have c23b0 : decide (a0_2 < (l1.length : Int)) = true := decide_eq_true c23
          clear c23
          replace H := oB H
          obtain ⟨t142, A240, H⟩ := H
          replace H : (if t142 = true then (if a0_4 < 1 then (order_Check.j2 kj16 true a0_0 a0_1 a0_2 a0_3 a0_4 a0_5 a0_6 a0_7 a0_8 a0_9 a0_10) else (order_Check.j2 kj16 (decide (a0_4 > 9)) a0_0 a0_1 a0_2 a0_3 a0_4 a0_5 a0_6 a0_7 a0_8 a0_9 a0_10)) else (some 20)) = some r := H
          have A24 := Aside0.mk A240
          clear A240
          by_cases c25 : t142 = true
          ·subst c25
           have H1 : (if a0_4 < 1 then (order_Check.j2 kj16 true a0_0 a0_1 a0_2 a0_3 a0_4 a0_5 a0_6 a0_7 a0_8 a0_9 a0_10) else (order_Check.j2 kj16 (decide (a0_4 > 9)) a0_0 a0_1 a0_2 a0_3 a0_4 a0_5 a0_6 a0_7 a0_8 a0_9 a0_10)) = some r := by rw [if_pos rfl] at H; exact H
           clear H
           have H := H1
           clear H1
           have HC26 := Aside0.mk H
           clear H
           have hcz27 := blk_all BK137.out
           simp only [CellsAt, List.toList_toArray, Nat.reduceAdd, and_true] at hcz27
           have hfz27 := bF BK137.out
           have p141 : 0 ≤ (a0_2 : Int) := of_decide_eq_true (by first | (with_reducible assumption) | assumption)
           have q141 : a0_2 < (l1.length : Int) := of_decide_eq_true (by first | (with_reducible assumption) | assumption)
           obtain ⟨ad141, A141_5, c141_5, A141_6, c141_6, e141, hx141_0, hx141_1, hx141_2, hx141_3, hx141_4, hx141_5, hx141_6, hl141_5, hi141_5, hl141_6, hi141_6⟩ := at_T54 HR1.out a0_2 p141 q141
           cases e141
           replace hx141_0 := (HB.out.cell (World.block_lt_of_cell? w _ hx141_0)).trans hx141_0
           replace hx141_1 := (HB.out.cell (World.block_lt_of_cell? w _ hx141_1)).trans hx141_1
           replace hx141_2 := (HB.out.cell (World.block_lt_of_cell? w _ hx141_2)).trans hx141_2
           replace hx141_3 := (HB.out.cell (World.block_lt_of_cell? w _ hx141_3)).trans hx141_3
           replace hx141_4 := (HB.out.cell (World.block_lt_of_cell? w _ hx141_4)).trans hx141_4
           replace hx141_5 := (HB.out.cell (World.block_lt_of_cell? w _ hx141_5)).trans hx141_5
           replace hx141_6 := (HB.out.cell (World.block_lt_of_cell? w _ hx141_6)).trans hx141_6
           have HR141_5 := Aside0.mk hi141_5
           have HC141_5 := Aside0.mk hl141_5
           clear hi141_5 hl141_5
           have HR141_6 := Aside0.mk hi141_6
           have HC141_6 := Aside0.mk hl141_6
           clear hi141_6 hl141_6
           replace p141 := eq_true p141
           replace q141 := eq_true q141
           go_upto_region 10 with (first | (go_at_call 30; (with_reducible refine (slices_Contains_int_int.calls kj16 _ _ ((rd_T54 l1 a0_2).f5) a0_3 true _ ?side1 ?side2 A24.out).mono ?_); (case side1 => repeat (first | exact (Kd.C_below HR141_5.out HB.out) | (with_reducible refine Kd.C_alloc ?_ _) | (with_reducible refine Kd.C_drewN ?_ _) | (with_reducible refine Kd.C_drew ?_))); (case side2 => exact HC141_5.out); rintro e w' ⟨rfl, ⟨nd, rfl⟩⟩; (try first | exact ⟨rfl, _, World.drewN_drewN _ _ _⟩ | exact ⟨rfl, _, Eq.trans (World.drewN_drewN _ _ _) (congrArg (World.drewN _) (Nat.add_assoc _ _ _))⟩)))
           repeat (go_quiet (first | (go_at_call 30; (with_reducible refine (slices_Contains_int_int.calls kj16 _ _ ((rd_T54 l1 a0_2).f5) a0_3 true _ ?side1 ?side2 A24.out).mono ?_); (case side1 => repeat (first | exact (Kd.C_below HR141_5.out HB.out) | (with_reducible refine Kd.C_alloc ?_ _) | (with_reducible refine Kd.C_drewN ?_ _) | (with_reducible refine Kd.C_drew ?_))); (case side2 => exact HC141_5.out); rintro e w' ⟨rfl, ⟨nd, rfl⟩⟩; (try first | exact ⟨rfl, _, World.drewN_drewN _ _ _⟩ | exact ⟨rfl, _, Eq.trans (World.drewN_drewN _ _ _) (congrArg (World.drewN _) (Nat.add_assoc _ _ _))⟩))); go_upto_region 10 with (first | (go_at_call 30; (with_reducible refine (slices_Contains_int_int.calls kj16 _ _ ((rd_T54 l1 a0_2).f5) a0_3 true _ ?side1 ?side2 A24.out).mono ?_); (case side1 => repeat (first | exact (Kd.C_below HR141_5.out HB.out) | (with_reducible refine Kd.C_alloc ?_ _) | (with_reducible refine Kd.C_drewN ?_ _) | (with_reducible refine Kd.C_drew ?_))); (case side2 => exact HC141_5.out); rintro e w' ⟨rfl, ⟨nd, rfl⟩⟩; (try first | exact ⟨rfl, _, World.drewN_drewN _ _ _⟩ | exact ⟨rfl, _, Eq.trans (World.drewN_drewN _ _ _) (congrArg (World.drewN _) (Nat.add_assoc _ _ _))⟩))))
           (try simp only [Act.put, List.setIfInBounds_toArray, List.set_cons_zero, List.set_cons_succ])
           go_cut [44] (fun v44 wc => ∃ (kq : Nat) (x44_25 : Bool), v44 = .bool x44_25 ∧ Aside0 (order_Check.j2 kq x44_25 a0_0 a0_1 a0_2 a0_3 a0_4 a0_5 a0_6 a0_7 a0_8 a0_9 a0_10 = some r) ∧ Aside0 (kq ≤ kj16) ∧ Aside0 (wc.heap[gb137]? = some (.cells #[.string a0_0, .string a0_1, .int .i64 a0_2, .int .i64 a0_3, .int .i64 a0_4, .int .i64 a0_5, .int .i64 a0_6, .int .i64 a0_7, .int .i64 a0_8, .int .i64 a0_9, .int .i64 a0_10] 23 (0, 0))) ∧ Aside0 (Below w.heap.size w wc))
           case first =>
            have H := HC26.out
            clear HC26
            by_cases c28 : a0_4 < 1
            ·rw [if_pos c28] at H
             have c28b0 : decide (a0_4 < 1) = true := decide_eq_true c28
             clear c28
             (first | rw [c28b0] | (simp only [i64_w, i32_w]; rw [c28b0]) | skip)
             have H' := Aside0.mk H
             clear H
             have hcz29 := blk_all BK137.out
             simp only [CellsAt, List.toList_toArray, Nat.reduceAdd, and_true] at hcz29
             have hfz29 := bF BK137.out
             go_wp2
             repeat (go_quiet (fail); try go_wp2)
             go_meet
             case rel => exact ⟨_, (true), (by first | rfl | (simp; done) | (simp [*]; done)), H', ⟨by have := HJ4.out; have := HJ16.out; first | omega | exact Nat.le_refl _⟩, ⟨by (with_reducible repeat (first | refine bN ?_ _ | refine bW ?_ | refine bA ?_ _)); exact BK137.out⟩, ⟨by repeat (first | (with_reducible first | exact HB.out | apply pA | apply pN | apply p1 | refine pS ?_ GE137.out) | exact HB.out)⟩⟩
            ·rw [if_neg c28] at H
             have c28b0 : decide (a0_4 < 1) = false := decide_eq_false c28
             clear c28
             (first | rw [c28b0] | (simp only [i64_w, i32_w]; rw [c28b0]) | skip)
             have H' := Aside0.mk H
             clear H
             have hcz30 := blk_all BK137.out
             simp only [CellsAt, List.toList_toArray, Nat.reduceAdd, and_true] at hcz30
             have hfz30 := bF BK137.out
             go_wp2
             repeat (go_quiet (fail); try go_wp2)
             go_meet
             case rel => exact ⟨_, (decide (a0_4 > 9)), (by first | rfl | (simp; done) | (simp [*]; done)), H', ⟨by have := HJ4.out; have := HJ16.out; first | omega | exact Nat.le_refl _⟩, ⟨by (with_reducible repeat (first | refine bN ?_ _ | refine bW ?_ | refine bA ?_ _)); exact BK137.out⟩, ⟨by repeat (first | (with_reducible first | exact HB.out | apply pA | apply pN | apply p1 | refine pS ?_ GE137.out) | exact HB.out)⟩⟩
           case rest =>
            clear HC26
            try clear c1
            try clear p1
            try clear q1
            try clear hx1
            try clear c2
            try clear p2
            try clear c4
            try clear c4b0
            try clear c4b1
            try clear c9
            try clear c12
            try clear c14
            try clear p14
            try clear q14
            try clear hx14
            try clear c16
            try clear c18
            try clear c18b0
            try clear c21
            try clear c22
            try clear c22b0
            try clear c23
            try clear c23b0
            try clear c25
            try clear c28
            try clear c28b0
            try clear hcz11
            try clear hcz13
            try clear hcz14
            try clear hcz19
            try clear hcz20
            try clear hcz27
            try clear hcz29
            try clear hcz30
            try clear hfz11
            try clear hfz13
            try clear hfz14
            try clear hfz19
            try clear hfz20
            try clear hfz27
            try clear hfz29
            try clear hfz30
            try clear hx141_0
            try clear hx141_1
            try clear hx141_2
            try clear hx141_3
            try clear hx141_4
            try clear hx141_5
            try clear hx141_6
            try clear p141
            try clear p2
            try clear q141
            obtain ⟨kq, x44_25, rfl, HA, HJ25, BK137, HB⟩ := hcut
            cases kq with
            | zero => exact absurd HA.out (by simp [order_Check.j2])
            | succ kj25 =>
             have H := HA.out
             clear HA
             simp only [order_Check.j2] at H
             by_cases c31 : x44_25 = true
             ·subst c31
              have H1 : (some 26) = some r := by rw [if_pos rfl] at H; exact H
              clear H
              have H := H1
              clear H1
              obtain rfl := Option.some.inj H
              go_wp2
              repeat (go_quiet (fail); try go_wp2)
              go_ret
              exact ⟨by first | rfl | (simp [*] <;> rfl), by repeat (first | (with_reducible first | exact HB.out | apply pA | apply pN | apply p1 | refine pS ?_ GE137.out) | exact HB.out)⟩
             ·replace c31 := Bool.eq_false_iff.mpr c31
              subst c31
              have H1 : (if a0_5 < 0 then (order_Check.j3 kj25 true a0_0 a0_1 a0_2 a0_3 a0_4 a0_5 a0_6 a0_7 a0_8 a0_9 a0_10) else (order_Check.j3 kj25 (decide (a0_5 > 20000)) a0_0 a0_1 a0_2 a0_3 a0_4 a0_5 a0_6 a0_7 a0_8 a0_9 a0_10)) = some r := by rw [if_neg (show ¬ (false = true) by decide)] at H; exact H
              clear H
              have H := H1
              clear H1
              have HC32 := Aside0.mk H
              clear H
              go_upto_region 12 with (fail)
              repeat (go_quiet (fail); go_upto_region 12 with (fail))
              go_cut [53] (fun v53 wc => ∃ (kq : Nat) (x53_31 : Bool), v53 = .bool x53_31 ∧ Aside0 (order_Check.j3 kq x53_31 a0_0 a0_1 a0_2 a0_3 a0_4 a0_5 a0_6 a0_7 a0_8 a0_9 a0_10 = some r) ∧ Aside0 (kq ≤ kj25) ∧ Aside0 (wc.heap[gb137]? = some (.cells #[.string a0_0, .string a0_1, .int .i64 a0_2, .int .i64 a0_3, .int .i64 a0_4, .int .i64 a0_5, .int .i64 a0_6, .int .i64 a0_7, .int .i64 a0_8, .int .i64 a0_9, .int .i64 a0_10] 23 (0, 0))) ∧ Aside0 (Below w.heap.size w wc))
              case first =>
               have H := HC32.out
               clear HC32
               by_cases c33 : a0_5 < 0
               ·rw [if_pos c33] at H
                have c33b0 : decide (a0_5 < 0) = true := decide_eq_true c33
                clear c33
                (first | rw [c33b0] | (simp only [i64_w, i32_w]; rw [c33b0]) | skip)
                have H' := Aside0.mk H
                clear H
                have hcz34 := blk_all BK137.out
                simp only [CellsAt, List.toList_toArray, Nat.reduceAdd, and_true] at hcz34
                have hfz34 := bF BK137.out
                go_wp2
                repeat (go_quiet (fail); try go_wp2)
                go_meet
                case rel => exact ⟨_, (true), (by first | rfl | (simp; done) | (simp [*]; done)), H', ⟨by have := HJ4.out; have := HJ16.out; have := HJ25.out; first | omega | exact Nat.le_refl _⟩, ⟨by (with_reducible repeat (first | refine bN ?_ _ | refine bW ?_ | refine bA ?_ _)); exact BK137.out⟩, ⟨by repeat (first | (with_reducible first | exact HB.out | apply pA | apply pN | apply p1 | refine pS ?_ GE137.out) | exact HB.out)⟩⟩
               ·rw [if_neg c33] at H
                have c33b0 : decide (a0_5 < 0) = false := decide_eq_false c33
                clear c33
                (first | rw [c33b0] | (simp only [i64_w, i32_w]; rw [c33b0]) | skip)
                have H' := Aside0.mk H
                clear H
                have hcz35 := blk_all BK137.out
                simp only [CellsAt, List.toList_toArray, Nat.reduceAdd, and_true] at hcz35
                have hfz35 := bF BK137.out
                go_wp2
                repeat (go_quiet (fail); try go_wp2)
                go_meet
                case rel => exact ⟨_, (decide (a0_5 > 20000)), (by first | rfl | (simp; done) | (simp [*]; done)), H', ⟨by have := HJ4.out; have := HJ16.out; have := HJ25.out; first | omega | exact Nat.le_refl _⟩, ⟨by (with_reducible repeat (first | refine bN ?_ _ | refine bW ?_ | refine bA ?_ _)); exact BK137.out⟩, ⟨by repeat (first | (with_reducible first | exact HB.out | apply pA | apply pN | apply p1 | refine pS ?_ GE137.out) | exact HB.out)⟩⟩
              case rest =>
               clear HC32
               try clear c1
               try clear p1
               try clear q1
               try clear hx1
               try clear c2
               try clear p2
               try clear c3
               try clear c4
               try clear c4b0
               try clear c4b1
               try clear c9
               try clear c12
               try clear c14
               try clear p14
               try clear q14
               try clear hx14
               try clear c16
               try clear c18
               try clear c18b0
               try clear c21
               try clear c22
               try clear c22b0
               try clear c23
               try clear c23b0
               try clear c25
               try clear c28
               try clear c28b0
               try clear c31
               try clear c33
               try clear c33b0
               try clear hcz11
               try clear hcz13
               try clear hcz14
               try clear hcz19
               try clear hcz20
               try clear hcz27
               try clear hcz29
               try clear hcz30
               try clear hcz34
               try clear hcz35
               try clear hfz11
               try clear hfz13
               try clear hfz14
               try clear hfz19
               try clear hfz20
               try clear hfz27
               try clear hfz29
               try clear hfz30
               try clear hfz34
               try clear hfz35
               try clear hx141_0
               try clear hx141_1
               try clear hx141_2
               try clear hx141_3
               try clear hx141_4
               try clear hx141_5
               try clear hx141_6
               try clear p1
               try clear p14
               try clear p141
               try clear p2
               try clear q1
               try clear q14
               try clear q141
               obtain ⟨kq, x53_31, rfl, HA, HJ31, BK137, HB⟩ := hcut
               cases kq with
               | zero => exact absurd HA.out (by simp [order_Check.j3])
               | succ kj31 =>
                have H := HA.out
                clear HA
                simp only [order_Check.j3] at H
                by_cases c36 : x53_31 = true
                ·subst c36
                 have H1 : (some 25) = some r := by rw [if_pos rfl] at H; exact H
                 clear H
                 have H := H1
                 clear H1
                 obtain rfl := Option.some.inj H
                 go_wp2
                 repeat (go_quiet (fail); try go_wp2)
                 go_ret
                 exact ⟨by first | rfl | (simp [*] <;> rfl), by repeat (first | (with_reducible first | exact HB.out | apply pA | apply pN | apply p1 | refine pS ?_ GE137.out) | exact HB.out)⟩
                ·replace c36 := Bool.eq_false_iff.mpr c36
                 subst c36
                 have H1 : ((order_sound.f a0_0 a0_1 a0_2 a0_3 a0_4 a0_5 a0_6 a0_7 a0_8 a0_9 a0_10).bind fun t143 => (if t143 = true then (if a0_9 < 0 then (some 9) else (if a0_9 > 1000000000 then (some 9) else (if a0_10 < 0 then (some 9) else (if a0_10 > 10000000 then (some 9) else (some 0))))) else (some 9))) = some r := by rw [if_neg (show ¬ (false = true) by decide)] at H; exact H
                 clear H
                 have H := H1
                 clear H1
                 replace H := oB H
                 obtain ⟨t143, A370, H⟩ := H
                 replace H : (if t143 = true then (if a0_9 < 0 then (some 9) else (if a0_9 > 1000000000 then (some 9) else (if a0_10 < 0 then (some 9) else (if a0_10 > 10000000 then (some 9) else (some 0))))) else (some 9)) = some r := H
                 have A37 := Aside0.mk A370
                 clear A370
                 by_cases c38 : t143 = true
                 ·subst c38
                  have H1 : (if a0_9 < 0 then (some 9) else (if a0_9 > 1000000000 then (some 9) else (if a0_10 < 0 then (some 9) else (if a0_10 > 10000000 then (some 9) else (some 0))))) = some r := by rw [if_pos rfl] at H; exact H
                  clear H
                  have H := H1
                  clear H1
                  by_cases c39 : a0_9 < 0
                  ·rw [if_pos c39] at H
                   have c39b0 : decide (a0_9 < 0) = true := decide_eq_true c39
                   clear c39
                   obtain rfl := Option.some.inj H
                   have hcz40 := blk_all BK137.out
                   simp only [CellsAt, List.toList_toArray, Nat.reduceAdd, and_true] at hcz40
                   have hfz40 := bF BK137.out
                   go_wp2_with (first | (go_at_call 31; (with_reducible refine (order_sound.calls a0_0 a0_1 a0_2 a0_3 a0_4 a0_5 a0_6 a0_7 a0_8 a0_9 a0_10 true _ A37.out).mono ?_); rintro e w41 ⟨rfl, hb⟩; have n0_ := q_ (bB (g := gb137) (by (with_reducible repeat (first | refine bN ?_ _ | refine bW ?_ | refine bA ?_ _)); exact BK137.out) hb); have n1_ := q_ (pT (by repeat (first | (with_reducible first | exact HB.out | apply pA | apply pN | apply p1 | refine pS ?_ GE137.out) | exact HB.out)) hb); clear BK137; clear HB; have BK137 := n0_; have HB := n1_; clear n0_ n1_; (try clear hb); (try clear hb2); (try clear hk); (try clear hi); have hcz42 := blk_all BK137.out; simp only [CellsAt, List.toList_toArray, Nat.reduceAdd, and_true] at hcz42; have hfz42 := bF BK137.out))
                   repeat (go_quiet (first | (go_at_call 31; (with_reducible refine (order_sound.calls a0_0 a0_1 a0_2 a0_3 a0_4 a0_5 a0_6 a0_7 a0_8 a0_9 a0_10 true _ A37.out).mono ?_); rintro e w41 ⟨rfl, hb⟩; have n0_ := q_ (bB (g := gb137) (by (with_reducible repeat (first | refine bN ?_ _ | refine bW ?_ | refine bA ?_ _)); exact BK137.out) hb); have n1_ := q_ (pT (by repeat (first | (with_reducible first | exact HB.out | apply pA | apply pN | apply p1 | refine pS ?_ GE137.out) | exact HB.out)) hb); clear BK137; clear HB; have BK137 := n0_; have HB := n1_; clear n0_ n1_; (try clear hb); (try clear hb2); (try clear hk); (try clear hi); have hcz42 := blk_all BK137.out; simp only [CellsAt, List.toList_toArray, Nat.reduceAdd, and_true] at hcz42; have hfz42 := bF BK137.out)); try go_wp2_with (first | (go_at_call 31; (with_reducible refine (order_sound.calls a0_0 a0_1 a0_2 a0_3 a0_4 a0_5 a0_6 a0_7 a0_8 a0_9 a0_10 true _ A37.out).mono ?_); rintro e w41 ⟨rfl, hb⟩; have n0_ := q_ (bB (g := gb137) (by (with_reducible repeat (first | refine bN ?_ _ | refine bW ?_ | refine bA ?_ _)); exact BK137.out) hb); have n1_ := q_ (pT (by repeat (first | (with_reducible first | exact HB.out | apply pA | apply pN | apply p1 | refine pS ?_ GE137.out) | exact HB.out)) hb); clear BK137; clear HB; have BK137 := n0_; have HB := n1_; clear n0_ n1_; (try clear hb); (try clear hb2); (try clear hk); (try clear hi); have hcz42 := blk_all BK137.out; simp only [CellsAt, List.toList_toArray, Nat.reduceAdd, and_true] at hcz42; have hfz42 := bF BK137.out)))
                   go_ret
                   exact ⟨by first | rfl | (simp [*] <;> rfl), by repeat (first | (with_reducible first | exact HB.out | apply pA | apply pN | apply p1 | refine pS ?_ GE137.out) | exact HB.out)⟩
                  ·rw [if_neg c39] at H
                   have c39b0 : decide (a0_9 < 0) = false := decide_eq_false c39
                   clear c39
                   by_cases c43 : a0_9 > 1000000000
                   ·rw [if_pos c43] at H
                    have c43b0 : decide (1000000000 < a0_9) = true := decide_eq_true c43
                    clear c43
                    obtain rfl := Option.some.inj H
                    have hcz44 := blk_all BK137.out
                    simp only [CellsAt, List.toList_toArray, Nat.reduceAdd, and_true] at hcz44
                    have hfz44 := bF BK137.out
                    go_wp2_with (first | (go_at_call 31; (with_reducible refine (order_sound.calls a0_0 a0_1 a0_2 a0_3 a0_4 a0_5 a0_6 a0_7 a0_8 a0_9 a0_10 true _ A37.out).mono ?_); rintro e w45 ⟨rfl, hb⟩; have n0_ := q_ (bB (g := gb137) (by (with_reducible repeat (first | refine bN ?_ _ | refine bW ?_ | refine bA ?_ _)); exact BK137.out) hb); have n1_ := q_ (pT (by repeat (first | (with_reducible first | exact HB.out | apply pA | apply pN | apply p1 | refine pS ?_ GE137.out) | exact HB.out)) hb); clear BK137; clear HB; have BK137 := n0_; have HB := n1_; clear n0_ n1_; (try clear hb); (try clear hb2); (try clear hk); (try clear hi); have hcz46 := blk_all BK137.out; simp only [CellsAt, List.toList_toArray, Nat.reduceAdd, and_true] at hcz46; have hfz46 := bF BK137.out))
                    repeat (go_quiet (first | (go_at_call 31; (with_reducible refine (order_sound.calls a0_0 a0_1 a0_2 a0_3 a0_4 a0_5 a0_6 a0_7 a0_8 a0_9 a0_10 true _ A37.out).mono ?_); rintro e w45 ⟨rfl, hb⟩; have n0_ := q_ (bB (g := gb137) (by (with_reducible repeat (first | refine bN ?_ _ | refine bW ?_ | refine bA ?_ _)); exact BK137.out) hb); have n1_ := q_ (pT (by repeat (first | (with_reducible first | exact HB.out | apply pA | apply pN | apply p1 | refine pS ?_ GE137.out) | exact HB.out)) hb); clear BK137; clear HB; have BK137 := n0_; have HB := n1_; clear n0_ n1_; (try clear hb); (try clear hb2); (try clear hk); (try clear hi); have hcz46 := blk_all BK137.out; simp only [CellsAt, List.toList_toArray, Nat.reduceAdd, and_true] at hcz46; have hfz46 := bF BK137.out)); try go_wp2_with (first | (go_at_call 31; (with_reducible refine (order_sound.calls a0_0 a0_1 a0_2 a0_3 a0_4 a0_5 a0_6 a0_7 a0_8 a0_9 a0_10 true _ A37.out).mono ?_); rintro e w45 ⟨rfl, hb⟩; have n0_ := q_ (bB (g := gb137) (by (with_reducible repeat (first | refine bN ?_ _ | refine bW ?_ | refine bA ?_ _)); exact BK137.out) hb); have n1_ := q_ (pT (by repeat (first | (with_reducible first | exact HB.out | apply pA | apply pN | apply p1 | refine pS ?_ GE137.out) | exact HB.out)) hb); clear BK137; clear HB; have BK137 := n0_; have HB := n1_; clear n0_ n1_; (try clear hb); (try clear hb2); (try clear hk); (try clear hi); have hcz46 := blk_all BK137.out; simp only [CellsAt, List.toList_toArray, Nat.reduceAdd, and_true] at hcz46; have hfz46 := bF BK137.out)))
                    go_ret
                    exact ⟨by first | rfl | (simp [*] <;> rfl), by repeat (first | (with_reducible first | exact HB.out | apply pA | apply pN | apply p1 | refine pS ?_ GE137.out) | exact HB.out)⟩
                   ·rw [if_neg c43] at H
                    have c43b0 : decide (1000000000 < a0_9) = false := decide_eq_false c43
                    clear c43
                    by_cases c47 : a0_10 < 0
                    ·rw [if_pos c47] at H
                     have c47b0 : decide (a0_10 < 0) = true := decide_eq_true c47
                     clear c47
                     obtain rfl := Option.some.inj H
                     have hcz48 := blk_all BK137.out
                     simp only [CellsAt, List.toList_toArray, Nat.reduceAdd, and_true] at hcz48
                     have hfz48 := bF BK137.out
                     go_wp2_with (first | (go_at_call 31; (with_reducible refine (order_sound.calls a0_0 a0_1 a0_2 a0_3 a0_4 a0_5 a0_6 a0_7 a0_8 a0_9 a0_10 true _ A37.out).mono ?_); rintro e w49 ⟨rfl, hb⟩; have n0_ := q_ (bB (g := gb137) (by (with_reducible repeat (first | refine bN ?_ _ | refine bW ?_ | refine bA ?_ _)); exact BK137.out) hb); have n1_ := q_ (pT (by repeat (first | (with_reducible first | exact HB.out | apply pA | apply pN | apply p1 | refine pS ?_ GE137.out) | exact HB.out)) hb); clear BK137; clear HB; have BK137 := n0_; have HB := n1_; clear n0_ n1_; (try clear hb); (try clear hb2); (try clear hk); (try clear hi); have hcz50 := blk_all BK137.out; simp only [CellsAt, List.toList_toArray, Nat.reduceAdd, and_true] at hcz50; have hfz50 := bF BK137.out))
                     repeat (go_quiet (first | (go_at_call 31; (with_reducible refine (order_sound.calls a0_0 a0_1 a0_2 a0_3 a0_4 a0_5 a0_6 a0_7 a0_8 a0_9 a0_10 true _ A37.out).mono ?_); rintro e w49 ⟨rfl, hb⟩; have n0_ := q_ (bB (g := gb137) (by (with_reducible repeat (first | refine bN ?_ _ | refine bW ?_ | refine bA ?_ _)); exact BK137.out) hb); have n1_ := q_ (pT (by repeat (first | (with_reducible first | exact HB.out | apply pA | apply pN | apply p1 | refine pS ?_ GE137.out) | exact HB.out)) hb); clear BK137; clear HB; have BK137 := n0_; have HB := n1_; clear n0_ n1_; (try clear hb); (try clear hb2); (try clear hk); (try clear hi); have hcz50 := blk_all BK137.out; simp only [CellsAt, List.toList_toArray, Nat.reduceAdd, and_true] at hcz50; have hfz50 := bF BK137.out)); try go_wp2_with (first | (go_at_call 31; (with_reducible refine (order_sound.calls a0_0 a0_1 a0_2 a0_3 a0_4 a0_5 a0_6 a0_7 a0_8 a0_9 a0_10 true _ A37.out).mono ?_); rintro e w49 ⟨rfl, hb⟩; have n0_ := q_ (bB (g := gb137) (by (with_reducible repeat (first | refine bN ?_ _ | refine bW ?_ | refine bA ?_ _)); exact BK137.out) hb); have n1_ := q_ (pT (by repeat (first | (with_reducible first | exact HB.out | apply pA | apply pN | apply p1 | refine pS ?_ GE137.out) | exact HB.out)) hb); clear BK137; clear HB; have BK137 := n0_; have HB := n1_; clear n0_ n1_; (try clear hb); (try clear hb2); (try clear hk); (try clear hi); have hcz50 := blk_all BK137.out; simp only [CellsAt, List.toList_toArray, Nat.reduceAdd, and_true] at hcz50; have hfz50 := bF BK137.out)))
                     go_ret
                     exact ⟨by first | rfl | (simp [*] <;> rfl), by repeat (first | (with_reducible first | exact HB.out | apply pA | apply pN | apply p1 | refine pS ?_ GE137.out) | exact HB.out)⟩
                    ·rw [if_neg c47] at H
                     have c47b0 : decide (a0_10 < 0) = false := decide_eq_false c47
                     clear c47
                     by_cases c51 : a0_10 > 10000000
                     ·rw [if_pos c51] at H
                      have c51b0 : decide (10000000 < a0_10) = true := decide_eq_true c51
                      clear c51
                      obtain rfl := Option.some.inj H
                      have hcz52 := blk_all BK137.out
                      simp only [CellsAt, List.toList_toArray, Nat.reduceAdd, and_true] at hcz52
                      have hfz52 := bF BK137.out
                      go_wp2_with (first | (go_at_call 31; (with_reducible refine (order_sound.calls a0_0 a0_1 a0_2 a0_3 a0_4 a0_5 a0_6 a0_7 a0_8 a0_9 a0_10 true _ A37.out).mono ?_); rintro e w53 ⟨rfl, hb⟩; have n0_ := q_ (bB (g := gb137) (by (with_reducible repeat (first | refine bN ?_ _ | refine bW ?_ | refine bA ?_ _)); exact BK137.out) hb); have n1_ := q_ (pT (by repeat (first | (with_reducible first | exact HB.out | apply pA | apply pN | apply p1 | refine pS ?_ GE137.out) | exact HB.out)) hb); clear BK137; clear HB; have BK137 := n0_; have HB := n1_; clear n0_ n1_; (try clear hb); (try clear hb2); (try clear hk); (try clear hi); have hcz54 := blk_all BK137.out; simp only [CellsAt, List.toList_toArray, Nat.reduceAdd, and_true] at hcz54; have hfz54 := bF BK137.out))
                      repeat (go_quiet (first | (go_at_call 31; (with_reducible refine (order_sound.calls a0_0 a0_1 a0_2 a0_3 a0_4 a0_5 a0_6 a0_7 a0_8 a0_9 a0_10 true _ A37.out).mono ?_); rintro e w53 ⟨rfl, hb⟩; have n0_ := q_ (bB (g := gb137) (by (with_reducible repeat (first | refine bN ?_ _ | refine bW ?_ | refine bA ?_ _)); exact BK137.out) hb); have n1_ := q_ (pT (by repeat (first | (with_reducible first | exact HB.out | apply pA | apply pN | apply p1 | refine pS ?_ GE137.out) | exact HB.out)) hb); clear BK137; clear HB; have BK137 := n0_; have HB := n1_; clear n0_ n1_; (try clear hb); (try clear hb2); (try clear hk); (try clear hi); have hcz54 := blk_all BK137.out; simp only [CellsAt, List.toList_toArray, Nat.reduceAdd, and_true] at hcz54; have hfz54 := bF BK137.out)); try go_wp2_with (first | (go_at_call 31; (with_reducible refine (order_sound.calls a0_0 a0_1 a0_2 a0_3 a0_4 a0_5 a0_6 a0_7 a0_8 a0_9 a0_10 true _ A37.out).mono ?_); rintro e w53 ⟨rfl, hb⟩; have n0_ := q_ (bB (g := gb137) (by (with_reducible repeat (first | refine bN ?_ _ | refine bW ?_ | refine bA ?_ _)); exact BK137.out) hb); have n1_ := q_ (pT (by repeat (first | (with_reducible first | exact HB.out | apply pA | apply pN | apply p1 | refine pS ?_ GE137.out) | exact HB.out)) hb); clear BK137; clear HB; have BK137 := n0_; have HB := n1_; clear n0_ n1_; (try clear hb); (try clear hb2); (try clear hk); (try clear hi); have hcz54 := blk_all BK137.out; simp only [CellsAt, List.toList_toArray, Nat.reduceAdd, and_true] at hcz54; have hfz54 := bF BK137.out)))
                      go_ret
                      exact ⟨by first | rfl | (simp [*] <;> rfl), by repeat (first | (with_reducible first | exact HB.out | apply pA | apply pN | apply p1 | refine pS ?_ GE137.out) | exact HB.out)⟩
                     ·rw [if_neg c51] at H
                      have c51b0 : decide (10000000 < a0_10) = false := decide_eq_false c51
                      clear c51
                      obtain rfl := Option.some.inj H
                      have hcz55 := blk_all BK137.out
                      simp only [CellsAt, List.toList_toArray, Nat.reduceAdd, and_true] at hcz55
                      have hfz55 := bF BK137.out
                      go_wp2_with (first | (go_at_call 31; (with_reducible refine (order_sound.calls a0_0 a0_1 a0_2 a0_3 a0_4 a0_5 a0_6 a0_7 a0_8 a0_9 a0_10 true _ A37.out).mono ?_); rintro e w56 ⟨rfl, hb⟩; have n0_ := q_ (bB (g := gb137) (by (with_reducible repeat (first | refine bN ?_ _ | refine bW ?_ | refine bA ?_ _)); exact BK137.out) hb); have n1_ := q_ (pT (by repeat (first | (with_reducible first | exact HB.out | apply pA | apply pN | apply p1 | refine pS ?_ GE137.out) | exact HB.out)) hb); clear BK137; clear HB; have BK137 := n0_; have HB := n1_; clear n0_ n1_; (try clear hb); (try clear hb2); (try clear hk); (try clear hi); have hcz57 := blk_all BK137.out; simp only [CellsAt, List.toList_toArray, Nat.reduceAdd, and_true] at hcz57; have hfz57 := bF BK137.out))
                      repeat (go_quiet (first | (go_at_call 31; (with_reducible refine (order_sound.calls a0_0 a0_1 a0_2 a0_3 a0_4 a0_5 a0_6 a0_7 a0_8 a0_9 a0_10 true _ A37.out).mono ?_); rintro e w56 ⟨rfl, hb⟩; have n0_ := q_ (bB (g := gb137) (by (with_reducible repeat (first | refine bN ?_ _ | refine bW ?_ | refine bA ?_ _)); exact BK137.out) hb); have n1_ := q_ (pT (by repeat (first | (with_reducible first | exact HB.out | apply pA | apply pN | apply p1 | refine pS ?_ GE137.out) | exact HB.out)) hb); clear BK137; clear HB; have BK137 := n0_; have HB := n1_; clear n0_ n1_; (try clear hb); (try clear hb2); (try clear hk); (try clear hi); have hcz57 := blk_all BK137.out; simp only [CellsAt, List.toList_toArray, Nat.reduceAdd, and_true] at hcz57; have hfz57 := bF BK137.out)); try go_wp2_with (first | (go_at_call 31; (with_reducible refine (order_sound.calls a0_0 a0_1 a0_2 a0_3 a0_4 a0_5 a0_6 a0_7 a0_8 a0_9 a0_10 true _ A37.out).mono ?_); rintro e w56 ⟨rfl, hb⟩; have n0_ := q_ (bB (g := gb137) (by (with_reducible repeat (first | refine bN ?_ _ | refine bW ?_ | refine bA ?_ _)); exact BK137.out) hb); have n1_ := q_ (pT (by repeat (first | (with_reducible first | exact HB.out | apply pA | apply pN | apply p1 | refine pS ?_ GE137.out) | exact HB.out)) hb); clear BK137; clear HB; have BK137 := n0_; have HB := n1_; clear n0_ n1_; (try clear hb); (try clear hb2); (try clear hk); (try clear hi); have hcz57 := blk_all BK137.out; simp only [CellsAt, List.toList_toArray, Nat.reduceAdd, and_true] at hcz57; have hfz57 := bF BK137.out)))
                      go_ret
                      exact ⟨by first | rfl | (simp [*] <;> rfl), by repeat (first | (with_reducible first | exact HB.out | apply pA | apply pN | apply p1 | refine pS ?_ GE137.out) | exact HB.out)⟩
                 ·replace c38 := Bool.eq_false_iff.mpr c38
                  subst c38
                  have H1 : (some 9) = some r := by rw [if_neg (show ¬ (false = true) by decide)] at H; exact H
                  clear H
                  have H := H1
                  clear H1
                  obtain rfl := Option.some.inj H
                  have hcz58 := blk_all BK137.out
                  simp only [CellsAt, List.toList_toArray, Nat.reduceAdd, and_true] at hcz58
                  have hfz58 := bF BK137.out
                  go_wp2_with (first | (go_at_call 31; (with_reducible refine (order_sound.calls a0_0 a0_1 a0_2 a0_3 a0_4 a0_5 a0_6 a0_7 a0_8 a0_9 a0_10 false _ A37.out).mono ?_); rintro e w59 ⟨rfl, hb⟩; have n0_ := q_ (bB (g := gb137) (by (with_reducible repeat (first | refine bN ?_ _ | refine bW ?_ | refine bA ?_ _)); exact BK137.out) hb); have n1_ := q_ (pT (by repeat (first | (with_reducible first | exact HB.out | apply pA | apply pN | apply p1 | refine pS ?_ GE137.out) | exact HB.out)) hb); clear BK137; clear HB; have BK137 := n0_; have HB := n1_; clear n0_ n1_; (try clear hb); (try clear hb2); (try clear hk); (try clear hi)))
                  repeat (go_quiet (first | (go_at_call 31; (with_reducible refine (order_sound.calls a0_0 a0_1 a0_2 a0_3 a0_4 a0_5 a0_6 a0_7 a0_8 a0_9 a0_10 false _ A37.out).mono ?_); rintro e w59 ⟨rfl, hb⟩; have n0_ := q_ (bB (g := gb137) (by (with_reducible repeat (first | refine bN ?_ _ | refine bW ?_ | refine bA ?_ _)); exact BK137.out) hb); have n1_ := q_ (pT (by repeat (first | (with_reducible first | exact HB.out | apply pA | apply pN | apply p1 | refine pS ?_ GE137.out) | exact HB.out)) hb); clear BK137; clear HB; have BK137 := n0_; have HB := n1_; clear n0_ n1_; (try clear hb); (try clear hb2); (try clear hk); (try clear hi))); try go_wp2_with (first | (go_at_call 31; (with_reducible refine (order_sound.calls a0_0 a0_1 a0_2 a0_3 a0_4 a0_5 a0_6 a0_7 a0_8 a0_9 a0_10 false _ A37.out).mono ?_); rintro e w59 ⟨rfl, hb⟩; have n0_ := q_ (bB (g := gb137) (by (with_reducible repeat (first | refine bN ?_ _ | refine bW ?_ | refine bA ?_ _)); exact BK137.out) hb); have n1_ := q_ (pT (by repeat (first | (with_reducible first | exact HB.out | apply pA | apply pN | apply p1 | refine pS ?_ GE137.out) | exact HB.out)) hb); clear BK137; clear HB; have BK137 := n0_; have HB := n1_; clear n0_ n1_; (try clear hb); (try clear hb2); (try clear hk); (try clear hi))))
                  go_ret
                  exact ⟨by first | rfl | (simp [*] <;> rfl), by repeat (first | (with_reducible first | exact HB.out | apply pA | apply pN | apply p1 | refine pS ?_ GE137.out) | exact HB.out)⟩
          ·replace c25 := Bool.eq_false_iff.mpr c25
           subst c25
           have H1 : (some 20) = some r := by rw [if_neg (show ¬ (false = true) by decide)] at H; exact H
           clear H
           have H := H1
           clear H1
           obtain rfl := Option.some.inj H
           have hcz60 := blk_all BK137.out
           simp only [CellsAt, List.toList_toArray, Nat.reduceAdd, and_true] at hcz60
           have hfz60 := bF BK137.out
           have p141 : 0 ≤ (a0_2 : Int) := of_decide_eq_true (by first | (with_reducible assumption) | assumption)
           have q141 : a0_2 < (l1.length : Int) := of_decide_eq_true (by first | (with_reducible assumption) | assumption)
           obtain ⟨ad141, A141_5, c141_5, A141_6, c141_6, e141, hx141_0, hx141_1, hx141_2, hx141_3, hx141_4, hx141_5, hx141_6, hl141_5, hi141_5, hl141_6, hi141_6⟩ := at_T54 HR1.out a0_2 p141 q141
           cases e141
           replace hx141_0 := (HB.out.cell (World.block_lt_of_cell? w _ hx141_0)).trans hx141_0
           replace hx141_1 := (HB.out.cell (World.block_lt_of_cell? w _ hx141_1)).trans hx141_1
           replace hx141_2 := (HB.out.cell (World.block_lt_of_cell? w _ hx141_2)).trans hx141_2
           replace hx141_3 := (HB.out.cell (World.block_lt_of_cell? w _ hx141_3)).trans hx141_3
           replace hx141_4 := (HB.out.cell (World.block_lt_of_cell? w _ hx141_4)).trans hx141_4
           replace hx141_5 := (HB.out.cell (World.block_lt_of_cell? w _ hx141_5)).trans hx141_5
           replace hx141_6 := (HB.out.cell (World.block_lt_of_cell? w _ hx141_6)).trans hx141_6
           have HR141_5 := Aside0.mk hi141_5
           have HC141_5 := Aside0.mk hl141_5
           clear hi141_5 hl141_5
           have HR141_6 := Aside0.mk hi141_6
           have HC141_6 := Aside0.mk hl141_6
           clear hi141_6 hl141_6
           replace p141 := eq_true p141
           replace q141 := eq_true q141
           go_wp2_with (first | (go_at_call 30; (with_reducible refine (slices_Contains_int_int.calls kj16 _ _ ((rd_T54 l1 a0_2).f5) a0_3 false _ ?side1 ?side2 A24.out).mono ?_); (case side1 => repeat (first | exact (Kd.C_below HR141_5.out HB.out) | (with_reducible refine Kd.C_alloc ?_ _) | (with_reducible refine Kd.C_drewN ?_ _) | (with_reducible refine Kd.C_drew ?_))); (case side2 => exact HC141_5.out); rintro e w' ⟨rfl, ⟨nd, rfl⟩⟩; (try first | exact ⟨rfl, _, World.drewN_drewN _ _ _⟩ | exact ⟨rfl, _, Eq.trans (World.drewN_drewN _ _ _) (congrArg (World.drewN _) (Nat.add_assoc _ _ _))⟩)))
           repeat (go_quiet (first | (go_at_call 30; (with_reducible refine (slices_Contains_int_int.calls kj16 _ _ ((rd_T54 l1 a0_2).f5) a0_3 false _ ?side1 ?side2 A24.out).mono ?_); (case side1 => repeat (first | exact (Kd.C_below HR141_5.out HB.out) | (with_reducible refine Kd.C_alloc ?_ _) | (with_reducible refine Kd.C_drewN ?_ _) | (with_reducible refine Kd.C_drew ?_))); (case side2 => exact HC141_5.out); rintro e w' ⟨rfl, ⟨nd, rfl⟩⟩; (try first | exact ⟨rfl, _, World.drewN_drewN _ _ _⟩ | exact ⟨rfl, _, Eq.trans (World.drewN_drewN _ _ _) (congrArg (World.drewN _) (Nat.add_assoc _ _ _))⟩))); try go_wp2_with (first | (go_at_call 30; (with_reducible refine (slices_Contains_int_int.calls kj16 _ _ ((rd_T54 l1 a0_2).f5) a0_3 false _ ?side1 ?side2 A24.out).mono ?_); (case side1 => repeat (first | exact (Kd.C_below HR141_5.out HB.out) | (with_reducible refine Kd.C_alloc ?_ _) | (with_reducible refine Kd.C_drewN ?_ _) | (with_reducible refine Kd.C_drew ?_))); (case side2 => exact HC141_5.out); rintro e w' ⟨rfl, ⟨nd, rfl⟩⟩; (try first | exact ⟨rfl, _, World.drewN_drewN _ _ _⟩ | exact ⟨rfl, _, Eq.trans (World.drewN_drewN _ _ _) (congrArg (World.drewN _) (Nat.add_assoc _ _ _))⟩))))
           go_ret
           exact ⟨by first | rfl | (simp [*] <;> rfl), by repeat (first | (with_reducible first | exact HB.out | apply pA | apply pN | apply p1 | refine pS ?_ GE137.out) | exact HB.out)⟩
         ·rw [if_neg c23] at H
          exact absurd H (by simp)
        ·rw [if_neg c22] at H
         exact absurd H (by simp)
 ·rw [if_neg c4] at H
  have c4b0 : (t138 == 0) = false := oC c4
  have c4b1 : (t138 != 0) = true := bne_iff_ne.mpr c4
  obtain rfl := Option.some.inj H
  go_enter Tryd.func12, Tryd.ntmps12
  go_wp2_with (first | (refine wpList_load_cells (by rfl) 23 _ (by exact rfl) ⟨gb137, 0, none⟩ (by rfl) _ _ (cells_of_blk (by (with_reducible repeat (first | refine bN ?_ _ | refine bW ?_ | refine bA ?_ _)); exact BK137.out)) Tryd.underlying23 rfl (by kernel_rfl) ?_) | ((with_reducible refine gate_dst (N := 2) rfl ?_); (try (refine gate_guard (by rfl) ?_; dsimp only)); refine box_event ?hg (N := 2) ?hd (cs := #[.string a0_0, .string a0_1, .int .i64 a0_2, .int .i64 a0_3, .int .i64 a0_4, .int .i64 a0_5, .int .i64 a0_6, .int .i64 a0_7, .int .i64 a0_8, .int .i64 a0_9, .int .i64 a0_10]) (t := 23) ?hr ?_; (case hd => rfl); (case hg => rfl); (case hr => first | (go_simp; done) | (go_simp; rfl)); intro gb137 hg w61 hbox hb; have n0_ := q_ (pT (by repeat (first | (with_reducible first | exact HB.out | apply pA | apply pN | apply p1) | exact HB.out)) hb); have n1_ := q_ (hbox); have n2_ := q_ ((by rw [hg]; exact (pZ (by repeat (first | (with_reducible first | exact HB.out | apply pA | apply pN | apply p1) | exact HB.out))) : w.heap.size ≤ gb137)); have n3_ := n2_; clear HB; have HB := n0_; have BK137 := n1_; have GW137 := n2_; have GE137 := n3_; clear n0_ n1_ n2_ n3_; clear hb hbox hg) | (go_at_call 27; (with_reducible refine (product_Check.calls k _ _ l1 t138 _ ?side1 ?side2 A3.out).mono ?_); (case side1 => repeat (first | exact (Kd.C_below HR1.out HB.out) | (with_reducible refine Kd.C_alloc ?_ _) | (with_reducible refine Kd.C_drewN ?_ _) | (with_reducible refine Kd.C_drew ?_))); (case side2 => exact HC1.out); rintro e w62 ⟨rfl, hb⟩; have n0_ := q_ (bB (g := gb137) (by (with_reducible repeat (first | refine bN ?_ _ | refine bW ?_ | refine bA ?_ _)); exact BK137.out) hb); have n1_ := q_ (pT (by repeat (first | (with_reducible first | exact HB.out | apply pA | apply pN | apply p1 | refine pS ?_ GE137.out) | exact HB.out)) hb); clear BK137; clear HB; have BK137 := n0_; have HB := n1_; clear n0_ n1_; (try clear hb); (try clear hb2); (try clear hk); (try clear hi)))
  repeat (go_quiet (first | ((with_reducible refine gate_dst (N := 2) rfl ?_); (try (refine gate_guard (by rfl) ?_; dsimp only)); refine box_event ?hg (N := 2) ?hd (cs := #[.string a0_0, .string a0_1, .int .i64 a0_2, .int .i64 a0_3, .int .i64 a0_4, .int .i64 a0_5, .int .i64 a0_6, .int .i64 a0_7, .int .i64 a0_8, .int .i64 a0_9, .int .i64 a0_10]) (t := 23) ?hr ?_; (case hd => rfl); (case hg => rfl); (case hr => first | (go_simp; done) | (go_simp; rfl)); intro gb137 hg w61 hbox hb; have n0_ := q_ (pT (by repeat (first | (with_reducible first | exact HB.out | apply pA | apply pN | apply p1) | exact HB.out)) hb); have n1_ := q_ (hbox); have n2_ := q_ ((by rw [hg]; exact (pZ (by repeat (first | (with_reducible first | exact HB.out | apply pA | apply pN | apply p1) | exact HB.out))) : w.heap.size ≤ gb137)); have n3_ := n2_; clear HB; have HB := n0_; have BK137 := n1_; have GW137 := n2_; have GE137 := n3_; clear n0_ n1_ n2_ n3_; clear hb hbox hg) | (go_at_call 27; (with_reducible refine (product_Check.calls k _ _ l1 t138 _ ?side1 ?side2 A3.out).mono ?_); (case side1 => repeat (first | exact (Kd.C_below HR1.out HB.out) | (with_reducible refine Kd.C_alloc ?_ _) | (with_reducible refine Kd.C_drewN ?_ _) | (with_reducible refine Kd.C_drew ?_))); (case side2 => exact HC1.out); rintro e w62 ⟨rfl, hb⟩; have n0_ := q_ (bB (g := gb137) (by (with_reducible repeat (first | refine bN ?_ _ | refine bW ?_ | refine bA ?_ _)); exact BK137.out) hb); have n1_ := q_ (pT (by repeat (first | (with_reducible first | exact HB.out | apply pA | apply pN | apply p1 | refine pS ?_ GE137.out) | exact HB.out)) hb); clear BK137; clear HB; have BK137 := n0_; have HB := n1_; clear n0_ n1_; (try clear hb); (try clear hb2); (try clear hk); (try clear hi))); try go_wp2_with (first | (refine wpList_load_cells (by rfl) 23 _ (by exact rfl) ⟨gb137, 0, none⟩ (by rfl) _ _ (cells_of_blk (by (with_reducible repeat (first | refine bN ?_ _ | refine bW ?_ | refine bA ?_ _)); exact BK137.out)) Tryd.underlying23 rfl (by kernel_rfl) ?_) | (refine wpList_load_cells (by rfl) 23 _ (by exact rfl) ⟨gb137, 0, none⟩ (by rfl) _ _ (cells_of_blk (by (with_reducible repeat (first | refine bN ?_ _ | refine bW ?_ | refine bA ?_ _)); exact BK137.out)) Tryd.underlying23 rfl (by kernel_rfl) ?_) | ((with_reducible refine gate_dst (N := 2) rfl ?_); (try (refine gate_guard (by rfl) ?_; dsimp only)); refine box_event ?hg (N := 2) ?hd (cs := #[.string a0_0, .string a0_1, .int .i64 a0_2, .int .i64 a0_3, .int .i64 a0_4, .int .i64 a0_5, .int .i64 a0_6, .int .i64 a0_7, .int .i64 a0_8, .int .i64 a0_9, .int .i64 a0_10]) (t := 23) ?hr ?_; (case hd => rfl); (case hg => rfl); (case hr => first | (go_simp; done) | (go_simp; rfl)); intro gb137 hg w61 hbox hb; have n0_ := q_ (pT (by repeat (first | (with_reducible first | exact HB.out | apply pA | apply pN | apply p1) | exact HB.out)) hb); have n1_ := q_ (hbox); have n2_ := q_ ((by rw [hg]; exact (pZ (by repeat (first | (with_reducible first | exact HB.out | apply pA | apply pN | apply p1) | exact HB.out))) : w.heap.size ≤ gb137)); have n3_ := n2_; clear HB; have HB := n0_; have BK137 := n1_; have GW137 := n2_; have GE137 := n3_; clear n0_ n1_ n2_ n3_; clear hb hbox hg) | (go_at_call 27; (with_reducible refine (product_Check.calls k _ _ l1 t138 _ ?side1 ?side2 A3.out).mono ?_); (case side1 => repeat (first | exact (Kd.C_below HR1.out HB.out) | (with_reducible refine Kd.C_alloc ?_ _) | (with_reducible refine Kd.C_drewN ?_ _) | (with_reducible refine Kd.C_drew ?_))); (case side2 => exact HC1.out); rintro e w62 ⟨rfl, hb⟩; have n0_ := q_ (bB (g := gb137) (by (with_reducible repeat (first | refine bN ?_ _ | refine bW ?_ | refine bA ?_ _)); exact BK137.out) hb); have n1_ := q_ (pT (by repeat (first | (with_reducible first | exact HB.out | apply pA | apply pN | apply p1 | refine pS ?_ GE137.out) | exact HB.out)) hb); clear BK137; clear HB; have BK137 := n0_; have HB := n1_; clear n0_ n1_; (try clear hb); (try clear hb2); (try clear hk); (try clear hi))))
  go_ret
  exact ⟨by first | rfl | (simp [*] <;> rfl), by repeat (first | (with_reducible first | exact HB.out | apply pA | apply pN | apply p1 | refine pS ?_ GE137.out) | exact HB.out)⟩
end Go.Proofs.YtblmgmhjlbkncaaDoor.PA
namespace Go.Proofs.YtblmgmhjlbkncaaDoor.PA
open Go.RowKit Go.Proofs.YtblmgmhjlbkncaaDoorW.PrintWords Go.Proofs.YtblmgmhjlbkncaaDoorW.PrintLast Go.Proofs.YtblmgmhjlbkncaaDoorW.PrintMore
attribute [local go_sem] max2_int min2_int max_two min_two max_three min_three max_four min_four
set_option linter.unusedVariables false
set_option linter.unusedSimpArgs false
def board_size.f (a0_0 : Int) (a0_1 : Int) : Option (Int) := some (wrap64 (a0_1 - a0_0))
set_option maxHeartbeats 8000000 in
set_option maxRecDepth 100000 in
theorem board_size.calls (a0_0 : Int) (a0_1 : Int) (r : Int) (w : World) (h : board_size.f a0_0 a0_1 = some r) :
  Calls Tryd.prog 69 #[.agg #[.int .i64 a0_0, .int .i64 a0_1]] w fun e w' => e = .returned (.int .i64 r) ∧ Below w.heap.size w w' := by
 have hu31 := Tryd.underlying31
 have HB := q_ (Below.refl w.heap.size w)
 have H : (some (wrap64 (a0_1 - a0_0))) = some r := h
 clear h
 obtain rfl := Option.some.inj H
 go_enter Tryd.func69, Tryd.ntmps69
 go_wp2_with (first | ((with_reducible refine gate_dst (N := 1) rfl ?_); refine box_event ?hg (N := 1) ?hd (cs := #[.int .i64 a0_0, .int .i64 a0_1]) (t := 31) ?hr ?_; (case hd => rfl); (case hg => rfl); (case hr => first | (go_simp; done) | (go_simp; rfl)); intro gb144 hg w2 hbox hb; have n0_ := q_ (pT (by repeat (first | (with_reducible first | exact HB.out | apply pA | apply pN | apply p1) | exact HB.out)) hb); have n1_ := q_ (hbox); have n2_ := q_ ((by rw [hg]; exact (pZ (by repeat (first | (with_reducible first | exact HB.out | apply pA | apply pN | apply p1) | exact HB.out))) : w.heap.size ≤ gb144)); have n3_ := n2_; clear HB; have HB := n0_; have BK144 := n1_; have GW144 := n2_; have GE144 := n3_; clear n0_ n1_ n2_ n3_; clear hb hbox hg; have hcz3_0 : w2.cell? ⟨gb144, 0, none⟩ = some (.int .i64 a0_0) := (bC BK144.out 0).trans rfl; have hcz3_1 : w2.cell? ⟨gb144, 1, none⟩ = some (.int .i64 a0_1) := (bC BK144.out 1).trans rfl; have hfz3_0 := bF BK144.out 0; have hfz3_1 := bF BK144.out 1))
 go_ret
 exact ⟨by first | rfl | (simp [*] <;> rfl), by repeat (first | (with_reducible first | exact HB.out | apply pA | apply pN | apply p1 | refine pS ?_ GE144.out) | exact HB.out)⟩
def board_Length.f (a0_0 : ByteArray) (a0_1 : ByteArray) (a0_2 : ByteArray) (a0_3 : Int) (a0_4 : Int) (a0_5 : Int) (a0_6 : Int) (a0_7 : Int) (a0_8 : Int) (a0_9 : Int) (a0_10 : Int) (l0_11 : List (S176)) (a0_12 : Int) (a0_13 : Int) (a0_14 : Int) (a0_15 : Int) (a0_16 : Bool) (a0_17 : Int) : Option (Int) := if a0_8 < 0 then (some 0) else (if a0_8 ≥ a0_9 then (some 0) else (if a0_9 > 20000 then (some 0) else ((board_size.f a0_8 a0_9).bind fun t147 => (some t147))))
set_option maxHeartbeats 8000000 in
set_option maxRecDepth 100000 in
theorem board_Length.calls (a0_0 : ByteArray) (a0_1 : ByteArray) (a0_2 : ByteArray) (a0_3 : Int) (a0_4 : Int) (a0_5 : Int) (a0_6 : Int) (a0_7 : Int) (a0_8 : Int) (a0_9 : Int) (a0_10 : Int) (A0_11 : Option Addr) (c0_11 : Nat) (l0_11 : List (S176)) (a0_12 : Int) (a0_13 : Int) (a0_14 : Int) (a0_15 : Int) (a0_16 : Bool) (a0_17 : Int) (r : Int) (w : World) (hr0_11 : Kd.C k176 w A0_11 l0_11.length l0_11) (hc0_11 : l0_11.length ≤ c0_11) (h : board_Length.f a0_0 a0_1 a0_2 a0_3 a0_4 a0_5 a0_6 a0_7 a0_8 a0_9 a0_10 l0_11 a0_12 a0_13 a0_14 a0_15 a0_16 a0_17 = some r) :
  Calls Tryd.prog 37 #[.agg #[.string a0_0, .string a0_1, .string a0_2, .int .i64 a0_3, .int .i64 a0_4, .int .i64 a0_5, .int .i64 a0_6, .int .i64 a0_7, .int .i64 a0_8, .int .i64 a0_9, .int .i64 a0_10, .slice A0_11 l0_11.length c0_11, .int .i64 a0_12, .int .i64 a0_13, .int .i64 a0_14, .int .i64 a0_15, .bool a0_16, .int .i64 a0_17]] w fun e w' => e = .returned (.int .i64 r) ∧ Below w.heap.size w w' := by
 have hu38 := Tryd.underlying38
 have hu31 := Tryd.underlying31
 have HR0_11 := Aside0.mk hr0_11
 have HC0_11 := Aside0.mk hc0_11
 clear hr0_11 hc0_11
 have HB := q_ (Below.refl w.heap.size w)
 have H : (if a0_8 < 0 then (some 0) else (if a0_8 ≥ a0_9 then (some 0) else (if a0_9 > 20000 then (some 0) else ((board_size.f a0_8 a0_9).bind fun t147 => (some t147))))) = some r := h
 clear h
 by_cases c2 : a0_8 < 0
 ·rw [if_pos c2] at H
  have c2b0 : decide (a0_8 < 0) = true := decide_eq_true c2
  clear c2
  obtain rfl := Option.some.inj H
  go_enter Tryd.func37, Tryd.ntmps37
  go_wp2_with (first | (refine wpList_load_cells (by rfl) 38 _ (by exact rfl) ⟨gb145, 0, none⟩ (by rfl) _ _ (cells_of_blk (by (with_reducible repeat (first | refine bN ?_ _ | refine bW ?_ | refine bA ?_ _)); exact BK145.out)) Tryd.underlying38 rfl (by kernel_rfl) ?_) | ((with_reducible refine gate_dst (N := 1) rfl ?_); refine box_event ?hg (N := 1) ?hd (cs := #[.string a0_0, .string a0_1, .string a0_2, .int .i64 a0_3, .int .i64 a0_4, .int .i64 a0_5, .int .i64 a0_6, .int .i64 a0_7, .int .i64 a0_8, .int .i64 a0_9, .int .i64 a0_10, .slice A0_11 l0_11.length c0_11, .int .i64 a0_12, .int .i64 a0_13, .int .i64 a0_14, .int .i64 a0_15, .bool a0_16, .int .i64 a0_17]) (t := 38) ?hr ?_; (case hd => rfl); (case hg => rfl); (case hr => first | (go_simp; done) | (go_simp; rfl)); intro gb145 hg w3 hbox hb; have n0_ := q_ (pT (by repeat (first | (with_reducible first | exact HB.out | apply pA | apply pN | apply p1) | exact HB.out)) hb); have n1_ := q_ (hbox); have n2_ := q_ ((by rw [hg]; exact (pZ (by repeat (first | (with_reducible first | exact HB.out | apply pA | apply pN | apply p1) | exact HB.out))) : w.heap.size ≤ gb145)); have n3_ := n2_; clear HB; have HB := n0_; have BK145 := n1_; have GW145 := n2_; have GE145 := n3_; clear n0_ n1_ n2_ n3_; clear hb hbox hg; have hcz4 := blk_all BK145.out; simp only [CellsAt, List.toList_toArray, Nat.reduceAdd, and_true] at hcz4; have hfz4 := bF BK145.out) | ((with_reducible refine gate_dst (N := 3) rfl ?_); refine box_event ?hg (N := 3) ?hd (cs := #[.int .i64 0, .int .i64 0]) (t := 31) ?hr ?_; (case hd => rfl); (case hg => rfl); (case hr => first | (go_simp; done) | (go_simp; rfl)); intro gb146 hg w5 hbox hb; have n0_ := q_ (bB (g := gb145) (by (with_reducible repeat (first | refine bN ?_ _ | refine bW ?_ | refine bA ?_ _)); exact BK145.out) hb); have n1_ := q_ (pT (by repeat (first | (with_reducible first | exact HB.out | apply pA | apply pN | apply p1 | refine pS ?_ GE145.out) | exact HB.out)) hb); have n2_ := q_ (hbox); have n3_ := q_ ((by rw [hg]; exact (pZ (by repeat (first | (with_reducible first | exact HB.out | apply pA | apply pN | apply p1 | refine pS ?_ GE145.out) | exact HB.out))) : w.heap.size ≤ gb146)); have n4_ := n3_; have n5_ := q_ ((by rw [hg]; exact Nat.ne_of_lt (blk_lt (g := gb145) (by (with_reducible repeat (first | refine bN ?_ _ | refine bW ?_ | refine bA ?_ _)); exact BK145.out)) : gb145 ≠ gb146)); have n6_ := q_ ((by rw [hg]; exact Nat.ne_of_gt (blk_lt (g := gb145) (by (with_reducible repeat (first | refine bN ?_ _ | refine bW ?_ | refine bA ?_ _)); exact BK145.out)) : gb146 ≠ gb145)); clear BK145; clear HB; have BK145 := n0_; have HB := n1_; have BK146 := n2_; have GW146 := n3_; have GE146 := n4_; have NB145_146 := n5_; have NB146_145 := n6_; clear n0_ n1_ n2_ n3_ n4_ n5_ n6_; clear hb hbox hg; have hnb6 := NB146_145.out; have hnc6 := NB145_146.out; have hcz7_0 : w5.cell? ⟨gb146, 0, none⟩ = some (.int .i64 0) := (bC BK146.out 0).trans rfl; have hcz7_1 : w5.cell? ⟨gb146, 1, none⟩ = some (.int .i64 0) := (bC BK146.out 1).trans rfl; have hfz7_0 := bF BK146.out 0; have hfz7_1 := bF BK146.out 1))
  go_ret
  exact ⟨by first | rfl | (simp [*] <;> rfl), by repeat (first | (with_reducible first | exact HB.out | apply pA | apply pN | apply p1 | refine pS ?_ GE145.out | refine pS ?_ GE146.out) | exact HB.out)⟩
 ·rw [if_neg c2] at H
  have c2b0 : decide (a0_8 < 0) = false := decide_eq_false c2
  clear c2
  by_cases c8 : a0_8 ≥ a0_9
  ·rw [if_pos c8] at H
   have c8b0 : decide (a0_9 ≤ a0_8) = true := decide_eq_true c8
   clear c8
   obtain rfl := Option.some.inj H
   go_enter Tryd.func37, Tryd.ntmps37
   go_wp2_with (first | (refine wpList_load_cells (by rfl) 38 _ (by exact rfl) ⟨gb145, 0, none⟩ (by rfl) _ _ (cells_of_blk (by (with_reducible repeat (first | refine bN ?_ _ | refine bW ?_ | refine bA ?_ _)); exact BK145.out)) Tryd.underlying38 rfl (by kernel_rfl) ?_) | ((with_reducible refine gate_dst (N := 1) rfl ?_); refine box_event ?hg (N := 1) ?hd (cs := #[.string a0_0, .string a0_1, .string a0_2, .int .i64 a0_3, .int .i64 a0_4, .int .i64 a0_5, .int .i64 a0_6, .int .i64 a0_7, .int .i64 a0_8, .int .i64 a0_9, .int .i64 a0_10, .slice A0_11 l0_11.length c0_11, .int .i64 a0_12, .int .i64 a0_13, .int .i64 a0_14, .int .i64 a0_15, .bool a0_16, .int .i64 a0_17]) (t := 38) ?hr ?_; (case hd => rfl); (case hg => rfl); (case hr => first | (go_simp; done) | (go_simp; rfl)); intro gb145 hg w9 hbox hb; have n0_ := q_ (pT (by repeat (first | (with_reducible first | exact HB.out | apply pA | apply pN | apply p1) | exact HB.out)) hb); have n1_ := q_ (hbox); have n2_ := q_ ((by rw [hg]; exact (pZ (by repeat (first | (with_reducible first | exact HB.out | apply pA | apply pN | apply p1) | exact HB.out))) : w.heap.size ≤ gb145)); have n3_ := n2_; clear HB; have HB := n0_; have BK145 := n1_; have GW145 := n2_; have GE145 := n3_; clear n0_ n1_ n2_ n3_; clear hb hbox hg; have hcz10 := blk_all BK145.out; simp only [CellsAt, List.toList_toArray, Nat.reduceAdd, and_true] at hcz10; have hfz10 := bF BK145.out) | ((with_reducible refine gate_dst (N := 3) rfl ?_); refine box_event ?hg (N := 3) ?hd (cs := #[.int .i64 0, .int .i64 0]) (t := 31) ?hr ?_; (case hd => rfl); (case hg => rfl); (case hr => first | (go_simp; done) | (go_simp; rfl)); intro gb146 hg w11 hbox hb; have n0_ := q_ (bB (g := gb145) (by (with_reducible repeat (first | refine bN ?_ _ | refine bW ?_ | refine bA ?_ _)); exact BK145.out) hb); have n1_ := q_ (pT (by repeat (first | (with_reducible first | exact HB.out | apply pA | apply pN | apply p1 | refine pS ?_ GE145.out) | exact HB.out)) hb); have n2_ := q_ (hbox); have n3_ := q_ ((by rw [hg]; exact (pZ (by repeat (first | (with_reducible first | exact HB.out | apply pA | apply pN | apply p1 | refine pS ?_ GE145.out) | exact HB.out))) : w.heap.size ≤ gb146)); have n4_ := n3_; have n5_ := q_ ((by rw [hg]; exact Nat.ne_of_lt (blk_lt (g := gb145) (by (with_reducible repeat (first | refine bN ?_ _ | refine bW ?_ | refine bA ?_ _)); exact BK145.out)) : gb145 ≠ gb146)); have n6_ := q_ ((by rw [hg]; exact Nat.ne_of_gt (blk_lt (g := gb145) (by (with_reducible repeat (first | refine bN ?_ _ | refine bW ?_ | refine bA ?_ _)); exact BK145.out)) : gb146 ≠ gb145)); clear BK145; clear HB; have BK145 := n0_; have HB := n1_; have BK146 := n2_; have GW146 := n3_; have GE146 := n4_; have NB145_146 := n5_; have NB146_145 := n6_; clear n0_ n1_ n2_ n3_ n4_ n5_ n6_; clear hb hbox hg; have hnb12 := NB146_145.out; have hnc12 := NB145_146.out; have hcz13_0 : w11.cell? ⟨gb146, 0, none⟩ = some (.int .i64 0) := (bC BK146.out 0).trans rfl; have hcz13_1 : w11.cell? ⟨gb146, 1, none⟩ = some (.int .i64 0) := (bC BK146.out 1).trans rfl; have hfz13_0 := bF BK146.out 0; have hfz13_1 := bF BK146.out 1))
   go_ret
   exact ⟨by first | rfl | (simp [*] <;> rfl), by repeat (first | (with_reducible first | exact HB.out | apply pA | apply pN | apply p1 | refine pS ?_ GE145.out | refine pS ?_ GE146.out) | exact HB.out)⟩
  ·rw [if_neg c8] at H
   have c8b0 : decide (a0_9 ≤ a0_8) = false := decide_eq_false c8
   clear c8
   by_cases c14 : a0_9 > 20000
   ·rw [if_pos c14] at H
    have c14b0 : decide (20000 < a0_9) = true := decide_eq_true c14
    clear c14
    obtain rfl := Option.some.inj H
    go_enter Tryd.func37, Tryd.ntmps37
    go_wp2_with (first | (refine wpList_load_cells (by rfl) 38 _ (by exact rfl) ⟨gb145, 0, none⟩ (by rfl) _ _ (cells_of_blk (by (with_reducible repeat (first | refine bN ?_ _ | refine bW ?_ | refine bA ?_ _)); exact BK145.out)) Tryd.underlying38 rfl (by kernel_rfl) ?_) | ((with_reducible refine gate_dst (N := 1) rfl ?_); refine box_event ?hg (N := 1) ?hd (cs := #[.string a0_0, .string a0_1, .string a0_2, .int .i64 a0_3, .int .i64 a0_4, .int .i64 a0_5, .int .i64 a0_6, .int .i64 a0_7, .int .i64 a0_8, .int .i64 a0_9, .int .i64 a0_10, .slice A0_11 l0_11.length c0_11, .int .i64 a0_12, .int .i64 a0_13, .int .i64 a0_14, .int .i64 a0_15, .bool a0_16, .int .i64 a0_17]) (t := 38) ?hr ?_; (case hd => rfl); (case hg => rfl); (case hr => first | (go_simp; done) | (go_simp; rfl)); intro gb145 hg w15 hbox hb; have n0_ := q_ (pT (by repeat (first | (with_reducible first | exact HB.out | apply pA | apply pN | apply p1) | exact HB.out)) hb); have n1_ := q_ (hbox); have n2_ := q_ ((by rw [hg]; exact (pZ (by repeat (first | (with_reducible first | exact HB.out | apply pA | apply pN | apply p1) | exact HB.out))) : w.heap.size ≤ gb145)); have n3_ := n2_; clear HB; have HB := n0_; have BK145 := n1_; have GW145 := n2_; have GE145 := n3_; clear n0_ n1_ n2_ n3_; clear hb hbox hg; have hcz16 := blk_all BK145.out; simp only [CellsAt, List.toList_toArray, Nat.reduceAdd, and_true] at hcz16; have hfz16 := bF BK145.out) | ((with_reducible refine gate_dst (N := 3) rfl ?_); refine box_event ?hg (N := 3) ?hd (cs := #[.int .i64 0, .int .i64 0]) (t := 31) ?hr ?_; (case hd => rfl); (case hg => rfl); (case hr => first | (go_simp; done) | (go_simp; rfl)); intro gb146 hg w17 hbox hb; have n0_ := q_ (bB (g := gb145) (by (with_reducible repeat (first | refine bN ?_ _ | refine bW ?_ | refine bA ?_ _)); exact BK145.out) hb); have n1_ := q_ (pT (by repeat (first | (with_reducible first | exact HB.out | apply pA | apply pN | apply p1 | refine pS ?_ GE145.out) | exact HB.out)) hb); have n2_ := q_ (hbox); have n3_ := q_ ((by rw [hg]; exact (pZ (by repeat (first | (with_reducible first | exact HB.out | apply pA | apply pN | apply p1 | refine pS ?_ GE145.out) | exact HB.out))) : w.heap.size ≤ gb146)); have n4_ := n3_; have n5_ := q_ ((by rw [hg]; exact Nat.ne_of_lt (blk_lt (g := gb145) (by (with_reducible repeat (first | refine bN ?_ _ | refine bW ?_ | refine bA ?_ _)); exact BK145.out)) : gb145 ≠ gb146)); have n6_ := q_ ((by rw [hg]; exact Nat.ne_of_gt (blk_lt (g := gb145) (by (with_reducible repeat (first | refine bN ?_ _ | refine bW ?_ | refine bA ?_ _)); exact BK145.out)) : gb146 ≠ gb145)); clear BK145; clear HB; have BK145 := n0_; have HB := n1_; have BK146 := n2_; have GW146 := n3_; have GE146 := n4_; have NB145_146 := n5_; have NB146_145 := n6_; clear n0_ n1_ n2_ n3_ n4_ n5_ n6_; clear hb hbox hg; have hnb18 := NB146_145.out; have hnc18 := NB145_146.out; have hcz19_0 : w17.cell? ⟨gb146, 0, none⟩ = some (.int .i64 0) := (bC BK146.out 0).trans rfl; have hcz19_1 : w17.cell? ⟨gb146, 1, none⟩ = some (.int .i64 0) := (bC BK146.out 1).trans rfl; have hfz19_0 := bF BK146.out 0; have hfz19_1 := bF BK146.out 1))
    go_ret
    exact ⟨by first | rfl | (simp [*] <;> rfl), by repeat (first | (with_reducible first | exact HB.out | apply pA | apply pN | apply p1 | refine pS ?_ GE145.out | refine pS ?_ GE146.out) | exact HB.out)⟩
   ·rw [if_neg c14] at H
    have c14b0 : decide (20000 < a0_9) = false := decide_eq_false c14
    clear c14
    replace H := oB H
    obtain ⟨t147, A200, H⟩ := H
    replace H : (some t147) = some r := H
    have A20 := Aside0.mk A200
    clear A200
    obtain rfl := Option.some.inj H
    go_enter Tryd.func37, Tryd.ntmps37
    go_wp2_with (first | (refine wpList_load_cells (by rfl) 38 _ (by exact rfl) ⟨gb145, 0, none⟩ (by rfl) _ _ (cells_of_blk (by (with_reducible repeat (first | refine bN ?_ _ | refine bW ?_ | refine bA ?_ _)); exact BK145.out)) Tryd.underlying38 rfl (by kernel_rfl) ?_) | ((with_reducible refine gate_dst (N := 1) rfl ?_); refine box_event ?hg (N := 1) ?hd (cs := #[.string a0_0, .string a0_1, .string a0_2, .int .i64 a0_3, .int .i64 a0_4, .int .i64 a0_5, .int .i64 a0_6, .int .i64 a0_7, .int .i64 a0_8, .int .i64 a0_9, .int .i64 a0_10, .slice A0_11 l0_11.length c0_11, .int .i64 a0_12, .int .i64 a0_13, .int .i64 a0_14, .int .i64 a0_15, .bool a0_16, .int .i64 a0_17]) (t := 38) ?hr ?_; (case hd => rfl); (case hg => rfl); (case hr => first | (go_simp; done) | (go_simp; rfl)); intro gb145 hg w21 hbox hb; have n0_ := q_ (pT (by repeat (first | (with_reducible first | exact HB.out | apply pA | apply pN | apply p1) | exact HB.out)) hb); have n1_ := q_ (hbox); have n2_ := q_ ((by rw [hg]; exact (pZ (by repeat (first | (with_reducible first | exact HB.out | apply pA | apply pN | apply p1) | exact HB.out))) : w.heap.size ≤ gb145)); have n3_ := n2_; clear HB; have HB := n0_; have BK145 := n1_; have GW145 := n2_; have GE145 := n3_; clear n0_ n1_ n2_ n3_; clear hb hbox hg; have hcz22 := blk_all BK145.out; simp only [CellsAt, List.toList_toArray, Nat.reduceAdd, and_true] at hcz22; have hfz22 := bF BK145.out) | ((with_reducible refine gate_dst (N := 3) rfl ?_); refine box_event ?hg (N := 3) ?hd (cs := #[.int .i64 0, .int .i64 0]) (t := 31) ?hr ?_; (case hd => rfl); (case hg => rfl); (case hr => first | (go_simp; done) | (go_simp; rfl)); intro gb146 hg w23 hbox hb; have n0_ := q_ (bB (g := gb145) (by (with_reducible repeat (first | refine bN ?_ _ | refine bW ?_ | refine bA ?_ _)); exact BK145.out) hb); have n1_ := q_ (pT (by repeat (first | (with_reducible first | exact HB.out | apply pA | apply pN | apply p1 | refine pS ?_ GE145.out) | exact HB.out)) hb); have n2_ := q_ (hbox); have n3_ := q_ ((by rw [hg]; exact (pZ (by repeat (first | (with_reducible first | exact HB.out | apply pA | apply pN | apply p1 | refine pS ?_ GE145.out) | exact HB.out))) : w.heap.size ≤ gb146)); have n4_ := n3_; have n5_ := q_ ((by rw [hg]; exact Nat.ne_of_lt (blk_lt (g := gb145) (by (with_reducible repeat (first | refine bN ?_ _ | refine bW ?_ | refine bA ?_ _)); exact BK145.out)) : gb145 ≠ gb146)); have n6_ := q_ ((by rw [hg]; exact Nat.ne_of_gt (blk_lt (g := gb145) (by (with_reducible repeat (first | refine bN ?_ _ | refine bW ?_ | refine bA ?_ _)); exact BK145.out)) : gb146 ≠ gb145)); clear BK145; clear HB; have BK145 := n0_; have HB := n1_; have BK146 := n2_; have GW146 := n3_; have GE146 := n4_; have NB145_146 := n5_; have NB146_145 := n6_; clear n0_ n1_ n2_ n3_ n4_ n5_ n6_; clear hb hbox hg; have hnb24 := NB146_145.out; have hnc24 := NB145_146.out; have hcz25_0 : w23.cell? ⟨gb146, 0, none⟩ = some (.int .i64 0) := (bC BK146.out 0).trans rfl; have hcz25_1 : w23.cell? ⟨gb146, 1, none⟩ = some (.int .i64 0) := (bC BK146.out 1).trans rfl; have hfz25_0 := bF BK146.out 0; have hfz25_1 := bF BK146.out 1) | ((with_reducible refine gate_callee (f := 69) rfl ?_); refine goesL_ (some 23) rfl rfl Tryd.func69 (by kernel_rfl) rfl #[.agg #[.int .i64 a0_8, .int .i64 a0_9]] rfl (by first | rfl | (simp only [List.map_toArray]; rfl)) ?_; (with_reducible refine (board_size.calls a0_8 a0_9 t147 _ A20.out).mono ?_); rintro e w26 ⟨rfl, hb⟩; refine ⟨_, rfl, ?_⟩; have n0_ := q_ (bB (g := gb145) (o := .cells #[.string a0_0, .string a0_1, .string a0_2, .int .i64 a0_3, .int .i64 a0_4, .int .i64 a0_5, .int .i64 a0_6, .int .i64 a0_7, .int .i64 a0_8, .int .i64 a0_9, .int .i64 a0_10, .slice A0_11 l0_11.length c0_11, .int .i64 a0_12, .int .i64 a0_13, .int .i64 a0_14, .int .i64 a0_15, .bool a0_16, .int .i64 a0_17] 38 (0, 0)) (by (with_reducible repeat (first | refine bN ?_ _ | refine bW ?_ | refine bA ?_ _)); refine blk_far ?_ NB145_146.out _; (with_reducible repeat (first | refine bN ?_ _ | refine bW ?_ | refine bA ?_ _)); refine blk_far ?_ NB145_146.out _; (with_reducible repeat (first | refine bN ?_ _ | refine bW ?_ | refine bA ?_ _)); exact BK145.out) hb); have n1_ := q_ (bB (g := gb146) (o := .cells #[.int .i64 a0_8, .int .i64 a0_9] 31 (0, 0)) (by (with_reducible repeat (first | refine bN ?_ _ | refine bW ?_ | refine bA ?_ _)); refine blk_put (cs := #[.int .i64 a0_8, .int .i64 0]) ?_ 1 _ rfl; (with_reducible repeat (first | refine bN ?_ _ | refine bW ?_ | refine bA ?_ _)); refine blk_put (cs := #[.int .i64 0, .int .i64 0]) ?_ 0 _ rfl; (with_reducible repeat (first | refine bN ?_ _ | refine bW ?_ | refine bA ?_ _)); exact BK146.out) hb); have n2_ := q_ (pT (by repeat (first | (with_reducible first | exact HB.out | apply pA | apply pN | apply p1 | refine pS ?_ GE145.out | refine pS ?_ GE146.out) | exact HB.out)) hb); clear BK145; clear BK146; clear HB; have BK145 := n0_; have BK146 := n1_; have HB := n2_; clear n0_ n1_ n2_; (try clear hb); (try clear hb2); (try clear hk); (try clear hi)))
    go_ret
    exact ⟨by first | rfl | (simp [*] <;> rfl), by repeat (first | (with_reducible first | exact HB.out | apply pA | apply pN | apply p1 | refine pS ?_ GE145.out | refine pS ?_ GE146.out) | exact HB.out)⟩
def moist_Check.j0 : Nat → Bool → Int → Int → Int → Option (Int)
 | 0, _, _, _, _ => none
 | k + 1, x16, x149000, x149001, x149002 => if x16 = true then (some 25) else (if x149002 < 0 then (some 9) else (if x149002 > 1099511627776 then (some 9) else (some 0)))
def moist_Check.f (k : Nat) (a0_0 : Int) (a0_1 : Int) (a0_2 : Int) : Option (Int) := if (mn a0_0 a0_1) < 0 then (moist_Check.j0 k true a0_0 a0_1 a0_2) else (moist_Check.j0 k (decide ((mx a0_0 a0_1) > 20000)) a0_0 a0_1 a0_2)
set_option maxHeartbeats 8000000 in
set_option maxRecDepth 100000 in
theorem moist_Check.calls (k : Nat) (a0_0 : Int) (a0_1 : Int) (a0_2 : Int) (r : Int) (w : World) (h : moist_Check.f k a0_0 a0_1 a0_2 = some r) :
  Calls Tryd.prog 70 #[.agg #[.int .i64 a0_0, .int .i64 a0_1, .int .i64 a0_2]] w fun e w' => e = .returned (.int .i64 r) ∧ Below w.heap.size w w' := by
 have hu36 := Tryd.underlying36
 have HB := q_ (Below.refl w.heap.size w)
 have H : (if (mn a0_0 a0_1) < 0 then (moist_Check.j0 k true a0_0 a0_1 a0_2) else (moist_Check.j0 k (decide ((mx a0_0 a0_1) > 20000)) a0_0 a0_1 a0_2)) = some r := h
 clear h
 have HC2 := Aside0.mk H
 clear H
 go_enter Tryd.func70, Tryd.ntmps70
 go_upto_region 1 with (first | ((with_reducible refine gate_dst (N := 1) rfl ?_); (try (refine gate_guard (by rfl) ?_; dsimp only)); refine box_event ?hg (N := 1) ?hd (cs := #[.int .i64 a0_0, .int .i64 a0_1, .int .i64 a0_2]) (t := 36) ?hr ?_; (case hd => rfl); (case hg => rfl); (case hr => first | (go_simp; done) | (go_simp; rfl)); intro gb148 hg w3 hbox hb; have n0_ := q_ (pT (by repeat (first | (with_reducible first | exact HB.out | apply pA | apply pN | apply p1) | exact HB.out)) hb); have n1_ := q_ (hbox); have n2_ := q_ ((by rw [hg]; exact (pZ (by repeat (first | (with_reducible first | exact HB.out | apply pA | apply pN | apply p1) | exact HB.out))) : w.heap.size ≤ gb148)); have n3_ := n2_; clear HB; have HB := n0_; have BK148 := n1_; have GW148 := n2_; have GE148 := n3_; clear n0_ n1_ n2_ n3_; clear hb hbox hg))
 (try simp only [Act.put, List.setIfInBounds_toArray, List.set_cons_zero, List.set_cons_succ])
 go_cut [16] (fun v16 wc => ∃ (kq : Nat) (x16_1 : Bool), v16 = .bool x16_1 ∧ Aside0 (moist_Check.j0 kq x16_1 a0_0 a0_1 a0_2 = some r) ∧ Aside0 (kq ≤ k) ∧ Aside0 (wc.heap[gb148]? = some (.cells #[.int .i64 a0_0, .int .i64 a0_1, .int .i64 a0_2] 36 (0, 0))) ∧ Aside0 (Below w.heap.size w wc))
 case first =>
  have H := HC2.out
  clear HC2
  obtain ⟨ji4, hji4⟩ : ∃ j_ : Int, (mn a0_0 a0_1) = j_ := ⟨_, rfl⟩
  replace H : (if (ji4) < 0 then (moist_Check.j0 k true a0_0 a0_1 a0_2) else (moist_Check.j0 k (decide ((mx a0_0 a0_1) > 20000)) a0_0 a0_1 a0_2)) = some r := by first | (rw [hji4] at H; exact H) | (simp only [hji4] at H ⊢; exact H)
  have hji4_ : (if a0_1 < a0_0 then a0_1 else a0_0) = ji4 := hji4
  by_cases c5 : (ji4) < 0
  ·rw [if_pos c5] at H
   have c5b0 : decide ((ji4) < 0) = true := decide_eq_true c5
   clear c5
   (first | rw [c5b0] | (simp only [i64_w, i32_w]; rw [c5b0]) | skip)
   have H' := Aside0.mk H
   clear H
   have hcz6_0 : w3.cell? ⟨gb148, 0, none⟩ = some (.int .i64 a0_0) := (bC BK148.out 0).trans rfl
   have hcz6_1 : w3.cell? ⟨gb148, 1, none⟩ = some (.int .i64 a0_1) := (bC BK148.out 1).trans rfl
   have hcz6_2 : w3.cell? ⟨gb148, 2, none⟩ = some (.int .i64 a0_2) := (bC BK148.out 2).trans rfl
   have hfz6_0 := bF BK148.out 0
   have hfz6_1 := bF BK148.out 1
   have hfz6_2 := bF BK148.out 2
   go_wp2
   go_meet
   case rel => exact ⟨_, (true), (by first | rfl | (simp; done) | (simp [*]; done)), H', ⟨by first | omega | exact Nat.le_refl _⟩, ⟨by (with_reducible repeat (first | refine bN ?_ _ | refine bW ?_ | refine bA ?_ _)); exact BK148.out⟩, ⟨by repeat (first | (with_reducible first | exact HB.out | apply pA | apply pN | apply p1 | refine pS ?_ GE148.out) | exact HB.out)⟩⟩
  ·rw [if_neg c5] at H
   have c5b0 : decide ((ji4) < 0) = false := decide_eq_false c5
   clear c5
   (first | rw [c5b0] | (simp only [i64_w, i32_w]; rw [c5b0]) | skip)
   obtain ⟨ji7, hji7⟩ : ∃ j_ : Int, (mx a0_0 a0_1) = j_ := ⟨_, rfl⟩
   replace H : (moist_Check.j0 k (decide ((ji7) > 20000)) a0_0 a0_1 a0_2) = some r := by first | (rw [hji7] at H; exact H) | (simp only [hji7] at H ⊢; exact H)
   have hji7_ : (if a0_0 < a0_1 then a0_1 else a0_0) = ji7 := hji7
   have H' := Aside0.mk H
   clear H
   have hcz8_0 : w3.cell? ⟨gb148, 0, none⟩ = some (.int .i64 a0_0) := (bC BK148.out 0).trans rfl
   have hcz8_1 : w3.cell? ⟨gb148, 1, none⟩ = some (.int .i64 a0_1) := (bC BK148.out 1).trans rfl
   have hcz8_2 : w3.cell? ⟨gb148, 2, none⟩ = some (.int .i64 a0_2) := (bC BK148.out 2).trans rfl
   have hfz8_0 := bF BK148.out 0
   have hfz8_1 := bF BK148.out 1
   have hfz8_2 := bF BK148.out 2
   go_wp2
   go_meet
   case rel => exact ⟨_, (decide ((ji7) > 20000)), (by first | rfl | (simp; done) | (simp only [← hji7] <;> (first | rfl | simp)) | (simp [*]; done)), H', ⟨by first | omega | exact Nat.le_refl _⟩, ⟨by (with_reducible repeat (first | refine bN ?_ _ | refine bW ?_ | refine bA ?_ _)); exact BK148.out⟩, ⟨by repeat (first | (with_reducible first | exact HB.out | apply pA | apply pN | apply p1 | refine pS ?_ GE148.out) | exact HB.out)⟩⟩
 case rest =>
  clear HC2
  try clear p2
  try clear c5
  try clear c5b0
  try clear c7
  try clear hcz6_0
  try clear hcz6_1
  try clear hcz6_2
  try clear hcz8_0
  try clear hcz8_1
  try clear hcz8_2
  try clear hfz6_0
  try clear hfz6_1
  try clear hfz6_2
  try clear hfz8_0
  try clear hfz8_1
  try clear hfz8_2
  obtain ⟨kq, x16_1, rfl, HA, HJ1, BK148, HB⟩ := hcut
  cases kq with
  | zero => exact absurd HA.out (by simp [moist_Check.j0])
  | succ kj1 =>
   have H := HA.out
   clear HA
   simp only [moist_Check.j0] at H
   by_cases c9 : x16_1 = true
   ·subst c9
    have H1 : (some 25) = some r := by rw [if_pos rfl] at H; exact H
    clear H
    have H := H1
    clear H1
    obtain rfl := Option.some.inj H
    go_wp2
    go_ret
    exact ⟨by first | rfl | (simp [*] <;> rfl), by repeat (first | (with_reducible first | exact HB.out | apply pA | apply pN | apply p1 | refine pS ?_ GE148.out) | exact HB.out)⟩
   ·replace c9 := Bool.eq_false_iff.mpr c9
    subst c9
    have H1 : (if a0_2 < 0 then (some 9) else (if a0_2 > 1099511627776 then (some 9) else (some 0))) = some r := by rw [if_neg (show ¬ (false = true) by decide)] at H; exact H
    clear H
    have H := H1
    clear H1
    by_cases c10 : a0_2 < 0
    ·rw [if_pos c10] at H
     have c10b0 : decide (a0_2 < 0) = true := decide_eq_true c10
     clear c10
     obtain rfl := Option.some.inj H
     have hcz11_0 : wc.cell? ⟨gb148, 0, none⟩ = some (.int .i64 a0_0) := (bC BK148.out 0).trans rfl
     have hcz11_1 : wc.cell? ⟨gb148, 1, none⟩ = some (.int .i64 a0_1) := (bC BK148.out 1).trans rfl
     have hcz11_2 : wc.cell? ⟨gb148, 2, none⟩ = some (.int .i64 a0_2) := (bC BK148.out 2).trans rfl
     have hfz11_0 := bF BK148.out 0
     have hfz11_1 := bF BK148.out 1
     have hfz11_2 := bF BK148.out 2
     go_wp2
     go_ret
     exact ⟨by first | rfl | (simp [*] <;> rfl), by repeat (first | (with_reducible first | exact HB.out | apply pA | apply pN | apply p1 | refine pS ?_ GE148.out) | exact HB.out)⟩
    ·rw [if_neg c10] at H
     have c10b0 : decide (a0_2 < 0) = false := decide_eq_false c10
     clear c10
     by_cases c12 : a0_2 > 1099511627776
     ·rw [if_pos c12] at H
      have c12b0 : decide (1099511627776 < a0_2) = true := decide_eq_true c12
      clear c12
      obtain rfl := Option.some.inj H
      have hcz13_0 : wc.cell? ⟨gb148, 0, none⟩ = some (.int .i64 a0_0) := (bC BK148.out 0).trans rfl
      have hcz13_1 : wc.cell? ⟨gb148, 1, none⟩ = some (.int .i64 a0_1) := (bC BK148.out 1).trans rfl
      have hcz13_2 : wc.cell? ⟨gb148, 2, none⟩ = some (.int .i64 a0_2) := (bC BK148.out 2).trans rfl
      have hfz13_0 := bF BK148.out 0
      have hfz13_1 := bF BK148.out 1
      have hfz13_2 := bF BK148.out 2
      go_wp2
      go_ret
      exact ⟨by first | rfl | (simp [*] <;> rfl), by repeat (first | (with_reducible first | exact HB.out | apply pA | apply pN | apply p1 | refine pS ?_ GE148.out) | exact HB.out)⟩
     ·rw [if_neg c12] at H
      have c12b0 : decide (1099511627776 < a0_2) = false := decide_eq_false c12
      clear c12
      obtain rfl := Option.some.inj H
      have hcz14_0 : wc.cell? ⟨gb148, 0, none⟩ = some (.int .i64 a0_0) := (bC BK148.out 0).trans rfl
      have hcz14_1 : wc.cell? ⟨gb148, 1, none⟩ = some (.int .i64 a0_1) := (bC BK148.out 1).trans rfl
      have hcz14_2 : wc.cell? ⟨gb148, 2, none⟩ = some (.int .i64 a0_2) := (bC BK148.out 2).trans rfl
      have hfz14_0 := bF BK148.out 0
      have hfz14_1 := bF BK148.out 1
      have hfz14_2 := bF BK148.out 2
      go_wp2
      go_ret
      exact ⟨by first | rfl | (simp [*] <;> rfl), by repeat (first | (with_reducible first | exact HB.out | apply pA | apply pN | apply p1 | refine pS ?_ GE148.out) | exact HB.out)⟩
def moist_Mean.f (k : Nat) (a0_0 : Int) (a0_1 : Int) (a0_2 : Int) : Option (Int) := (moist_Check.f k a0_0 a0_1 a0_2).bind fun t150 => (if t150 = 0 then (some (wrap64 (Int.tdiv (wrap64 (a0_0 + (wrap64 (2 * a0_1)))) 3))) else (some 0))
set_option maxHeartbeats 8000000 in
set_option maxRecDepth 100000 in
theorem moist_Mean.calls (k : Nat) (a0_0 : Int) (a0_1 : Int) (a0_2 : Int) (r : Int) (w : World) (h : moist_Mean.f k a0_0 a0_1 a0_2 = some r) :
  Calls Tryd.prog 38 #[.agg #[.int .i64 a0_0, .int .i64 a0_1, .int .i64 a0_2]] w fun e w' => e = .returned (.int .i64 r) ∧ Below w.heap.size w w' := by
 have hu36 := Tryd.underlying36
 have HB := q_ (Below.refl w.heap.size w)
 have H : ((moist_Check.f k a0_0 a0_1 a0_2).bind fun t150 => (if t150 = 0 then (some (wrap64 (Int.tdiv (wrap64 (a0_0 + (wrap64 (2 * a0_1)))) 3))) else (some 0))) = some r := h
 clear h
 replace H := oB H
 obtain ⟨t150, A20, H⟩ := H
 replace H : (if t150 = 0 then (some (wrap64 (Int.tdiv (wrap64 (a0_0 + (wrap64 (2 * a0_1)))) 3))) else (some 0)) = some r := H
 have A2 := Aside0.mk A20
 clear A20
 by_cases c3 : t150 = 0
 ·rw [if_pos c3] at H
  have c3b0 : (t150 == 0) = true := beq_iff_eq.mpr c3
  have c3b1 : (t150 != 0) = false := oD c3
  clear c3
  obtain rfl := Option.some.inj H
  go_enter Tryd.func38, Tryd.ntmps38
  go_wp2_with (first | ((with_reducible refine gate_dst (N := 1) rfl ?_); refine box_event ?hg (N := 1) ?hd (cs := #[.int .i64 a0_0, .int .i64 a0_1, .int .i64 a0_2]) (t := 36) ?hr ?_; (case hd => rfl); (case hg => rfl); (case hr => first | (go_simp; done) | (go_simp; rfl)); intro gb149 hg w4 hbox hb; have n0_ := q_ (pT (by repeat (first | (with_reducible first | exact HB.out | apply pA | apply pN | apply p1) | exact HB.out)) hb); have n1_ := q_ (hbox); have n2_ := q_ ((by rw [hg]; exact (pZ (by repeat (first | (with_reducible first | exact HB.out | apply pA | apply pN | apply p1) | exact HB.out))) : w.heap.size ≤ gb149)); have n3_ := n2_; clear HB; have HB := n0_; have BK149 := n1_; have GW149 := n2_; have GE149 := n3_; clear n0_ n1_ n2_ n3_; clear hb hbox hg; have hcz5_0 : w4.cell? ⟨gb149, 0, none⟩ = some (.int .i64 a0_0) := (bC BK149.out 0).trans rfl; have hcz5_1 : w4.cell? ⟨gb149, 1, none⟩ = some (.int .i64 a0_1) := (bC BK149.out 1).trans rfl; have hcz5_2 : w4.cell? ⟨gb149, 2, none⟩ = some (.int .i64 a0_2) := (bC BK149.out 2).trans rfl; have hfz5_0 := bF BK149.out 0; have hfz5_1 := bF BK149.out 1; have hfz5_2 := bF BK149.out 2) | ((with_reducible refine gate_callee (f := 70) rfl ?_); refine goesL_ (some 4) rfl rfl Tryd.func70 (by kernel_rfl) rfl #[.agg #[.int .i64 a0_0, .int .i64 a0_1, .int .i64 a0_2]] rfl (by first | rfl | (simp only [List.map_toArray]; rfl)) ?_; (with_reducible refine (moist_Check.calls k a0_0 a0_1 a0_2 t150 _ A2.out).mono ?_); rintro e w6 ⟨rfl, hb⟩; refine ⟨_, rfl, ?_⟩; have n0_ := q_ (bB (g := gb149) (by (with_reducible repeat (first | refine bN ?_ _ | refine bW ?_ | refine bA ?_ _)); exact BK149.out) hb); have n1_ := q_ (pT (by repeat (first | (with_reducible first | exact HB.out | apply pA | apply pN | apply p1 | refine pS ?_ GE149.out) | exact HB.out)) hb); clear BK149; clear HB; have BK149 := n0_; have HB := n1_; clear n0_ n1_; (try clear hb); (try clear hb2); (try clear hk); (try clear hi); have hcz7_0 : w6.cell? ⟨gb149, 0, none⟩ = some (.int .i64 a0_0) := (bC BK149.out 0).trans rfl; have hcz7_1 : w6.cell? ⟨gb149, 1, none⟩ = some (.int .i64 a0_1) := (bC BK149.out 1).trans rfl; have hcz7_2 : w6.cell? ⟨gb149, 2, none⟩ = some (.int .i64 a0_2) := (bC BK149.out 2).trans rfl; have hfz7_0 := bF BK149.out 0; have hfz7_1 := bF BK149.out 1; have hfz7_2 := bF BK149.out 2))
  go_ret
  exact ⟨by first | rfl | (simp [*] <;> rfl), by repeat (first | (with_reducible first | exact HB.out | apply pA | apply pN | apply p1 | refine pS ?_ GE149.out) | exact HB.out)⟩
 ·rw [if_neg c3] at H
  have c3b0 : (t150 == 0) = false := oC c3
  have c3b1 : (t150 != 0) = true := bne_iff_ne.mpr c3
  obtain rfl := Option.some.inj H
  go_enter Tryd.func38, Tryd.ntmps38
  go_wp2_with (first | ((with_reducible refine gate_dst (N := 1) rfl ?_); refine box_event ?hg (N := 1) ?hd (cs := #[.int .i64 a0_0, .int .i64 a0_1, .int .i64 a0_2]) (t := 36) ?hr ?_; (case hd => rfl); (case hg => rfl); (case hr => first | (go_simp; done) | (go_simp; rfl)); intro gb149 hg w8 hbox hb; have n0_ := q_ (pT (by repeat (first | (with_reducible first | exact HB.out | apply pA | apply pN | apply p1) | exact HB.out)) hb); have n1_ := q_ (hbox); have n2_ := q_ ((by rw [hg]; exact (pZ (by repeat (first | (with_reducible first | exact HB.out | apply pA | apply pN | apply p1) | exact HB.out))) : w.heap.size ≤ gb149)); have n3_ := n2_; clear HB; have HB := n0_; have BK149 := n1_; have GW149 := n2_; have GE149 := n3_; clear n0_ n1_ n2_ n3_; clear hb hbox hg; have hcz9_0 : w8.cell? ⟨gb149, 0, none⟩ = some (.int .i64 a0_0) := (bC BK149.out 0).trans rfl; have hcz9_1 : w8.cell? ⟨gb149, 1, none⟩ = some (.int .i64 a0_1) := (bC BK149.out 1).trans rfl; have hcz9_2 : w8.cell? ⟨gb149, 2, none⟩ = some (.int .i64 a0_2) := (bC BK149.out 2).trans rfl; have hfz9_0 := bF BK149.out 0; have hfz9_1 := bF BK149.out 1; have hfz9_2 := bF BK149.out 2) | ((with_reducible refine gate_callee (f := 70) rfl ?_); refine goesL_ (some 4) rfl rfl Tryd.func70 (by kernel_rfl) rfl #[.agg #[.int .i64 a0_0, .int .i64 a0_1, .int .i64 a0_2]] rfl (by first | rfl | (simp only [List.map_toArray]; rfl)) ?_; (with_reducible refine (moist_Check.calls k a0_0 a0_1 a0_2 t150 _ A2.out).mono ?_); rintro e w10 ⟨rfl, hb⟩; refine ⟨_, rfl, ?_⟩; have n0_ := q_ (bB (g := gb149) (by (with_reducible repeat (first | refine bN ?_ _ | refine bW ?_ | refine bA ?_ _)); exact BK149.out) hb); have n1_ := q_ (pT (by repeat (first | (with_reducible first | exact HB.out | apply pA | apply pN | apply p1 | refine pS ?_ GE149.out) | exact HB.out)) hb); clear BK149; clear HB; have BK149 := n0_; have HB := n1_; clear n0_ n1_; (try clear hb); (try clear hb2); (try clear hk); (try clear hi)))
  go_ret
  exact ⟨by first | rfl | (simp [*] <;> rfl), by repeat (first | (with_reducible first | exact HB.out | apply pA | apply pN | apply p1 | refine pS ?_ GE149.out) | exact HB.out)⟩
end Go.Proofs.YtblmgmhjlbkncaaDoor.PA
namespace Go.Proofs.YtblmgmhjlbkncaaDoor.PA
open Go.RowKit Go.Proofs.YtblmgmhjlbkncaaDoorW.PrintWords Go.Proofs.YtblmgmhjlbkncaaDoorW.PrintLast Go.Proofs.YtblmgmhjlbkncaaDoorW.PrintMore
attribute [local go_sem] max2_int min2_int max_two min_two max_three min_three max_four min_four
set_option linter.unusedVariables false
set_option linter.unusedSimpArgs false
def order_Fits.f (k : Nat) (a0_0 : ByteArray) (a0_1 : ByteArray) (a0_2 : Int) (a0_3 : Int) (a0_4 : Int) (a0_5 : Int) (a0_6 : Int) (a0_7 : Int) (a0_8 : Int) (a0_9 : Int) (a0_10 : Int) (a1_0 : ByteArray) (a1_1 : ByteArray) (a1_2 : ByteArray) (a1_3 : Int) (a1_4 : Int) (a1_5 : Int) (a1_6 : Int) (a1_7 : Int) (a1_8 : Int) (a1_9 : Int) (a1_10 : Int) (l1_11 : List (S176)) (a1_12 : Int) (a1_13 : Int) (a1_14 : Int) (a1_15 : Int) (a1_16 : Bool) (a1_17 : Int) : Option (Int) := if a1_2.toList = a0_1.toList then (if a1_3 = a0_2 then ((board_Length.f a1_0 a1_1 a1_2 a1_3 a1_4 a1_5 a1_6 a1_7 a1_8 a1_9 a1_10 l1_11 a1_12 a1_13 a1_14 a1_15 a1_16 a1_17).bind fun t153 => (if t153 = a0_3 then (if a1_16 = true then ((moist_Mean.f k a1_13 a1_14 a1_15).bind fun t154 => (if t154 > a0_5 then (some 25) else (if a1_17 < 1 then (some 26) else (if a1_17 > a0_4 then (some 26) else (some 0))))) else (some 14)) else (some 20))) else (some 8)) else (some 24)
set_option maxHeartbeats 8000000 in
set_option maxRecDepth 100000 in
theorem order_Fits.calls (k : Nat) (a0_0 : ByteArray) (a0_1 : ByteArray) (a0_2 : Int) (a0_3 : Int) (a0_4 : Int) (a0_5 : Int) (a0_6 : Int) (a0_7 : Int) (a0_8 : Int) (a0_9 : Int) (a0_10 : Int) (a1_0 : ByteArray) (a1_1 : ByteArray) (a1_2 : ByteArray) (a1_3 : Int) (a1_4 : Int) (a1_5 : Int) (a1_6 : Int) (a1_7 : Int) (a1_8 : Int) (a1_9 : Int) (a1_10 : Int) (A1_11 : Option Addr) (c1_11 : Nat) (l1_11 : List (S176)) (a1_12 : Int) (a1_13 : Int) (a1_14 : Int) (a1_15 : Int) (a1_16 : Bool) (a1_17 : Int) (r : Int) (w : World) (hr1_11 : Kd.C k176 w A1_11 l1_11.length l1_11) (hc1_11 : l1_11.length ≤ c1_11) (h : order_Fits.f k a0_0 a0_1 a0_2 a0_3 a0_4 a0_5 a0_6 a0_7 a0_8 a0_9 a0_10 a1_0 a1_1 a1_2 a1_3 a1_4 a1_5 a1_6 a1_7 a1_8 a1_9 a1_10 l1_11 a1_12 a1_13 a1_14 a1_15 a1_16 a1_17 = some r) :
  Calls Tryd.prog 14 #[.agg #[.string a0_0, .string a0_1, .int .i64 a0_2, .int .i64 a0_3, .int .i64 a0_4, .int .i64 a0_5, .int .i64 a0_6, .int .i64 a0_7, .int .i64 a0_8, .int .i64 a0_9, .int .i64 a0_10], .agg #[.string a1_0, .string a1_1, .string a1_2, .int .i64 a1_3, .int .i64 a1_4, .int .i64 a1_5, .int .i64 a1_6, .int .i64 a1_7, .int .i64 a1_8, .int .i64 a1_9, .int .i64 a1_10, .slice A1_11 l1_11.length c1_11, .int .i64 a1_12, .int .i64 a1_13, .int .i64 a1_14, .int .i64 a1_15, .bool a1_16, .int .i64 a1_17]] w fun e w' => e = .returned (.int .i64 r) ∧ Below w.heap.size w w' := by
 have hu23 := Tryd.underlying23
 have hu38 := Tryd.underlying38
 have hu36 := Tryd.underlying36
 have HB := q_ (Below.refl w.heap.size w)
 have HR := Aside0.mk hr1_11
 have HL := Aside0.mk hc1_11
 clear hr1_11 hc1_11
 unfold order_Fits.f at h
 go_enter Tryd.func14, Tryd.ntmps14
 go_upto_region 1 with (first | ((with_reducible refine gate_dst (N := 2) rfl ?_); refine box_event ?hg (N := 2) ?hd (cs := #[.string a0_0, .string a0_1, .int .i64 a0_2, .int .i64 a0_3, .int .i64 a0_4, .int .i64 a0_5, .int .i64 a0_6, .int .i64 a0_7, .int .i64 a0_8, .int .i64 a0_9, .int .i64 a0_10]) (t := 23) ?hr ?_; (case hd => rfl); (case hg => rfl); (case hr => first | (go_simp; done) | (go_simp; rfl)); intro go hg w1 hbox hb; have BKo := Aside0.mk hbox; replace HB := q_ (pT HB.out hb); clear hb hbox hg) | ((with_reducible refine gate_dst (N := 3) rfl ?_); refine box_event ?hg (N := 3) ?hd (cs := #[.string a1_0, .string a1_1, .string a1_2, .int .i64 a1_3, .int .i64 a1_4, .int .i64 a1_5, .int .i64 a1_6, .int .i64 a1_7, .int .i64 a1_8, .int .i64 a1_9, .int .i64 a1_10, .slice A1_11 l1_11.length c1_11, .int .i64 a1_12, .int .i64 a1_13, .int .i64 a1_14, .int .i64 a1_15, .bool a1_16, .int .i64 a1_17]) (t := 38) ?hr ?_; (case hd => rfl); (case hg => rfl); (case hr => first | (go_simp; done) | (go_simp; rfl)); intro gb hg w2 hbox hb; replace BKo := q_ (bB BKo.out hb); have BKb := Aside0.mk hbox; replace HB := q_ (pT HB.out hb); clear hb hbox hg))
 try simp only [Act.put, List.setIfInBounds_toArray, List.set_cons_zero, List.set_cons_succ]
 have czo := blk_all BKo.out
 simp only [CellsAt, List.toList_toArray, Nat.reduceAdd, and_true] at czo
 have fzo := bF BKo.out
 have czb := blk_all BKb.out
 simp only [CellsAt, List.toList_toArray, Nat.reduceAdd, and_true] at czb
 have fzb := bF BKb.out
 by_cases c1 : a1_2.toList = a0_1.toList
 case neg =>
  rw [if_neg c1] at h
  have c1a : (a1_2.toList == a0_1.toList) = false := oC c1
  have c1b : (a1_2.toList != a0_1.toList) = true := bne_iff_ne.mpr c1
  obtain rfl := Option.some.inj h
  go_wp2
  go_ret
  exact ⟨rfl, HB.out⟩
 rw [if_pos c1] at h
 have c1a : (a1_2.toList == a0_1.toList) = true := beq_iff_eq.mpr c1
 have c1b : (a1_2.toList != a0_1.toList) = false := oD c1
 clear c1
 by_cases c2 : a1_3 = a0_2
 case neg =>
  rw [if_neg c2] at h
  have c2a : (a1_3 == a0_2) = false := oC c2
  have c2b : (a1_3 != a0_2) = true := bne_iff_ne.mpr c2
  obtain rfl := Option.some.inj h
  go_wp2
  go_ret
  exact ⟨rfl, HB.out⟩
 rw [if_pos c2] at h
 have c2a : (a1_3 == a0_2) = true := beq_iff_eq.mpr c2
 have c2b : (a1_3 != a0_2) = false := oD c2
 clear c2
 replace h := oB h
 obtain ⟨t1, hl_, h⟩ := h
 have HT1 := Aside0.mk hl_
 clear hl_
 replace h : (if t1 = a0_3 then _ else _) = some r := h
 have h' := Aside0.mk h
 clear h
 go_wp2
 clear c1a c1b c2a c2b
 clear czo fzo czb fzb
 replace BKo := q_ (bW BKo.out)
 replace BKb := q_ (bW BKb.out)
 replace HB := q_ (p1 HB.out)
 try simp only [Act.put, List.setIfInBounds_toArray, List.set_cons_zero, List.set_cons_succ]
 refine start_ (n := 6) (S := fun w' => w'.heap[go]? = some (.cells #[.string a0_0, .string a0_1, .int .i64 a0_2, .int .i64 a0_3, .int .i64 a0_4, .int .i64 a0_5, .int .i64 a0_6, .int .i64 a0_7, .int .i64 a0_8, .int .i64 a0_9, .int .i64 a0_10] 23 (0, 0)) ∧ w'.heap[gb]? = some (.cells #[.string a1_0, .string a1_1, .string a1_2, .int .i64 a1_3, .int .i64 a1_4, .int .i64 a1_5, .int .i64 a1_6, .int .i64 a1_7, .int .i64 a1_8, .int .i64 a1_9, .int .i64 a1_10, .slice A1_11 l1_11.length c1_11, .int .i64 a1_12, .int .i64 a1_13, .int .i64 a1_14, .int .i64 a1_15, .bool a1_16, .int .i64 a1_17] 38 (0, 0))) (ds := []) #[false, false, false, false, false, false] (by kernel_rfl) rfl rfl ⟨BKo.out, BKb.out⟩ (fun hHeld => ?_)
 clear hHeld
 generalize w2.drew = w3 at BKo BKb HB ⊢
 refine pure_ (i := 2) (N := some 20) (v := ?_) (a' := ?_) #[false, false, true, false, false, false] rfl rfl (by kernel_rfl) (fun _ _ _ h => h) (Or.inl ⟨by rfl, ?_⟩) ?_ ?_
 rotate_left
 ·intro w'
  go_simp
  with_reducible rfl
 rotate_left
 ·simp only [Act.put, List.setIfInBounds_toArray, List.set_cons_zero, List.set_cons_succ, i64_w, i32_w]
  rfl
 refine take_ (i := 0) (N := some 18) (v := ?_) (a' := ?_) #[true, false, true, false, false, false] rfl rfl (by kernel_rfl) (fun _ _ _ h => h) (Or.inl ⟨by rfl, ?_⟩) ⟨BKo.out, BKb.out⟩ ?_ ?_
 rotate_left
 ·rintro w' ⟨s0, s1⟩
  refine exec_load_blk 38 (.tmp 3) ?_ gb ?_ s1 hu38 rfl ?_
  ·exact rfl
  ·exact rfl
  ·kernel_rfl
 rotate_left
 ·simp only [Act.put, List.setIfInBounds_toArray, List.set_cons_zero, List.set_cons_succ, i64_w, i32_w]
  rfl
 refine take_ (i := 3) (N := some 21) (v := ?_) (a' := ?_) #[true, false, true, true, false, false] rfl rfl (by kernel_rfl) (fun _ _ _ h => h) (Or.inl ⟨by rfl, ?_⟩) ⟨BKo.out, BKb.out⟩ ?_ ?_
 rotate_left
 ·rintro w' ⟨s0, s1⟩
  have hz := blk_all s0
  simp only [CellsAt, List.toList_toArray, Nat.reduceAdd, and_true] at hz
  go_simp
  with_reducible rfl
 rotate_left
 ·simp only [Act.put, List.setIfInBounds_toArray, List.set_cons_zero, List.set_cons_succ, i64_w, i32_w]
  rfl
 refine one_ (i := 1) (N := some 19) #[true, true, true, true, false, false] rfl rfl (by kernel_rfl) (by decide) (fun K hK => ?_)
 refine goes_ Tryd.func37 (by kernel_rfl) rfl #[.agg #[.string a1_0, .string a1_1, .string a1_2, .int .i64 a1_3, .int .i64 a1_4, .int .i64 a1_5, .int .i64 a1_6, .int .i64 a1_7, .int .i64 a1_8, .int .i64 a1_9, .int .i64 a1_10, .slice A1_11 l1_11.length c1_11, .int .i64 a1_12, .int .i64 a1_13, .int .i64 a1_14, .int .i64 a1_15, .bool a1_16, .int .i64 a1_17]] (by rfl) rfl rfl (by first | rfl | (simp only [List.map_toArray, List.map_cons, List.map_nil]; rfl)) ?_
 refine (board_Length.calls a1_0 a1_1 a1_2 a1_3 a1_4 a1_5 a1_6 a1_7 a1_8 a1_9 a1_10 A1_11 c1_11 l1_11 a1_12 a1_13 a1_14 a1_15 a1_16 a1_17 t1 _ ?_ ?_ HT1.out).mono ?_
 ·exact Kd.C_below HR.out HB.out
 ·exact HL.out
 rintro e w4 ⟨rfl, hb⟩
 refine ⟨_, rfl, ?_⟩
 replace HB := q_ (pT HB.out hb)
 replace BKo := q_ (bB BKo.out hb)
 replace BKb := q_ (bB BKb.out hb)
 clear hb
 refine hK.out _ _ ⟨BKo.out, BKb.out⟩ (fun hHeld => ?_)
 clear hK K hHeld
 refine norm_ (a' := ?_) ?_ ?_
 rotate_left
 ·show Act.put _ (some 19) _ = _
  simp only [Act.put, List.setIfInBounds_toArray, List.set_cons_zero, List.set_cons_succ, i64_w, i32_w]
  rfl
 refine pure_ (i := 4) (N := some 22) (v := ?_) (a' := ?_) #[true, true, true, true, true, false] rfl rfl (by kernel_rfl) (fun _ _ _ h => h) (Or.inl ⟨by rfl, ?_⟩) ?_ ?_
 rotate_left
 ·intro w'
  go_simp
  with_reducible rfl
 rotate_left
 ·simp only [Act.put, List.setIfInBounds_toArray, List.set_cons_zero, List.set_cons_succ, i64_w, i32_w]
  rfl
 refine pure_ (i := 5) (N := some 17) (v := ?_) (a' := ?_) #[true, true, true, true, true, true] rfl rfl (by kernel_rfl) (fun _ _ _ h => h) (Or.inl ⟨by rfl, ?_⟩) ?_ ?_
 rotate_left
 ·intro w'
  go_simp
  with_reducible rfl
 rotate_left
 ·simp only [Act.put, List.setIfInBounds_toArray, List.set_cons_zero, List.set_cons_succ, i64_w, i32_w]
  rfl
 refine done_ (by kernel_rfl) ?_
 have czo := blk_all BKo.out
 simp only [CellsAt, List.toList_toArray, Nat.reduceAdd, and_true] at czo
 have fzo := bF BKo.out
 have czb := blk_all BKb.out
 simp only [CellsAt, List.toList_toArray, Nat.reduceAdd, and_true] at czb
 have fzb := bF BKb.out
 by_cases c3 : t1 = a0_3
 case neg =>
  have h := h'.out
  clear h'
  rw [if_neg c3] at h
  have c3a : (t1 == a0_3) = false := oC c3
  have c3b : (t1 != a0_3) = true := bne_iff_ne.mpr c3
  obtain rfl := Option.some.inj h
  go_wp2
  go_ret
  exact ⟨rfl, HB.out⟩
 have h := h'.out
 clear h'
 rw [if_pos c3] at h
 have c3a : (t1 == a0_3) = true := beq_iff_eq.mpr c3
 have c3b : (t1 != a0_3) = false := oD c3
 clear c3
 cases a1_16 with
 | false =>
  rw [if_neg (by decide)] at h
  obtain rfl := Option.some.inj h
  go_wp2
  go_ret
  exact ⟨rfl, HB.out⟩
 | true =>
  rw [if_pos rfl] at h
  replace h := oB h
  obtain ⟨t2, hl_, h⟩ := h
  have HT2 := Aside0.mk hl_
  clear hl_
  replace h : (if t2 > a0_5 then _ else _) = some r := h
  have h' := Aside0.mk h
  clear h
  go_wp2
  clear c3a c3b
  clear czo fzo czb fzb
  replace BKo := q_ (bW BKo.out)
  replace BKb := q_ (bW BKb.out)
  replace HB := q_ (p1 HB.out)
  try simp only [Act.put, List.setIfInBounds_toArray, List.set_cons_zero, List.set_cons_succ]
  refine start_ (n := 7) (S := fun w' => w'.heap[go]? = some (.cells #[.string a0_0, .string a0_1, .int .i64 a0_2, .int .i64 a0_3, .int .i64 a0_4, .int .i64 a0_5, .int .i64 a0_6, .int .i64 a0_7, .int .i64 a0_8, .int .i64 a0_9, .int .i64 a0_10] 23 (0, 0)) ∧ w'.heap[gb]? = some (.cells #[.string a1_0, .string a1_1, .string a1_2, .int .i64 a1_3, .int .i64 a1_4, .int .i64 a1_5, .int .i64 a1_6, .int .i64 a1_7, .int .i64 a1_8, .int .i64 a1_9, .int .i64 a1_10, .slice A1_11 l1_11.length c1_11, .int .i64 a1_12, .int .i64 a1_13, .int .i64 a1_14, .int .i64 a1_15, .bool true, .int .i64 a1_17] 38 (0, 0))) (ds := []) #[false, false, false, false, false, false, false] (by kernel_rfl) rfl rfl ⟨BKo.out, BKb.out⟩ (fun hHeld => ?_)
  clear hHeld
  generalize w4.drew = w5 at BKo BKb HB ⊢
  refine pure_ (i := 0) (N := some 28) (v := ?_) (a' := ?_) #[true, false, false, false, false, false, false] rfl rfl (by kernel_rfl) (fun _ _ _ h => h) (Or.inl ⟨by rfl, ?_⟩) ?_ ?_
  rotate_left
  ·intro w'
   go_simp
   with_reducible rfl
  rotate_left
  ·simp only [Act.put, List.setIfInBounds_toArray, List.set_cons_zero, List.set_cons_succ, i64_w, i32_w]
   rfl
  refine pure_ (i := 3) (N := some 31) (v := ?_) (a' := ?_) #[true, false, false, true, false, false, false] rfl rfl (by kernel_rfl) (fun _ _ _ h => h) (Or.inl ⟨by rfl, ?_⟩) ?_ ?_
  rotate_left
  ·intro w'
   go_simp
   with_reducible rfl
  rotate_left
  ·simp only [Act.put, List.setIfInBounds_toArray, List.set_cons_zero, List.set_cons_succ, i64_w, i32_w]
   rfl
  refine take_ (i := 1) (N := some 29) (v := ?_) (a' := ?_) #[true, true, false, true, false, false, false] rfl rfl (by kernel_rfl) (fun _ _ _ h => h) (Or.inl ⟨by rfl, ?_⟩) ⟨BKo.out, BKb.out⟩ ?_ ?_
  rotate_left
  ·rintro w' ⟨s0, s1⟩
   have hz := blk_all s1
   simp only [CellsAt, List.toList_toArray, Nat.reduceAdd, and_true] at hz
   go_simp
   with_reducible rfl
  rotate_left
  ·simp only [Act.put, List.setIfInBounds_toArray, List.set_cons_zero, List.set_cons_succ, i64_w, i32_w]
   rfl
  refine take_ (i := 4) (N := some 32) (v := ?_) (a' := ?_) #[true, true, false, true, true, false, false] rfl rfl (by kernel_rfl) (fun _ _ _ h => h) (Or.inl ⟨by rfl, ?_⟩) ⟨BKo.out, BKb.out⟩ ?_ ?_
  rotate_left
  ·rintro w' ⟨s0, s1⟩
   have hz := blk_all s0
   simp only [CellsAt, List.toList_toArray, Nat.reduceAdd, and_true] at hz
   go_simp
   with_reducible rfl
  rotate_left
  ·simp only [Act.put, List.setIfInBounds_toArray, List.set_cons_zero, List.set_cons_succ, i64_w, i32_w]
   rfl
  refine one_ (i := 2) (N := some 30) #[true, true, true, true, true, false, false] rfl rfl (by kernel_rfl) (by decide) (fun K hK => ?_)
  refine goes_ Tryd.func38 (by kernel_rfl) rfl #[.agg #[.int .i64 a1_13, .int .i64 a1_14, .int .i64 a1_15]] (by rfl) rfl rfl (by first | rfl | (simp only [List.map_toArray, List.map_cons, List.map_nil]; rfl)) ?_
  refine (moist_Mean.calls k a1_13 a1_14 a1_15 t2 _ HT2.out).mono ?_
  rintro e w6 ⟨rfl, hb⟩
  refine ⟨_, rfl, ?_⟩
  replace HB := q_ (pT HB.out hb)
  replace BKo := q_ (bB BKo.out hb)
  replace BKb := q_ (bB BKb.out hb)
  clear hb
  refine hK.out _ _ ⟨BKo.out, BKb.out⟩ (fun hHeld => ?_)
  clear hK K hHeld
  refine norm_ (a' := ?_) ?_ ?_
  rotate_left
  ·show Act.put _ (some 30) _ = _
   simp only [Act.put, List.setIfInBounds_toArray, List.set_cons_zero, List.set_cons_succ, i64_w, i32_w]
   rfl
  refine pure_ (i := 5) (N := some 33) (v := ?_) (a' := ?_) #[true, true, true, true, true, true, false] rfl rfl (by kernel_rfl) (fun _ _ _ h => h) (Or.inl ⟨by rfl, ?_⟩) ?_ ?_
  rotate_left
  ·intro w'
   go_simp
   with_reducible rfl
  rotate_left
  ·simp only [Act.put, List.setIfInBounds_toArray, List.set_cons_zero, List.set_cons_succ, i64_w, i32_w]
   rfl
  refine pure_ (i := 6) (N := some 27) (v := ?_) (a' := ?_) #[true, true, true, true, true, true, true] rfl rfl (by kernel_rfl) (fun _ _ _ h => h) (Or.inl ⟨by rfl, ?_⟩) ?_ ?_
  rotate_left
  ·intro w'
   go_simp
   with_reducible rfl
  rotate_left
  ·simp only [Act.put, List.setIfInBounds_toArray, List.set_cons_zero, List.set_cons_succ, i64_w, i32_w]
   rfl
  refine done_ (by kernel_rfl) ?_
  have czo := blk_all BKo.out
  simp only [CellsAt, List.toList_toArray, Nat.reduceAdd, and_true] at czo
  have fzo := bF BKo.out
  have czb := blk_all BKb.out
  simp only [CellsAt, List.toList_toArray, Nat.reduceAdd, and_true] at czb
  have fzb := bF BKb.out
  have h := h'.out
  clear h'
  by_cases c5 : t2 > a0_5
  case pos =>
   rw [if_pos c5] at h
   have c5a : decide (t2 > a0_5) = true := decide_eq_true c5
   obtain rfl := Option.some.inj h
   go_wp2
   go_ret
   exact ⟨rfl, HB.out⟩
  rw [if_neg c5] at h
  have c5a : decide (t2 > a0_5) = false := decide_eq_false c5
  have c5b : (a0_5 < t2) = False := eq_false c5
  by_cases c6 : a1_17 < 1
  case pos =>
   rw [if_pos c6] at h
   have c6a : decide (a1_17 < 1) = true := decide_eq_true c6
   obtain rfl := Option.some.inj h
   go_wp2
   go_ret
   exact ⟨rfl, HB.out⟩
  rw [if_neg c6] at h
  have c6a : decide (a1_17 < 1) = false := decide_eq_false c6
  by_cases c7 : a1_17 > a0_4
  case pos =>
   rw [if_pos c7] at h
   have c7a : decide (a1_17 > a0_4) = true := decide_eq_true c7
   obtain rfl := Option.some.inj h
   go_wp2
   go_ret
   exact ⟨rfl, HB.out⟩
  rw [if_neg c7] at h
  have c7a : decide (a1_17 > a0_4) = false := decide_eq_false c7
  obtain rfl := Option.some.inj h
  go_wp2
  go_ret
  exact ⟨rfl, HB.out⟩
end Go.Proofs.YtblmgmhjlbkncaaDoor.PA
