/- Each Go function that the law reaches as a Lean function, and that its call comes to that function's answer. -/
import Derived.Test.YtbahagcidhmojaaDoorCEventDecodes3
import Derived.Test.YtbahagcidhmojaaDoorVEventDecodes
import Derived.Test.YtbahagcidhmojaaDoorProg
import Derived.Test.YtbahagcidhmojaaDoorShelf
import Derived.Below
import Derived.Deep.Draws
import Derived.Deep.AppendLies
import Derived.Maps.AppendAt
import Derived.OwnWalk
import Derived.Laws.BytesArg
import Derived.Laws.MakeOwn
import Derived.Laws.OwnMore
import Derived.Deep.OwnRows
import Derived.Tactics
import Derived.Lib.ConvBytes
import Derived.Laws.Slices
import Derived.WalkKit
import Derived.KernelRfl
import Derived.RowKit3
import Derived.Deep.LoopGhost
import Derived.Deep.QuietTactic
import Derived.BigQuiet
import Derived.WideLaws
import Derived.Deep.DeepCutAuto
import Derived.Deep.CutBlock
import Derived.Deep.RegionHeld3
import Derived.Laws.Rows
import Derived.Lib.AppendStr
import Derived.ArgAppend
import Derived.Laws.IdiomCopy
import Derived.OrdersHeld
import Derived.Laws.BitsLemmas
import Derived.RowKit
import Derived.LoopN
import Derived.Laws.EntriesVeiled
import Derived.LaidSub
import Derived.MakeChecks
import Derived.Lib.LaidTab
namespace Go.Proofs.YtbahagcidhmojaaDoor.PA
open Go.RowKit Go.Proofs.YtbahagcidhmojaaDoorW.PrintWords Go.Proofs.YtbahagcidhmojaaDoorW.PrintLast Go.Proofs.YtbahagcidhmojaaDoorW.PrintMore
attribute [local go_sem] max2_int min2_int max_two min_two max_three min_three max_four min_four
set_option linter.unusedVariables false
set_option linter.unusedSimpArgs false
def slices_Equal_int_int.l0 : Nat → List Int → List Int → Int → Int → Option (Bool)
 | 0, _, _, _, _ => none
 | k + 1, x0, x1, x12, x13 => if x13 < x12 then (if 0 ≤ x13 then (if x13 < (x0.length : Int) then (if x13 < (x1.length : Int) then (if (rd x0 x13) = (rd x1 x13) then (slices_Equal_int_int.l0 k x0 x1 x12 (wrap64 (x13 + 1))) else (some false)) else (none)) else (none)) else (none)) else (some true)
def slices_Equal_int_int.f (k : Nat) (l0 : List Int) (l1 : List Int) : Option (Bool) := if (l0.length : Int) = (l1.length : Int) then (slices_Equal_int_int.l0 k l0 l1 (l0.length : Int) 0) else (some false)
theorem slices_Equal_int_int.mono_l : ∀ k, (∀ y0 y1 y2 y3, LeO (slices_Equal_int_int.l0 k y0 y1 y2 y3) (slices_Equal_int_int.l0 (k + 1) y0 y1 y2 y3))
 | 0 => fun _ _ _ _ r h => by simp [slices_Equal_int_int.l0] at h
 | k + 1 => by
  have ih0 := slices_Equal_int_int.mono_l k
  ·intro y0 y1 y2 y3
   unfold slices_Equal_int_int.l0
   repeat' first
   | (with_reducible exact ih0 _ _ _ _)
   | (with_reducible exact LeO.refl _)
   | (with_reducible exact LeO.none _)
   | (with_reducible refine LeO.ite ?_ ?_)
   | (with_reducible refine LeO.bind ?_ (fun _ => ?_))
   | exact ih0 _ _ _ _
   | exact LeO.none _
   | refine LeO.ite ?_ ?_
   | refine LeO.bind ?_ (fun _ => ?_)
theorem slices_Equal_int_int.mono : ∀ a0 a1 k, LeO (slices_Equal_int_int.f k a0 a1) (slices_Equal_int_int.f (k + 1) a0 a1) := by
 intro a0 a1 k
 have ih0 := slices_Equal_int_int.mono_l k
 unfold slices_Equal_int_int.f
 repeat' first
   | (with_reducible exact ih0 _ _ _ _)
   | (with_reducible exact LeO.refl _)
   | (with_reducible exact LeO.none _)
   | (with_reducible refine LeO.ite ?_ ?_)
   | (with_reducible refine LeO.bind ?_ (fun _ => ?_))
   | exact ih0 _ _ _ _
   | exact LeO.none _
   | refine LeO.ite ?_ ?_
   | refine LeO.bind ?_ (fun _ => ?_)
set_option maxHeartbeats 8000000 in
set_option maxRecDepth 100000 in
theorem slices_Equal_int_int.calls (k : Nat) (A0 : Option Addr) (c0 : Nat) (l0 : List Int) (A1 : Option Addr) (c1 : Nat) (l1 : List Int) (r : Bool) (w : World) (hr0 : Kd.C (Kd.int .i64) w A0 l0.length l0) (hc0 : l0.length ≤ c0) (hr1 : Kd.C (Kd.int .i64) w A1 l1.length l1) (hc1 : l1.length ≤ c1) (h : slices_Equal_int_int.f k l0 l1 = some r) :
  Calls Tryd.prog 49 #[.slice A0 l0.length c0, .slice A1 l1.length c1] w fun e w' => e = .returned (.bool r) ∧ Drawn0 w w' := by
 have HR0 := Aside0.mk hr0
 have HC0 := Aside0.mk hc0
 clear hr0 hc0
 have HR1 := Aside0.mk hr1
 have HC1 := Aside0.mk hc1
 clear hr1 hc1
 have H : (if (l0.length : Int) = (l1.length : Int) then (slices_Equal_int_int.l0 k l0 l1 (l0.length : Int) 0) else (some false)) = some r := h
 clear h
 by_cases c3 : (l0.length : Int) = (l1.length : Int)
 ·rw [if_pos c3] at H
  have c3b0 : ((l0.length : Int) == (l1.length : Int)) = true := beq_iff_eq.mpr c3
  have c3b1 : ((l0.length : Int) != (l1.length : Int)) = false := oD c3
  have c3b2 : (l0.length == l1.length) = true := by first | simpa using c3 | (simp at c3 ⊢; omega)
  clear c3
  have H' := Aside0.mk H
  clear H
  go_enter Tryd.func49, Tryd.ntmps49
  go_wp2
  repeat (go_quiet (fail); try go_wp2)
  go_loopg [13] k (fun kq v13 w' => ∃ (x13_1 : Int), v13 = .int .i64 x13_1 ∧ Aside0 (slices_Equal_int_int.l0 kq l0 l1 (l0.length : Int) x13_1 = some r) ∧ Aside0 (kq ≤ k) ∧ Drawn0 w w')
  case atStart => exact ⟨(0), (by first | rfl | (simp; done) | (simp [*]; done)), H', ⟨Nat.le_refl _⟩, by repeat (first | exact Drawn0.refl _ | apply Drawn0.step)⟩
  case round =>
   clear H'
   try clear c1
   try clear p2
   try clear c3
   try clear c3b0
   try clear c3b1
   try clear c3b2
   obtain ⟨x13_1, rfl, HA, HK1, ⟨m1, rfl⟩⟩ := hrel
   cases gk with
   | zero => exact absurd HA.out (by simp [slices_Equal_int_int.l0])
   | succ k1 =>
    have H := HA.out
    clear HA
    simp only [slices_Equal_int_int.l0] at H
    by_cases c4 : x13_1 < (l0.length : Int)
    ·rw [if_pos c4] at H
     have c4b0 : decide (x13_1 < (l0.length : Int)) = true := decide_eq_true c4
     clear c4
     by_cases c5 : 0 ≤ x13_1
     ·rw [if_pos c5] at H
      have c5b0 : decide (0 ≤ x13_1) = true := decide_eq_true c5
      clear c5
      by_cases c6 : x13_1 < (l0.length : Int)
      ·rw [if_pos c6] at H
       have c6b0 : decide (x13_1 < (l0.length : Int)) = true := decide_eq_true c6
       clear c6
       by_cases c7 : x13_1 < (l1.length : Int)
       ·rw [if_pos c7] at H
        have c7b0 : decide (x13_1 < (l1.length : Int)) = true := decide_eq_true c7
        clear c7
        by_cases c8 : (rd l0 x13_1) = (rd l1 x13_1)
        ·rw [if_pos c8] at H
         have c8b0 : ((rd l0 x13_1) == (rd l1 x13_1)) = true := beq_iff_eq.mpr c8
         have c8b1 : ((rd l0 x13_1) != (rd l1 x13_1)) = false := oD c8
         clear c8
         have H' := Aside0.mk H
         clear H
         have p250 : 0 ≤ (x13_1 : Int) := of_decide_eq_true (by first | (with_reducible assumption) | assumption)
         have q250 : x13_1 < (l0.length : Int) := of_decide_eq_true (by first | (with_reducible assumption) | assumption)
         obtain ⟨ad250, e250, hx250_0⟩ := Kd.at_int HR0.out x13_1 p250 q250
         cases e250
         replace p250 := eq_true p250
         replace q250 := eq_true q250
         have p251 : 0 ≤ (x13_1 : Int) := of_decide_eq_true (by first | (with_reducible assumption) | assumption)
         have q251 : x13_1 < (l1.length : Int) := of_decide_eq_true (by first | (with_reducible assumption) | assumption)
         obtain ⟨ad251, e251, hx251_0⟩ := Kd.at_int HR1.out x13_1 p251 q251
         cases e251
         replace p251 := eq_true p251
         replace q251 := eq_true q251
         go_wp2
         repeat (go_quiet (fail); try go_wp2)
         go_roundg k1
         case measure => have := HK1.out; omega
         case rel => exact ⟨(wrap64 (x13_1 + 1)), (by first | rfl | (simp; done) | (simp [*]; done)), H', ⟨by have := HK1.out; omega⟩, by repeat (first | exact Drawn0.refl _ | apply Drawn0.step)⟩
        ·rw [if_neg c8] at H
         have c8b0 : ((rd l0 x13_1) == (rd l1 x13_1)) = false := oC c8
         have c8b1 : ((rd l0 x13_1) != (rd l1 x13_1)) = true := bne_iff_ne.mpr c8
         obtain rfl := Option.some.inj H
         have p250 : 0 ≤ (x13_1 : Int) := of_decide_eq_true (by first | (with_reducible assumption) | assumption)
         have q250 : x13_1 < (l0.length : Int) := of_decide_eq_true (by first | (with_reducible assumption) | assumption)
         obtain ⟨ad250, e250, hx250_0⟩ := Kd.at_int HR0.out x13_1 p250 q250
         cases e250
         replace p250 := eq_true p250
         replace q250 := eq_true q250
         have p251 : 0 ≤ (x13_1 : Int) := of_decide_eq_true (by first | (with_reducible assumption) | assumption)
         have q251 : x13_1 < (l1.length : Int) := of_decide_eq_true (by first | (with_reducible assumption) | assumption)
         obtain ⟨ad251, e251, hx251_0⟩ := Kd.at_int HR1.out x13_1 p251 q251
         cases e251
         replace p251 := eq_true p251
         replace q251 := eq_true q251
         go_wp2
         repeat (go_quiet (fail); try go_wp2)
         go_ret
         exact ⟨by first | rfl | (simp; done) | (simp [*]; done), by repeat (first | exact Drawn0.refl _ | apply Drawn0.step)⟩
       ·rw [if_neg c7] at H
        exact absurd H (by simp)
      ·rw [if_neg c6] at H
       exact absurd H (by simp)
     ·rw [if_neg c5] at H
      exact absurd H (by simp)
    ·rw [if_neg c4] at H
     have c4b0 : decide (x13_1 < (l0.length : Int)) = false := decide_eq_false c4
     clear c4
     obtain rfl := Option.some.inj H
     go_wp2
     repeat (go_quiet (fail); try go_wp2)
     go_ret
     exact ⟨by first | rfl | (simp; done) | (simp [*]; done), by repeat (first | exact Drawn0.refl _ | apply Drawn0.step)⟩
 ·rw [if_neg c3] at H
  have c3b0 : ((l0.length : Int) == (l1.length : Int)) = false := oC c3
  have c3b1 : ((l0.length : Int) != (l1.length : Int)) = true := bne_iff_ne.mpr c3
  have c3b2 : (l0.length == l1.length) = false := by first | simpa using c3 | (simp at c3 ⊢; omega)
  obtain rfl := Option.some.inj H
  go_enter Tryd.func49, Tryd.ntmps49
  go_wp2
  repeat (go_quiet (fail); try go_wp2)
  go_ret
  exact ⟨by first | rfl | (simp; done) | (simp [*]; done), by repeat (first | exact Drawn0.refl _ | apply Drawn0.step)⟩
def event_Same.f (k : Nat) (a0_0 : Int) (a0_1 : Int) (a0_2 : ByteArray) (a0_3 : ByteArray) (l0_4 : List Int) (a0_5 : ByteArray) (a1_0 : Int) (a1_1 : Int) (a1_2 : ByteArray) (a1_3 : ByteArray) (l1_4 : List Int) (a1_5 : ByteArray) : Option (Bool) := if a0_0 = a1_0 then (if a0_1 = a1_1 then (if a0_2.toList = a1_2.toList then (if a0_3.toList = a1_3.toList then (if a0_5.toList = a1_5.toList then ((slices_Equal_int_int.f k l0_4 l1_4).bind fun t254 => (some t254)) else (some false)) else (some false)) else (some false)) else (some false)) else (some false)
theorem event_Same.mono : ∀ a0 a1 a2 a3 a4 a5 a6 a7 a8 a9 a10 a11 k, LeO (event_Same.f k a0 a1 a2 a3 a4 a5 a6 a7 a8 a9 a10 a11) (event_Same.f (k + 1) a0 a1 a2 a3 a4 a5 a6 a7 a8 a9 a10 a11) := by
 intro a0 a1 a2 a3 a4 a5 a6 a7 a8 a9 a10 a11 k
 unfold event_Same.f
 repeat' first
   | (with_reducible exact slices_Equal_int_int.mono _ _ _)
   | (with_reducible exact LeO.refl _)
   | (with_reducible exact LeO.none _)
   | (with_reducible refine LeO.ite ?_ ?_)
   | (with_reducible refine LeO.bind ?_ (fun _ => ?_))
   | exact slices_Equal_int_int.mono _ _ _
   | exact LeO.none _
   | refine LeO.ite ?_ ?_
   | refine LeO.bind ?_ (fun _ => ?_)
set_option maxHeartbeats 8000000 in
set_option maxRecDepth 100000 in
theorem event_Same.calls (k : Nat) (a0_0 : Int) (a0_1 : Int) (a0_2 : ByteArray) (a0_3 : ByteArray) (A0_4 : Option Addr) (c0_4 : Nat) (l0_4 : List Int) (a0_5 : ByteArray) (a1_0 : Int) (a1_1 : Int) (a1_2 : ByteArray) (a1_3 : ByteArray) (A1_4 : Option Addr) (c1_4 : Nat) (l1_4 : List Int) (a1_5 : ByteArray) (r : Bool) (w : World) (hr0_4 : Kd.C (Kd.int .i64) w A0_4 l0_4.length l0_4) (hc0_4 : l0_4.length ≤ c0_4) (hr1_4 : Kd.C (Kd.int .i64) w A1_4 l1_4.length l1_4) (hc1_4 : l1_4.length ≤ c1_4) (h : event_Same.f k a0_0 a0_1 a0_2 a0_3 l0_4 a0_5 a1_0 a1_1 a1_2 a1_3 l1_4 a1_5 = some r) :
  Calls Tryd.prog 22 #[.agg #[.int .i64 a0_0, .int .i64 a0_1, .string a0_2, .string a0_3, .slice A0_4 l0_4.length c0_4, .string a0_5], .agg #[.int .i64 a1_0, .int .i64 a1_1, .string a1_2, .string a1_3, .slice A1_4 l1_4.length c1_4, .string a1_5]] w fun e w' => e = .returned (.bool r) ∧ Below w.heap.size w w' := by
 have hu24 := Tryd.underlying24
 have HR0_4 := Aside0.mk hr0_4
 have HC0_4 := Aside0.mk hc0_4
 clear hr0_4 hc0_4
 have HR1_4 := Aside0.mk hr1_4
 have HC1_4 := Aside0.mk hc1_4
 clear hr1_4 hc1_4
 have HB := q_ (Below.refl w.heap.size w)
 have H : (if a0_0 = a1_0 then (if a0_1 = a1_1 then (if a0_2.toList = a1_2.toList then (if a0_3.toList = a1_3.toList then (if a0_5.toList = a1_5.toList then ((slices_Equal_int_int.f k l0_4 l1_4).bind fun t254 => (some t254)) else (some false)) else (some false)) else (some false)) else (some false)) else (some false)) = some r := h
 clear h
 by_cases c3 : a0_0 = a1_0
 rw [if_pos c3] at H
 have c3b0 : (a0_0 == a1_0) = true := beq_iff_eq.mpr c3
 have c3b1 : (a0_0 != a1_0) = false := oD c3
 clear c3
 by_cases c4 : a0_1 = a1_1
 rw [if_pos c4] at H
 have c4b0 : (a0_1 == a1_1) = true := beq_iff_eq.mpr c4
 have c4b1 : (a0_1 != a1_1) = false := oD c4
 clear c4
 by_cases c5 : a0_2.toList = a1_2.toList
 rw [if_pos c5] at H
 have c5b0 : (a0_2.toList == a1_2.toList) = true := beq_iff_eq.mpr c5
 have c5b1 : (a0_2.toList != a1_2.toList) = false := oD c5
 clear c5
 by_cases c6 : a0_3.toList = a1_3.toList
 rw [if_pos c6] at H
 have c6b0 : (a0_3.toList == a1_3.toList) = true := beq_iff_eq.mpr c6
 have c6b1 : (a0_3.toList != a1_3.toList) = false := oD c6
 clear c6
 by_cases c7 : a0_5.toList = a1_5.toList
 rw [if_pos c7] at H
 have c7b0 : (a0_5.toList == a1_5.toList) = true := beq_iff_eq.mpr c7
 have c7b1 : (a0_5.toList != a1_5.toList) = false := oD c7
 clear c7
 replace H := oB H
 obtain ⟨t254, A80, H⟩ := H
 replace H : (some t254) = some r := H
 have A8 := Aside0.mk A80
 clear A80
 obtain rfl := Option.some.inj H
 rotate_left
 rw [if_neg c7] at H
 have c7b0 : (a0_5.toList == a1_5.toList) = false := oC c7
 have c7b1 : (a0_5.toList != a1_5.toList) = true := bne_iff_ne.mpr c7
 obtain rfl := Option.some.inj H
 rotate_left
 rw [if_neg c6] at H
 have c6b0 : (a0_3.toList == a1_3.toList) = false := oC c6
 have c6b1 : (a0_3.toList != a1_3.toList) = true := bne_iff_ne.mpr c6
 obtain rfl := Option.some.inj H
 rotate_left
 rw [if_neg c5] at H
 have c5b0 : (a0_2.toList == a1_2.toList) = false := oC c5
 have c5b1 : (a0_2.toList != a1_2.toList) = true := bne_iff_ne.mpr c5
 obtain rfl := Option.some.inj H
 rotate_left
 rw [if_neg c4] at H
 have c4b0 : (a0_1 == a1_1) = false := oC c4
 have c4b1 : (a0_1 != a1_1) = true := bne_iff_ne.mpr c4
 obtain rfl := Option.some.inj H
 rotate_left
 rw [if_neg c3] at H
 have c3b0 : (a0_0 == a1_0) = false := oC c3
 have c3b1 : (a0_0 != a1_0) = true := bne_iff_ne.mpr c3
 obtain rfl := Option.some.inj H
 rotate_left
 all_goals go_enter Tryd.func22, Tryd.ntmps22
 all_goals go_wp2_with (first | ((with_reducible refine gate_dst (N := 2) rfl ?_); refine box_event ?hg (N := 2) ?hd (cs := #[.int .i64 a0_0, .int .i64 a0_1, .string a0_2, .string a0_3, .slice A0_4 l0_4.length c0_4, .string a0_5]) (t := 24) ?hr ?_; (case hd => rfl); (case hg => rfl); (case hr => first | (go_simp; done) | (go_simp; rfl)); intro gb252 hg w9 hbox hb; have n0_ := q_ (pT (by repeat (first | (with_reducible first | exact HB.out | apply pA | apply pN | apply p1) | exact HB.out)) hb); have n1_ := q_ (hbox); have n2_ := q_ ((by rw [hg]; exact (pZ (by repeat (first | (with_reducible first | exact HB.out | apply pA | apply pN | apply p1) | exact HB.out))) : w.heap.size ≤ gb252)); have n3_ := q_ ((by rw [hg]; exact (pZ (by repeat (first | (with_reducible first | exact HB.out | apply pA | apply pN | apply p1) | exact HB.out))) : w.heap.size ≤ gb252)); clear HB; have HB := n0_; have BK252 := n1_; have GW252 := n2_; have GE252 := n3_; clear n0_ n1_ n2_ n3_; clear hb hbox hg) | ((with_reducible refine gate_dst (N := 3) rfl ?_); refine box_event ?hg (N := 3) ?hd (cs := #[.int .i64 a1_0, .int .i64 a1_1, .string a1_2, .string a1_3, .slice A1_4 l1_4.length c1_4, .string a1_5]) (t := 24) ?hr ?_; (case hd => rfl); (case hg => rfl); (case hr => first | (go_simp; done) | (go_simp; rfl)); intro gb253 hg w10 hbox hb; have n0_ := q_ (bB (g := gb252) (o := .cells #[.int .i64 a0_0, .int .i64 a0_1, .string a0_2, .string a0_3, .slice A0_4 l0_4.length c0_4, .string a0_5] 24 (0, 0)) (by (with_reducible repeat (first | refine bN ?_ _ | refine bW ?_ | refine bA ?_ _)); exact BK252.out) hb); have n1_ := q_ (pT (by repeat (first | (with_reducible first | exact HB.out | apply pA | apply pN | apply p1 | refine pS ?_ GE252.out) | exact HB.out)) hb); have n2_ := q_ (hbox); have n3_ := q_ ((by rw [hg]; exact (pZ (by repeat (first | (with_reducible first | exact HB.out | apply pA | apply pN | apply p1 | refine pS ?_ GE252.out) | exact HB.out))) : w.heap.size ≤ gb253)); have n4_ := q_ ((by rw [hg]; exact (pZ (by repeat (first | (with_reducible first | exact HB.out | apply pA | apply pN | apply p1 | refine pS ?_ GE252.out) | exact HB.out))) : w.heap.size ≤ gb253)); have n5_ := q_ ((by rw [hg]; exact Nat.ne_of_lt (blk_lt (g := gb252) (o := .cells #[.int .i64 a0_0, .int .i64 a0_1, .string a0_2, .string a0_3, .slice A0_4 l0_4.length c0_4, .string a0_5] 24 (0, 0)) (by (with_reducible repeat (first | refine bN ?_ _ | refine bW ?_ | refine bA ?_ _)); exact BK252.out)) : gb252 ≠ gb253)); have n6_ := q_ ((by rw [hg]; exact Nat.ne_of_gt (blk_lt (g := gb252) (o := .cells #[.int .i64 a0_0, .int .i64 a0_1, .string a0_2, .string a0_3, .slice A0_4 l0_4.length c0_4, .string a0_5] 24 (0, 0)) (by (with_reducible repeat (first | refine bN ?_ _ | refine bW ?_ | refine bA ?_ _)); exact BK252.out)) : gb253 ≠ gb252)); clear BK252; clear HB; have BK252 := n0_; have HB := n1_; have BK253 := n2_; have GW253 := n3_; have GE253 := n4_; have NB252_253 := n5_; have NB253_252 := n6_; clear n0_ n1_ n2_ n3_ n4_ n5_ n6_; clear hb hbox hg; have hnb11 := NB252_253.out; have hnc11 := NB253_252.out; have hcz12_0 : w10.cell? ⟨gb252, 0, none⟩ = some (.int .i64 a0_0) := (bC BK252.out 0).trans rfl; have hcz12_1 : w10.cell? ⟨gb252, 1, none⟩ = some (.int .i64 a0_1) := (bC BK252.out 1).trans rfl; have hcz12_2 : w10.cell? ⟨gb252, 2, none⟩ = some (.string a0_2) := (bC BK252.out 2).trans rfl; have hcz12_3 : w10.cell? ⟨gb252, 3, none⟩ = some (.string a0_3) := (bC BK252.out 3).trans rfl; have hcz12_4 : w10.cell? ⟨gb252, 4, none⟩ = some (.slice A0_4 l0_4.length c0_4) := (bC BK252.out 4).trans rfl; have hcz12_5 : w10.cell? ⟨gb252, 5, none⟩ = some (.string a0_5) := (bC BK252.out 5).trans rfl; have hfz12_0 := bF BK252.out 0; have hfz12_1 := bF BK252.out 1; have hfz12_2 := bF BK252.out 2; have hfz12_3 := bF BK252.out 3; have hfz12_4 := bF BK252.out 4; have hfz12_5 := bF BK252.out 5; have hcz13_0 : w10.cell? ⟨gb253, 0, none⟩ = some (.int .i64 a1_0) := (bC BK253.out 0).trans rfl; have hcz13_1 : w10.cell? ⟨gb253, 1, none⟩ = some (.int .i64 a1_1) := (bC BK253.out 1).trans rfl; have hcz13_2 : w10.cell? ⟨gb253, 2, none⟩ = some (.string a1_2) := (bC BK253.out 2).trans rfl; have hcz13_3 : w10.cell? ⟨gb253, 3, none⟩ = some (.string a1_3) := (bC BK253.out 3).trans rfl; have hcz13_4 : w10.cell? ⟨gb253, 4, none⟩ = some (.slice A1_4 l1_4.length c1_4) := (bC BK253.out 4).trans rfl; have hcz13_5 : w10.cell? ⟨gb253, 5, none⟩ = some (.string a1_5) := (bC BK253.out 5).trans rfl; have hfz13_0 := bF BK253.out 0; have hfz13_1 := bF BK253.out 1; have hfz13_2 := bF BK253.out 2; have hfz13_3 := bF BK253.out 3; have hfz13_4 := bF BK253.out 4; have hfz13_5 := bF BK253.out 5) | (go_at_call 49; (with_reducible refine (slices_Equal_int_int.calls k _ _ l0_4 _ _ l1_4 t254 _ ?side1 ?side2 ?side3 ?side4 A8.out).mono ?_); (case side1 => repeat (first | exact (Kd.C_below HR0_4.out HB.out) | (with_reducible refine Kd.C_alloc ?_ _) | (with_reducible refine Kd.C_drewN ?_ _) | (with_reducible refine Kd.C_drew ?_))); (case side2 => exact HC0_4.out); (case side3 => repeat (first | exact (Kd.C_below HR1_4.out HB.out) | (with_reducible refine Kd.C_alloc ?_ _) | (with_reducible refine Kd.C_drewN ?_ _) | (with_reducible refine Kd.C_drew ?_))); (case side4 => exact HC1_4.out); rintro e w' ⟨rfl, ⟨nd, rfl⟩⟩))
 ·go_ret
  exact ⟨by first | rfl | (simp [*] <;> rfl), by repeat (first | (with_reducible first | exact HB.out | apply pA | apply pN | apply p1 | refine pS ?_ GE252.out | refine pS ?_ GE253.out) | exact HB.out)⟩
 ·go_ret
  exact ⟨by first | rfl | (simp [*] <;> rfl), by repeat (first | (with_reducible first | exact HB.out | apply pA | apply pN | apply p1 | refine pS ?_ GE252.out | refine pS ?_ GE253.out) | exact HB.out)⟩
 ·go_ret
  exact ⟨by first | rfl | (simp [*] <;> rfl), by repeat (first | (with_reducible first | exact HB.out | apply pA | apply pN | apply p1 | refine pS ?_ GE252.out | refine pS ?_ GE253.out) | exact HB.out)⟩
 ·go_ret
  exact ⟨by first | rfl | (simp [*] <;> rfl), by repeat (first | (with_reducible first | exact HB.out | apply pA | apply pN | apply p1 | refine pS ?_ GE252.out | refine pS ?_ GE253.out) | exact HB.out)⟩
 ·go_ret
  exact ⟨by first | rfl | (simp [*] <;> rfl), by repeat (first | (with_reducible first | exact HB.out | apply pA | apply pN | apply p1 | refine pS ?_ GE252.out | refine pS ?_ GE253.out) | exact HB.out)⟩
 ·go_ret
  exact ⟨by first | rfl | (simp [*] <;> rfl), by repeat (first | (with_reducible first | exact HB.out | apply pA | apply pN | apply p1 | refine pS ?_ GE252.out | refine pS ?_ GE253.out) | exact HB.out)⟩
def sawmillref02_capital.f (a0 : Int) : Option (Bool) := if a0 ≥ 65 then (some (decide (a0 ≤ 90))) else (some false)
set_option maxHeartbeats 8000000 in
set_option maxRecDepth 100000 in
theorem sawmillref02_capital.calls (a0 : Int) (r : Bool) (w : World) (h : sawmillref02_capital.f a0 = some r) :
  Calls Tryd.prog 50 #[.int .u8 a0] w fun e w' => e = .returned (.bool r) ∧ Drawn0 w w' := by
 have H : (if a0 ≥ 65 then (some (decide (a0 ≤ 90))) else (some false)) = some r := h
 clear h
 by_cases c2 : a0 ≥ 65
 ·rw [if_pos c2] at H
  have c2b0 : decide (65 ≤ a0) = true := decide_eq_true c2
  clear c2
  obtain rfl := Option.some.inj H
  go_enter Tryd.func50, Tryd.ntmps50
  go_wp2
  go_ret
  exact ⟨by first | rfl | (simp; done) | (simp [*]; done), by repeat (first | exact Drawn0.refl _ | apply Drawn0.step)⟩
 ·rw [if_neg c2] at H
  have c2b0 : decide (65 ≤ a0) = false := decide_eq_false c2
  clear c2
  obtain rfl := Option.some.inj H
  go_enter Tryd.func50, Tryd.ntmps50
  go_wp2
  go_ret
  exact ⟨by first | rfl | (simp; done) | (simp [*]; done), by repeat (first | exact Drawn0.refl _ | apply Drawn0.step)⟩
def sawmillref02_Letter.l0 : Nat → ByteArray → Int → Int → Option (Int)
 | 0, _, _, _ => none
 | k + 1, x0, x3, x4 => if x4 < (x0.size : Int) then (if 0 ≤ x4 then (sawmillref02_Letter.l0 k x0 (Int.tmod (wrap64 (x3 + (wrap64 ((Int.tmod (wrap64 (x4 + 1)) 23) * (wrap64 (bt x0 x4)))))) 23) (wrap64 (x4 + 1))) else (none)) else (some ((wrap64 (65 + x3)) % 256))
def sawmillref02_Letter.f (k : Nat) (a0 : ByteArray) : Option (Int) := sawmillref02_Letter.l0 k a0 0 0
theorem sawmillref02_Letter.mono_l : ∀ k, (∀ y0 y1 y2, LeO (sawmillref02_Letter.l0 k y0 y1 y2) (sawmillref02_Letter.l0 (k + 1) y0 y1 y2))
 | 0 => fun _ _ _ r h => by simp [sawmillref02_Letter.l0] at h
 | k + 1 => by
  have ih0 := sawmillref02_Letter.mono_l k
  ·intro y0 y1 y2
   unfold sawmillref02_Letter.l0
   repeat' first
   | (with_reducible exact ih0 _ _ _)
   | (with_reducible exact LeO.refl _)
   | (with_reducible exact LeO.none _)
   | (with_reducible refine LeO.ite ?_ ?_)
   | (with_reducible refine LeO.bind ?_ (fun _ => ?_))
   | exact ih0 _ _ _
   | exact LeO.none _
   | refine LeO.ite ?_ ?_
   | refine LeO.bind ?_ (fun _ => ?_)
theorem sawmillref02_Letter.mono : ∀ a0 k, LeO (sawmillref02_Letter.f k a0) (sawmillref02_Letter.f (k + 1) a0) := by
 intro a0 k
 have ih0 := sawmillref02_Letter.mono_l k
 unfold sawmillref02_Letter.f
 repeat' first
   | (with_reducible exact ih0 _ _ _)
   | (with_reducible exact LeO.refl _)
   | (with_reducible exact LeO.none _)
   | (with_reducible refine LeO.ite ?_ ?_)
   | (with_reducible refine LeO.bind ?_ (fun _ => ?_))
   | exact ih0 _ _ _
   | exact LeO.none _
   | refine LeO.ite ?_ ?_
   | refine LeO.bind ?_ (fun _ => ?_)
set_option maxHeartbeats 8000000 in
set_option maxRecDepth 100000 in
theorem sawmillref02_Letter.calls (k : Nat) (a0 : ByteArray) (r : Int) (w : World) (h : sawmillref02_Letter.f k a0 = some r) :
  Calls Tryd.prog 51 #[.string a0] w fun e w' => e = .returned (.int .u8 r) ∧ Drawn0 w w' := by
 have H : (sawmillref02_Letter.l0 k a0 0 0) = some r := h
 clear h
 have H' := Aside0.mk H
 clear H
 go_enter Tryd.func51, Tryd.ntmps51
 go_wp2
 go_loopg [3, 4] k (fun kq v3 v4 w' => ∃ (x3_1 : Int) (x4_1 : Int), v3 = .int .i64 x3_1 ∧ v4 = .int .i64 x4_1 ∧ Aside0 (sawmillref02_Letter.l0 kq a0 x3_1 x4_1 = some r) ∧ Aside0 (kq ≤ k) ∧ Drawn0 w w')
 case atStart => exact ⟨(0), (0), (by first | rfl | (simp; done) | (simp [*]; done)), (by first | rfl | (simp; done) | (simp [*]; done)), H', ⟨Nat.le_refl _⟩, by repeat (first | exact Drawn0.refl _ | apply Drawn0.step)⟩
 case round =>
  clear H'
  obtain ⟨x3_1, x4_1, rfl, rfl, HA, HK1, ⟨m1, rfl⟩⟩ := hrel
  cases gk with
  | zero => exact absurd HA.out (by simp [sawmillref02_Letter.l0])
  | succ k1 =>
   have H := HA.out
   clear HA
   simp only [sawmillref02_Letter.l0] at H
   by_cases c2 : x4_1 < (a0.size : Int)
   ·rw [if_pos c2] at H
    have c2b0 : decide (x4_1 < (a0.size : Int)) = true := decide_eq_true c2
    clear c2
    by_cases c3 : 0 ≤ x4_1
    ·rw [if_pos c3] at H
     have c3b0 : decide (0 ≤ x4_1) = true := decide_eq_true c3
     clear c3
     have H' := Aside0.mk H
     clear H
     have p4 : 0 ≤ (x4_1 : Int) := of_decide_eq_true (by first | (with_reducible assumption) | assumption)
     have q4 : x4_1 < (a0.size : Int) := of_decide_eq_true (by first | (with_reducible assumption) | assumption)
     have hx4 := bt_at a0 x4_1
     replace p4 := eq_true p4
     replace q4 := eq_true q4
     go_wp2
     go_roundg k1
     case measure => have := HK1.out; omega
     case rel => exact ⟨(Int.tmod (wrap64 (x3_1 + (wrap64 ((Int.tmod (wrap64 (x4_1 + 1)) 23) * (wrap64 (bt a0 x4_1)))))) 23), (wrap64 (x4_1 + 1)), (by first | rfl | (simp; done) | (simp [*]; done)), (by first | rfl | (simp; done) | (simp [*]; done)), H', ⟨by have := HK1.out; omega⟩, by repeat (first | exact Drawn0.refl _ | apply Drawn0.step)⟩
    ·rw [if_neg c3] at H
     exact absurd H (by simp)
   ·rw [if_neg c2] at H
    have c2b0 : decide (x4_1 < (a0.size : Int)) = false := decide_eq_false c2
    clear c2
    obtain rfl := Option.some.inj H
    go_wp2
    go_ret
    exact ⟨by first | rfl | (simp; done) | (simp [*]; done), by repeat (first | exact Drawn0.refl _ | apply Drawn0.step)⟩
mutual
def sawmillref02_Code.j0 : Nat → Int → Int → Bool → Option (ByteArray × Int)
 | 0, _, _, _ => none
 | k + 1, x0, x1, x16 => if x16 = true then (some ((⟨#[]⟩ : ByteArray), 9)) else (sawmillref02_Code.l0 k x1 (strOfNums (([x0] : List Int))) 100000)
def sawmillref02_Code.l0 : Nat → Int → ByteArray → Int → Option (ByteArray × Int)
 | 0, _, _, _ => none
 | k + 1, x1, x6, x7 => if x7 > 0 then (if x7 = 0 then (none) else ((some (([(wrap64 (48 + (Int.tmod (wrap64 (Int.tdiv x1 x7)) 10))) % 256] : List Int) : List Int)).bind fun y259 => (if x6.size + (strOfNums y259).size ≤ 9223372036854775807 then (sawmillref02_Code.l0 k x1 (x6 ++ (strOfNums y259)) (wrap64 (Int.tdiv x7 10))) else (none)))) else ((sawmillref02_Letter.f k x6).bind fun t262 => ((some (([t262] : List Int) : List Int)).bind fun y263 => (if x6.size + (strOfNums y263).size ≤ 9223372036854775807 then (some (x6 ++ (strOfNums y263), 0)) else (none))))
end
def sawmillref02_Code.f (k : Nat) (a0 : Int) (a1 : Int) : Option (ByteArray × Int) := (sawmillref02_capital.f a0).bind fun t255 => (if t255 = true then (if a1 < 0 then (sawmillref02_Code.j0 k a0 a1 true) else (sawmillref02_Code.j0 k a0 a1 (decide (a1 > 999999)))) else (some ((⟨#[]⟩ : ByteArray), 10)))
theorem sawmillref02_Code.mono_l : ∀ k, (∀ y0 y1 y2, LeO (sawmillref02_Code.j0 k y0 y1 y2) (sawmillref02_Code.j0 (k + 1) y0 y1 y2)) ∧ (∀ y0 y1 y2, LeO (sawmillref02_Code.l0 k y0 y1 y2) (sawmillref02_Code.l0 (k + 1) y0 y1 y2))
 | 0 => ⟨fun _ _ _ r h => by simp [sawmillref02_Code.j0] at h, fun _ _ _ r h => by simp [sawmillref02_Code.l0] at h⟩
 | k + 1 => by
  obtain ⟨ih0, ih1⟩ := sawmillref02_Code.mono_l k
  refine ⟨?_, ?_⟩
  ·intro y0 y1 y2
   unfold sawmillref02_Code.j0
   repeat' first
   | (with_reducible exact ih0 _ _ _)
   | (with_reducible exact ih1 _ _ _)
   | (with_reducible exact sawmillref02_Letter.mono _ _)
   | (with_reducible exact LeO.refl _)
   | (with_reducible exact LeO.none _)
   | (with_reducible refine LeO.ite ?_ ?_)
   | (with_reducible refine LeO.bind ?_ (fun _ => ?_))
   | exact ih0 _ _ _
   | exact ih1 _ _ _
   | exact sawmillref02_Letter.mono _ _
   | exact LeO.none _
   | refine LeO.ite ?_ ?_
   | refine LeO.bind ?_ (fun _ => ?_)
  ·intro y0 y1 y2
   unfold sawmillref02_Code.l0
   repeat' first
   | (with_reducible exact ih0 _ _ _)
   | (with_reducible exact ih1 _ _ _)
   | (with_reducible exact sawmillref02_Letter.mono _ _)
   | (with_reducible exact LeO.refl _)
   | (with_reducible exact LeO.none _)
   | (with_reducible refine LeO.ite ?_ ?_)
   | (with_reducible refine LeO.bind ?_ (fun _ => ?_))
   | exact ih0 _ _ _
   | exact ih1 _ _ _
   | exact sawmillref02_Letter.mono _ _
   | exact LeO.none _
   | refine LeO.ite ?_ ?_
   | refine LeO.bind ?_ (fun _ => ?_)
theorem sawmillref02_Code.mono : ∀ a0 a1 k, LeO (sawmillref02_Code.f k a0 a1) (sawmillref02_Code.f (k + 1) a0 a1) := by
 intro a0 a1 k
 obtain ⟨ih0, ih1⟩ := sawmillref02_Code.mono_l k
 unfold sawmillref02_Code.f
 repeat' first
   | (with_reducible exact ih0 _ _ _)
   | (with_reducible exact ih1 _ _ _)
   | (with_reducible exact sawmillref02_Letter.mono _ _)
   | (with_reducible exact LeO.refl _)
   | (with_reducible exact LeO.none _)
   | (with_reducible refine LeO.ite ?_ ?_)
   | (with_reducible refine LeO.bind ?_ (fun _ => ?_))
   | exact ih0 _ _ _
   | exact ih1 _ _ _
   | exact sawmillref02_Letter.mono _ _
   | exact LeO.none _
   | refine LeO.ite ?_ ?_
   | refine LeO.bind ?_ (fun _ => ?_)
set_option maxHeartbeats 8000000 in
set_option maxRecDepth 100000 in
theorem sawmillref02_Code.calls (k : Nat) (a0 : Int) (a1 : Int) (r1 : ByteArray) (r2 : Int) (w : World) (h : sawmillref02_Code.f k a0 a1 = some (r1, r2)) :
  Calls Tryd.prog 23 #[.int .u8 a0, .int .i64 a1] w fun e w' => e = .returned (.tuple #[.string r1, .int .i64 r2]) ∧ Below w.heap.size w w' := by
 have HB := q_ (Below.refl w.heap.size w)
 have H : ((sawmillref02_capital.f a0).bind fun t255 => (if t255 = true then (if a1 < 0 then (sawmillref02_Code.j0 k a0 a1 true) else (sawmillref02_Code.j0 k a0 a1 (decide (a1 > 999999)))) else (some ((⟨#[]⟩ : ByteArray), 10)))) = some (r1, r2) := h
 clear h
 replace H := oB H
 obtain ⟨t255, A30, H⟩ := H
 replace H : (if t255 = true then (if a1 < 0 then (sawmillref02_Code.j0 k a0 a1 true) else (sawmillref02_Code.j0 k a0 a1 (decide (a1 > 999999)))) else (some ((⟨#[]⟩ : ByteArray), 10))) = some (r1, r2) := H
 have A3 := Aside0.mk A30
 clear A30
 by_cases c4 : t255 = true
 ·subst c4
  have H1 : (if a1 < 0 then (sawmillref02_Code.j0 k a0 a1 true) else (sawmillref02_Code.j0 k a0 a1 (decide (a1 > 999999)))) = some (r1, r2) := by rw [if_pos rfl] at H; exact H
  clear H
  have H := H1
  clear H1
  have HC5 := Aside0.mk H
  clear H
  go_enter Tryd.func23, Tryd.ntmps23
  go_upto_region 3 with (first | ((with_reducible refine gate_callee (f := 50) rfl ?_); refine goesL_ (some 9) rfl rfl Tryd.func50 (by kernel_rfl) rfl #[.int .u8 a0] rfl (by first | rfl | (simp only [List.map_toArray]; rfl)) ?_; (with_reducible refine (sawmillref02_capital.calls a0 true _ A3.out).mono ?_); rintro e w' ⟨rfl, ⟨nd, rfl⟩⟩; refine ⟨_, rfl, ?_⟩))
  (try simp only [Act.put, List.setIfInBounds_toArray, List.set_cons_zero, List.set_cons_succ])
  go_cut [16] (fun v16 wc => ∃ (kq : Nat) (x16_4 : Bool), v16 = .bool x16_4 ∧ Aside0 (sawmillref02_Code.j0 kq a0 a1 x16_4 = some (r1, r2)) ∧ Aside0 (kq ≤ k) ∧ Aside0 (Below w.heap.size w wc))
  case first =>
   have H := HC5.out
   clear HC5
   by_cases c6 : a1 < 0
   ·rw [if_pos c6] at H
    have c6b0 : decide (a1 < 0) = true := decide_eq_true c6
    clear c6
    (first | rw [c6b0] | (simp only [i64_w, i32_w]; rw [c6b0]) | skip)
    have H' := Aside0.mk H
    clear H
    go_wp2
    go_meet
    case rel => exact ⟨_, (true), (by first | rfl | (simp; done) | (simp [*]; done)), H', ⟨by first | omega | exact Nat.le_refl _⟩, ⟨by repeat (first | (with_reducible first | exact HB.out | apply pA | apply pN | apply p1) | exact HB.out)⟩⟩
   ·rw [if_neg c6] at H
    have c6b0 : decide (a1 < 0) = false := decide_eq_false c6
    clear c6
    (first | rw [c6b0] | (simp only [i64_w, i32_w]; rw [c6b0]) | skip)
    have H' := Aside0.mk H
    clear H
    go_wp2
    go_meet
    case rel => exact ⟨_, (decide (a1 > 999999)), (by first | rfl | (simp; done) | (simp [*]; done)), H', ⟨by first | omega | exact Nat.le_refl _⟩, ⟨by repeat (first | (with_reducible first | exact HB.out | apply pA | apply pN | apply p1) | exact HB.out)⟩⟩
  case rest =>
   clear HC5
   try clear c2
   try clear p2
   try clear c4
   try clear c5
   try clear c6
   try clear c6b0
   obtain ⟨kq, x16_4, rfl, HA, HJ4, HB⟩ := hcut
   cases kq with
   | zero => exact absurd HA.out (by simp [sawmillref02_Code.j0])
   | succ kj4 =>
    have H := HA.out
    clear HA
    simp only [sawmillref02_Code.j0] at H
    by_cases c7 : x16_4 = true
    ·subst c7
     have H1 : (some ((⟨#[]⟩ : ByteArray), 9)) = some (r1, r2) := by rw [if_pos rfl] at H; exact H
     clear H
     have H := H1
     clear H1
     simp only [Option.some.injEq, Prod.mk.injEq] at H
     obtain ⟨rfl, rfl⟩ := H
     go_wp2
     go_ret2
     exact ⟨by first | rfl | (simp [*] <;> rfl), by repeat (first | (with_reducible first | exact HB.out | apply pA | apply pN | apply p1) | exact HB.out)⟩
    ·replace c7 := Bool.eq_false_iff.mpr c7
     subst c7
     have H1 : (sawmillref02_Code.l0 kj4 a1 (strOfNums (([a0] : List Int))) 100000) = some (r1, r2) := by rw [if_neg (show ¬ (false = true) by decide)] at H; exact H
     clear H
     have H := H1
     clear H1
     obtain ⟨y256, hy256⟩ : ∃ y_ : List Int, y_ = (([a0] : List Int)) := ⟨_, rfl⟩
     replace H : (sawmillref02_Code.l0 kj4 a1 (strOfNums y256) 100000) = some (r1, r2) := by first | (rw [hy256]; with_reducible exact H) | (have H2_ := (Option.bind_some _ _).symm.trans H; rw [hy256]; with_reducible exact H2_) | (have H2_ := (Option.bind_some _ _).symm.trans H; with_reducible exact H2_) | with_reducible exact H | (rw [hy256]; exact H) | exact H
     have Ny256 := Aside0.mk hy256
     clear hy256
     have H' := Aside0.mk H
     clear H
     go_wp2_with (first | ((with_reducible refine gate_dst (N := 18) rfl ?_); refine Kd.R_lit (Kd.int .u8) _ 5 ?hg (N := 18) ?hd (xs := ([a0] : List Int)) (inner := [.int .u8 a0]) (ok := fun _ => True) (okp := fun _ => True) ?hr ?hp (fun _ hk => hk) trivial (Below.refl _ _) (Nat.le_refl _) (by simp) ?_; (case hd => rfl); (case hg => rfl); (case hr => first | (go_simp; done) | (go_simp; rfl)); (case hp => exact (Reps.one (show Kd.M (Kd.int .u8) _ _ _ a0 [.int .u8 a0] from rfl) (Reps.none _ _))); intro v257 w8 ho9 hb hg_ hnew_; clear hg_ hnew_; (first | rw [← Ny256.out] at ho9 | (simp only [Int.reduceToNat] at ho9; rw [← Ny256.out] at ho9)); have n0_ := q_ (Kd.R_lower ho9 (pZ (by repeat (first | (with_reducible first | exact HB.out | apply pA | apply pN | apply p1) | exact HB.out)))); have n1_ := q_ (pT (by repeat (first | (with_reducible first | exact HB.out | apply pA | apply pN | apply p1) | exact HB.out)) hb); clear HB; have HO258 := n0_; have HB := n1_; clear n0_ n1_; clear hb ho9; have hcv10 := own_string (P := Tryd.prog) Tryd.underlying39 Tryd.underlying5 Tryd.underlying9 (Kd.own_of_R HO258.out)))
     go_loopg [6, 7] kj4 (fun kq v6 v7 w' => ∃ (x6_2 : ByteArray) (x7_2 : Int), v6 = .string x6_2 ∧ v7 = .int .i64 x7_2 ∧ Aside0 (sawmillref02_Code.l0 kq a1 x6_2 x7_2 = some (r1, r2)) ∧ Aside0 (kq ≤ kj4) ∧ Aside0 (Below w.heap.size w w'))
     case atStart => exact ⟨(strOfNums y256), (100000), (by first | rfl | (simp; done) | (simp [*]; done)), (by first | rfl | (simp; done) | (simp [*]; done)), H', ⟨Nat.le_refl _⟩, ⟨by repeat (first | (with_reducible first | exact HB.out | apply pA | apply pN | apply p1) | exact HB.out)⟩⟩
     case round =>
      clear H'
      try clear hcv1
      try clear c2
      try clear p2
      try clear c4
      try clear c5
      try clear c6
      try clear c6b0
      try clear c7
      try clear hcv10
      try clear p2
      obtain ⟨x6_2, x7_2, rfl, rfl, HA, HK2, HB⟩ := hrel
      cases gk with
      | zero => exact absurd HA.out (by simp [sawmillref02_Code.l0])
      | succ k2 =>
       have H := HA.out
       clear HA
       simp only [sawmillref02_Code.l0] at H
       by_cases c11 : x7_2 > 0
       ·rw [if_pos c11] at H
        have c11b0 : decide (0 < x7_2) = true := decide_eq_true c11
        clear c11
        by_cases c12 : x7_2 = 0
        ·rw [if_pos c12] at H
         exact absurd H (by simp)
        ·rw [if_neg c12] at H
         have c12b0 : (x7_2 == 0) = false := oC c12
         have c12b1 : (x7_2 != 0) = true := bne_iff_ne.mpr c12
         obtain ⟨y259, hy259⟩ : ∃ y_ : List Int, y_ = (([(wrap64 (48 + (Int.tmod (wrap64 (Int.tdiv a1 x7_2)) 10))) % 256] : List Int)) := ⟨_, rfl⟩
         replace H : (if x6_2.size + (strOfNums y259).size ≤ 9223372036854775807 then (sawmillref02_Code.l0 k2 a1 (x6_2 ++ (strOfNums y259)) (wrap64 (Int.tdiv x7_2 10))) else (none)) = some (r1, r2) := by first | (rw [hy259]; with_reducible exact H) | (have H2_ := (Option.bind_some _ _).symm.trans H; rw [hy259]; with_reducible exact H2_) | (have H2_ := (Option.bind_some _ _).symm.trans H; with_reducible exact H2_) | with_reducible exact H | (rw [hy259]; exact H) | exact H
         have Ny259 := Aside0.mk hy259
         clear hy259
         by_cases c13 : x6_2.size + (strOfNums y259).size ≤ 9223372036854775807
         ·rw [if_pos c13] at H
          have c13b0 := eq_true c13
          have c13b1 : decide (x6_2.size + (strOfNums y259).size ≤ 9223372036854775807) = true := decide_eq_true c13
          try have c13b2 : (9223372036854775807 < x6_2.size + (strOfNums y259).size) = False := eq_false (Nat.not_lt.2 c13)
          clear c13
          have H' := Aside0.mk H
          clear H
          go_wp2_with (first | ((with_reducible refine gate_dst (N := 31) rfl ?_); refine Kd.R_lit (Kd.int .u8) _ 5 ?hg (N := 31) ?hd (xs := ([(wrap64 (48 + (Int.tmod (wrap64 (Int.tdiv a1 x7_2)) 10))) % 256] : List Int)) (inner := [.int .u8 ((wrap64 (48 + (Int.tmod (wrap64 (Int.tdiv a1 x7_2)) 10))) % 256)]) (ok := fun _ => True) (okp := fun _ => True) ?hr ?hp (fun _ hk => hk) trivial (Below.refl _ _) (Nat.le_refl _) (by simp) ?_; (case hd => rfl); (case hg => rfl); (case hr => first | (go_simp; done) | (go_simp; rfl)); (case hp => exact (Reps.one (show Kd.M (Kd.int .u8) _ _ _ ((wrap64 (48 + (Int.tmod (wrap64 (Int.tdiv a1 x7_2)) 10))) % 256) [.int .u8 ((wrap64 (48 + (Int.tmod (wrap64 (Int.tdiv a1 x7_2)) 10))) % 256)] from rfl) (Reps.none _ _))); intro v260 w14 ho15 hb hg_ hnew_; clear hg_ hnew_; (first | rw [← Ny259.out] at ho15 | (simp only [Int.reduceToNat] at ho15; rw [← Ny259.out] at ho15)); have n0_ := q_ (Kd.R_lower ho15 (pZ (by repeat (first | (with_reducible first | exact HB.out | apply pA | apply pN | apply p1) | exact HB.out)))); have n1_ := q_ (pT (by repeat (first | (with_reducible first | exact HB.out | apply pA | apply pN | apply p1) | exact HB.out)) hb); clear HB; have HO261 := n0_; have HB := n1_; clear n0_ n1_; clear hb ho15; have hcv16 := own_string (P := Tryd.prog) Tryd.underlying39 Tryd.underlying5 Tryd.underlying9 (Kd.own_of_R HO261.out)))
          go_roundg k2
          case measure => have := HJ4.out; have := HK2.out; omega
          case rel => exact ⟨(x6_2 ++ (strOfNums y259)), (wrap64 (Int.tdiv x7_2 10)), (by first | rfl | (simp; done) | (simp [*]; done)), (by first | rfl | (simp; done) | (simp [*]; done)), H', ⟨by have := HJ4.out; have := HK2.out; omega⟩, ⟨by repeat (first | (with_reducible first | exact HB.out | apply pA | apply pN | apply p1) | exact HB.out)⟩⟩
         ·rw [if_neg c13] at H
          exact absurd H (by simp)
       ·rw [if_neg c11] at H
        have c11b0 : decide (0 < x7_2) = false := decide_eq_false c11
        clear c11
        replace H := oB H
        obtain ⟨t262, A170, H⟩ := H
        replace H : ((some (([t262] : List Int) : List Int)).bind fun y263 => (if x6_2.size + (strOfNums y263).size ≤ 9223372036854775807 then (some (x6_2 ++ (strOfNums y263), 0)) else (none))) = some (r1, r2) := H
        have A17 := Aside0.mk A170
        clear A170
        obtain ⟨y263, hy263⟩ : ∃ y_ : List Int, y_ = (([t262] : List Int)) := ⟨_, rfl⟩
        replace H : (if x6_2.size + (strOfNums y263).size ≤ 9223372036854775807 then (some (x6_2 ++ (strOfNums y263), 0)) else (none)) = some (r1, r2) := by first | (rw [hy263]; with_reducible exact H) | (have H2_ := (Option.bind_some _ _).symm.trans H; rw [hy263]; with_reducible exact H2_) | (have H2_ := (Option.bind_some _ _).symm.trans H; with_reducible exact H2_) | with_reducible exact H | (rw [hy263]; exact H) | exact H
        have Ny263 := Aside0.mk hy263
        clear hy263
        by_cases c18 : x6_2.size + (strOfNums y263).size ≤ 9223372036854775807
        ·rw [if_pos c18] at H
         have c18b0 := eq_true c18
         have c18b1 : decide (x6_2.size + (strOfNums y263).size ≤ 9223372036854775807) = true := decide_eq_true c18
         try have c18b2 : (9223372036854775807 < x6_2.size + (strOfNums y263).size) = False := eq_false (Nat.not_lt.2 c18)
         clear c18
         simp only [Option.some.injEq, Prod.mk.injEq] at H
         obtain ⟨rfl, rfl⟩ := H
         go_wp2_with (first | ((with_reducible refine gate_callee (f := 51) rfl ?_); refine goesL_ (some 36) rfl rfl Tryd.func51 (by kernel_rfl) rfl #[.string x6_2] rfl (by first | rfl | (simp only [List.map_toArray]; rfl)) ?_; (with_reducible refine (sawmillref02_Letter.calls k2 x6_2 t262 _ A17.out).mono ?_); rintro e w' ⟨rfl, ⟨nd, rfl⟩⟩; refine ⟨_, rfl, ?_⟩) | ((with_reducible refine gate_dst (N := 37) rfl ?_); refine Kd.R_lit (Kd.int .u8) _ 5 ?hg (N := 37) ?hd (xs := ([t262] : List Int)) (inner := [.int .u8 t262]) (ok := fun _ => True) (okp := fun _ => True) ?hr ?hp (fun _ hk => hk) trivial (Below.refl _ _) (Nat.le_refl _) (by simp) ?_; (case hd => rfl); (case hg => rfl); (case hr => first | (go_simp; done) | (go_simp; rfl)); (case hp => exact (Reps.one (show Kd.M (Kd.int .u8) _ _ _ t262 [.int .u8 t262] from rfl) (Reps.none _ _))); intro v264 w19 ho20 hb hg_ hnew_; clear hg_ hnew_; (first | rw [← Ny263.out] at ho20 | (simp only [Int.reduceToNat] at ho20; rw [← Ny263.out] at ho20)); have n0_ := q_ (Kd.R_lower ho20 (pZ (by repeat (first | (with_reducible first | exact HB.out | apply pA | apply pN | apply p1) | exact HB.out)))); have n1_ := q_ (pT (by repeat (first | (with_reducible first | exact HB.out | apply pA | apply pN | apply p1) | exact HB.out)) hb); clear HB; have HO265 := n0_; have HB := n1_; clear n0_ n1_; clear hb ho20; have hcv21 := own_string (P := Tryd.prog) Tryd.underlying39 Tryd.underlying5 Tryd.underlying9 (Kd.own_of_R HO265.out)))
         go_ret2
         exact ⟨by first | rfl | (simp [*] <;> rfl), by repeat (first | (with_reducible first | exact HB.out | apply pA | apply pN | apply p1) | exact HB.out)⟩
        ·rw [if_neg c18] at H
         exact absurd H (by simp)
 ·replace c4 := Bool.eq_false_iff.mpr c4
  subst c4
  have H1 : (some ((⟨#[]⟩ : ByteArray), 10)) = some (r1, r2) := by rw [if_neg (show ¬ (false = true) by decide)] at H; exact H
  clear H
  have H := H1
  clear H1
  simp only [Option.some.injEq, Prod.mk.injEq] at H
  obtain ⟨rfl, rfl⟩ := H
  go_enter Tryd.func23, Tryd.ntmps23
  go_wp2_with (first | ((with_reducible refine gate_callee (f := 50) rfl ?_); refine goesL_ (some 9) rfl rfl Tryd.func50 (by kernel_rfl) rfl #[.int .u8 a0] rfl (by first | rfl | (simp only [List.map_toArray]; rfl)) ?_; (with_reducible refine (sawmillref02_capital.calls a0 false _ A3.out).mono ?_); rintro e w' ⟨rfl, ⟨nd, rfl⟩⟩; refine ⟨_, rfl, ?_⟩))
  go_ret2
  exact ⟨by first | rfl | (simp [*] <;> rfl), by repeat (first | (with_reducible first | exact HB.out | apply pA | apply pN | apply p1) | exact HB.out)⟩
def sawmilllaw58_awake.f (k : Nat)  : Option (Bool) := (event_Encode.f k 12 0 (⟨#[]⟩ : ByteArray) (⟨#[]⟩ : ByteArray) ([] : List Int) (⟨#[115, 97, 119]⟩ : ByteArray)).bind fun bt266 => ((event_Decode.f k (⟨#[24, 0, 0, 0, 0, 3, 115, 97, 119]⟩ : ByteArray)).bind fun bt268 => ((sawmillref02_Code.f k 76 7).bind fun bt278 => ((sawmillref02_Code.f k 67 1).bind fun bt280 => ((some (([1, 12, 0] : List Int) : List Int)).bind fun y282 => ((some (([100, 2, 1, 2, 2, 5, 9] : List Int) : List Int)).bind fun y286 => (if bt266.2 = 0 then (if bt266.1.toList = ([24, 0, 0, 0, 0, 3, 115, 97, 119] : List UInt8) then (if bt268.2.2.2.2.2.2 = 0 then (if bt268.1 = 12 then (if bt268.2.2.2.2.2.1.toList = ([115, 97, 119] : List UInt8) then ((event_Line.f k 4 425 bt278.1 (⟨#[]⟩ : ByteArray) y282 (⟨#[]⟩ : ByteArray)).bind fun t294 => (if 13 + bt278.1.size ≤ 9223372036854775807 then (if ((⟨#[100, 48, 32, 48, 55, 58, 48, 53, 32, 115, 97, 119, 32]⟩ : ByteArray) ++ bt278.1).size + 8 ≤ 9223372036854775807 then (if t294.toList = (((⟨#[100, 48, 32, 48, 55, 58, 48, 53, 32, 115, 97, 119, 32]⟩ : ByteArray) ++ bt278.1) ++ (⟨#[32, 49, 32, 49, 50, 32, 48, 10]⟩ : ByteArray)).toList then ((event_Check.f k 6 0 bt280.1 (⟨#[]⟩ : ByteArray) y286 (⟨#[]⟩ : ByteArray)).bind fun t295 => (if t295 = 0 then ((event_Check.f k 6 0 bt280.1 (⟨#[]⟩ : ByteArray) (([100, 2, 1] : List Int)) (⟨#[]⟩ : ByteArray)).bind fun t296 => (if t296 = 19 then ((event_Name.f 14).bind fun t297 => (if t297.toList = ([114, 101, 115, 97, 119] : List UInt8) then ((event_Name.f 15).bind fun t298 => (if t298.toList = ([] : List UInt8) then ((event_Same.f k 4 425 bt278.1 (⟨#[]⟩ : ByteArray) y282 (⟨#[]⟩ : ByteArray) 4 425 bt278.1 (⟨#[]⟩ : ByteArray) y282 (⟨#[]⟩ : ByteArray)).bind fun t299 => (if t299 = true then ((event_Same.f k 4 425 bt278.1 (⟨#[]⟩ : ByteArray) y282 (⟨#[]⟩ : ByteArray) 6 0 bt280.1 (⟨#[]⟩ : ByteArray) y286 (⟨#[]⟩ : ByteArray)).bind fun t300 => (some (!t300))) else (none))) else (none))) else (none))) else (none))) else (none))) else (none)) else (none)) else (none))) else (none)) else (none)) else (none)) else (none)) else (none)))))))
theorem sawmilllaw58_awake.mono : ∀ k, LeO (sawmilllaw58_awake.f k ) (sawmilllaw58_awake.f (k + 1) ) := by
 intro  k
 unfold sawmilllaw58_awake.f
 repeat' first
   | (with_reducible exact event_Check.mono _ _ _ _ _ _ _)
   | (with_reducible exact event_Decode.mono _ _)
   | (with_reducible exact event_Encode.mono _ _ _ _ _ _ _)
   | (with_reducible exact event_Line.mono _ _ _ _ _ _ _)
   | (with_reducible exact event_Same.mono _ _ _ _ _ _ _ _ _ _ _ _ _)
   | (with_reducible exact sawmillref02_Code.mono _ _ _)
   | (with_reducible exact LeO.refl _)
   | (with_reducible exact LeO.none _)
   | (with_reducible refine LeO.ite ?_ ?_)
   | (with_reducible refine LeO.bind ?_ (fun _ => ?_))
   | exact event_Check.mono _ _ _ _ _ _ _
   | exact event_Decode.mono _ _
   | exact event_Encode.mono _ _ _ _ _ _ _
   | exact event_Line.mono _ _ _ _ _ _ _
   | exact event_Same.mono _ _ _ _ _ _ _ _ _ _ _ _ _
   | exact sawmillref02_Code.mono _ _ _
   | exact LeO.none _
   | refine LeO.ite ?_ ?_
   | refine LeO.bind ?_ (fun _ => ?_)
set_option maxHeartbeats 8000000 in
set_option maxRecDepth 100000 in
theorem sawmilllaw58_awake.calls (k : Nat)  (r : Bool) (w : World) (h : sawmilllaw58_awake.f k  = some r) (ht : TabW w) :
  Calls Tryd.prog 10 #[] w fun e w' => e = .returned (.bool r) ∧ Below w.heap.size w w' := by
 have HTB := Aside0.mk ht
 clear ht
 have hu24 := Tryd.underlying24
 have HB := q_ (Below.refl w.heap.size w)
 have H : ((event_Encode.f k 12 0 (⟨#[]⟩ : ByteArray) (⟨#[]⟩ : ByteArray) ([] : List Int) (⟨#[115, 97, 119]⟩ : ByteArray)).bind fun bt266 => ((event_Decode.f k (⟨#[24, 0, 0, 0, 0, 3, 115, 97, 119]⟩ : ByteArray)).bind fun bt268 => ((sawmillref02_Code.f k 76 7).bind fun bt278 => ((sawmillref02_Code.f k 67 1).bind fun bt280 => ((some (([1, 12, 0] : List Int) : List Int)).bind fun y282 => ((some (([100, 2, 1, 2, 2, 5, 9] : List Int) : List Int)).bind fun y286 => (if bt266.2 = 0 then (if bt266.1.toList = ([24, 0, 0, 0, 0, 3, 115, 97, 119] : List UInt8) then (if bt268.2.2.2.2.2.2 = 0 then (if bt268.1 = 12 then (if bt268.2.2.2.2.2.1.toList = ([115, 97, 119] : List UInt8) then ((event_Line.f k 4 425 bt278.1 (⟨#[]⟩ : ByteArray) y282 (⟨#[]⟩ : ByteArray)).bind fun t294 => (if 13 + bt278.1.size ≤ 9223372036854775807 then (if ((⟨#[100, 48, 32, 48, 55, 58, 48, 53, 32, 115, 97, 119, 32]⟩ : ByteArray) ++ bt278.1).size + 8 ≤ 9223372036854775807 then (if t294.toList = (((⟨#[100, 48, 32, 48, 55, 58, 48, 53, 32, 115, 97, 119, 32]⟩ : ByteArray) ++ bt278.1) ++ (⟨#[32, 49, 32, 49, 50, 32, 48, 10]⟩ : ByteArray)).toList then ((event_Check.f k 6 0 bt280.1 (⟨#[]⟩ : ByteArray) y286 (⟨#[]⟩ : ByteArray)).bind fun t295 => (if t295 = 0 then ((event_Check.f k 6 0 bt280.1 (⟨#[]⟩ : ByteArray) (([100, 2, 1] : List Int)) (⟨#[]⟩ : ByteArray)).bind fun t296 => (if t296 = 19 then ((event_Name.f 14).bind fun t297 => (if t297.toList = ([114, 101, 115, 97, 119] : List UInt8) then ((event_Name.f 15).bind fun t298 => (if t298.toList = ([] : List UInt8) then ((event_Same.f k 4 425 bt278.1 (⟨#[]⟩ : ByteArray) y282 (⟨#[]⟩ : ByteArray) 4 425 bt278.1 (⟨#[]⟩ : ByteArray) y282 (⟨#[]⟩ : ByteArray)).bind fun t299 => (if t299 = true then ((event_Same.f k 4 425 bt278.1 (⟨#[]⟩ : ByteArray) y282 (⟨#[]⟩ : ByteArray) 6 0 bt280.1 (⟨#[]⟩ : ByteArray) y286 (⟨#[]⟩ : ByteArray)).bind fun t300 => (some (!t300))) else (none))) else (none))) else (none))) else (none))) else (none))) else (none)) else (none)) else (none))) else (none)) else (none)) else (none)) else (none)) else (none)))))))) = some r := h
 clear h
 replace H := oB H
 obtain ⟨⟨t266, t267⟩, A10, H⟩ := H
 replace H : ((event_Decode.f k (⟨#[24, 0, 0, 0, 0, 3, 115, 97, 119]⟩ : ByteArray)).bind fun bt268 => ((sawmillref02_Code.f k 76 7).bind fun bt278 => ((sawmillref02_Code.f k 67 1).bind fun bt280 => ((some (([1, 12, 0] : List Int) : List Int)).bind fun y282 => ((some (([100, 2, 1, 2, 2, 5, 9] : List Int) : List Int)).bind fun y286 => (if t267 = 0 then (if t266.toList = ([24, 0, 0, 0, 0, 3, 115, 97, 119] : List UInt8) then (if bt268.2.2.2.2.2.2 = 0 then (if bt268.1 = 12 then (if bt268.2.2.2.2.2.1.toList = ([115, 97, 119] : List UInt8) then ((event_Line.f k 4 425 bt278.1 (⟨#[]⟩ : ByteArray) y282 (⟨#[]⟩ : ByteArray)).bind fun t294 => (if 13 + bt278.1.size ≤ 9223372036854775807 then (if ((⟨#[100, 48, 32, 48, 55, 58, 48, 53, 32, 115, 97, 119, 32]⟩ : ByteArray) ++ bt278.1).size + 8 ≤ 9223372036854775807 then (if t294.toList = (((⟨#[100, 48, 32, 48, 55, 58, 48, 53, 32, 115, 97, 119, 32]⟩ : ByteArray) ++ bt278.1) ++ (⟨#[32, 49, 32, 49, 50, 32, 48, 10]⟩ : ByteArray)).toList then ((event_Check.f k 6 0 bt280.1 (⟨#[]⟩ : ByteArray) y286 (⟨#[]⟩ : ByteArray)).bind fun t295 => (if t295 = 0 then ((event_Check.f k 6 0 bt280.1 (⟨#[]⟩ : ByteArray) (([100, 2, 1] : List Int)) (⟨#[]⟩ : ByteArray)).bind fun t296 => (if t296 = 19 then ((event_Name.f 14).bind fun t297 => (if t297.toList = ([114, 101, 115, 97, 119] : List UInt8) then ((event_Name.f 15).bind fun t298 => (if t298.toList = ([] : List UInt8) then ((event_Same.f k 4 425 bt278.1 (⟨#[]⟩ : ByteArray) y282 (⟨#[]⟩ : ByteArray) 4 425 bt278.1 (⟨#[]⟩ : ByteArray) y282 (⟨#[]⟩ : ByteArray)).bind fun t299 => (if t299 = true then ((event_Same.f k 4 425 bt278.1 (⟨#[]⟩ : ByteArray) y282 (⟨#[]⟩ : ByteArray) 6 0 bt280.1 (⟨#[]⟩ : ByteArray) y286 (⟨#[]⟩ : ByteArray)).bind fun t300 => (some (!t300))) else (none))) else (none))) else (none))) else (none))) else (none))) else (none)) else (none)) else (none))) else (none)) else (none)) else (none)) else (none)) else (none))))))) = some r := H
 have A1 := Aside0.mk A10
 clear A10
 replace H := oB H
 obtain ⟨⟨t268, t269, t270, t271, t272, t275, t276⟩, A20, H⟩ := H
 replace H : ((sawmillref02_Code.f k 76 7).bind fun bt278 => ((sawmillref02_Code.f k 67 1).bind fun bt280 => ((some (([1, 12, 0] : List Int) : List Int)).bind fun y282 => ((some (([100, 2, 1, 2, 2, 5, 9] : List Int) : List Int)).bind fun y286 => (if t267 = 0 then (if t266.toList = ([24, 0, 0, 0, 0, 3, 115, 97, 119] : List UInt8) then (if t276 = 0 then (if t268 = 12 then (if t275.toList = ([115, 97, 119] : List UInt8) then ((event_Line.f k 4 425 bt278.1 (⟨#[]⟩ : ByteArray) y282 (⟨#[]⟩ : ByteArray)).bind fun t294 => (if 13 + bt278.1.size ≤ 9223372036854775807 then (if ((⟨#[100, 48, 32, 48, 55, 58, 48, 53, 32, 115, 97, 119, 32]⟩ : ByteArray) ++ bt278.1).size + 8 ≤ 9223372036854775807 then (if t294.toList = (((⟨#[100, 48, 32, 48, 55, 58, 48, 53, 32, 115, 97, 119, 32]⟩ : ByteArray) ++ bt278.1) ++ (⟨#[32, 49, 32, 49, 50, 32, 48, 10]⟩ : ByteArray)).toList then ((event_Check.f k 6 0 bt280.1 (⟨#[]⟩ : ByteArray) y286 (⟨#[]⟩ : ByteArray)).bind fun t295 => (if t295 = 0 then ((event_Check.f k 6 0 bt280.1 (⟨#[]⟩ : ByteArray) (([100, 2, 1] : List Int)) (⟨#[]⟩ : ByteArray)).bind fun t296 => (if t296 = 19 then ((event_Name.f 14).bind fun t297 => (if t297.toList = ([114, 101, 115, 97, 119] : List UInt8) then ((event_Name.f 15).bind fun t298 => (if t298.toList = ([] : List UInt8) then ((event_Same.f k 4 425 bt278.1 (⟨#[]⟩ : ByteArray) y282 (⟨#[]⟩ : ByteArray) 4 425 bt278.1 (⟨#[]⟩ : ByteArray) y282 (⟨#[]⟩ : ByteArray)).bind fun t299 => (if t299 = true then ((event_Same.f k 4 425 bt278.1 (⟨#[]⟩ : ByteArray) y282 (⟨#[]⟩ : ByteArray) 6 0 bt280.1 (⟨#[]⟩ : ByteArray) y286 (⟨#[]⟩ : ByteArray)).bind fun t300 => (some (!t300))) else (none))) else (none))) else (none))) else (none))) else (none))) else (none)) else (none)) else (none))) else (none)) else (none)) else (none)) else (none)) else (none)))))) = some r := H
 have A2 := Aside0.mk A20
 clear A20
 replace H := oB H
 obtain ⟨⟨t278, t279⟩, A30, H⟩ := H
 replace H : ((sawmillref02_Code.f k 67 1).bind fun bt280 => ((some (([1, 12, 0] : List Int) : List Int)).bind fun y282 => ((some (([100, 2, 1, 2, 2, 5, 9] : List Int) : List Int)).bind fun y286 => (if t267 = 0 then (if t266.toList = ([24, 0, 0, 0, 0, 3, 115, 97, 119] : List UInt8) then (if t276 = 0 then (if t268 = 12 then (if t275.toList = ([115, 97, 119] : List UInt8) then ((event_Line.f k 4 425 t278 (⟨#[]⟩ : ByteArray) y282 (⟨#[]⟩ : ByteArray)).bind fun t294 => (if 13 + t278.size ≤ 9223372036854775807 then (if ((⟨#[100, 48, 32, 48, 55, 58, 48, 53, 32, 115, 97, 119, 32]⟩ : ByteArray) ++ t278).size + 8 ≤ 9223372036854775807 then (if t294.toList = (((⟨#[100, 48, 32, 48, 55, 58, 48, 53, 32, 115, 97, 119, 32]⟩ : ByteArray) ++ t278) ++ (⟨#[32, 49, 32, 49, 50, 32, 48, 10]⟩ : ByteArray)).toList then ((event_Check.f k 6 0 bt280.1 (⟨#[]⟩ : ByteArray) y286 (⟨#[]⟩ : ByteArray)).bind fun t295 => (if t295 = 0 then ((event_Check.f k 6 0 bt280.1 (⟨#[]⟩ : ByteArray) (([100, 2, 1] : List Int)) (⟨#[]⟩ : ByteArray)).bind fun t296 => (if t296 = 19 then ((event_Name.f 14).bind fun t297 => (if t297.toList = ([114, 101, 115, 97, 119] : List UInt8) then ((event_Name.f 15).bind fun t298 => (if t298.toList = ([] : List UInt8) then ((event_Same.f k 4 425 t278 (⟨#[]⟩ : ByteArray) y282 (⟨#[]⟩ : ByteArray) 4 425 t278 (⟨#[]⟩ : ByteArray) y282 (⟨#[]⟩ : ByteArray)).bind fun t299 => (if t299 = true then ((event_Same.f k 4 425 t278 (⟨#[]⟩ : ByteArray) y282 (⟨#[]⟩ : ByteArray) 6 0 bt280.1 (⟨#[]⟩ : ByteArray) y286 (⟨#[]⟩ : ByteArray)).bind fun t300 => (some (!t300))) else (none))) else (none))) else (none))) else (none))) else (none))) else (none)) else (none)) else (none))) else (none)) else (none)) else (none)) else (none)) else (none))))) = some r := H
 have A3 := Aside0.mk A30
 clear A30
 replace H := oB H
 obtain ⟨⟨t280, t281⟩, A40, H⟩ := H
 replace H : ((some (([1, 12, 0] : List Int) : List Int)).bind fun y282 => ((some (([100, 2, 1, 2, 2, 5, 9] : List Int) : List Int)).bind fun y286 => (if t267 = 0 then (if t266.toList = ([24, 0, 0, 0, 0, 3, 115, 97, 119] : List UInt8) then (if t276 = 0 then (if t268 = 12 then (if t275.toList = ([115, 97, 119] : List UInt8) then ((event_Line.f k 4 425 t278 (⟨#[]⟩ : ByteArray) y282 (⟨#[]⟩ : ByteArray)).bind fun t294 => (if 13 + t278.size ≤ 9223372036854775807 then (if ((⟨#[100, 48, 32, 48, 55, 58, 48, 53, 32, 115, 97, 119, 32]⟩ : ByteArray) ++ t278).size + 8 ≤ 9223372036854775807 then (if t294.toList = (((⟨#[100, 48, 32, 48, 55, 58, 48, 53, 32, 115, 97, 119, 32]⟩ : ByteArray) ++ t278) ++ (⟨#[32, 49, 32, 49, 50, 32, 48, 10]⟩ : ByteArray)).toList then ((event_Check.f k 6 0 t280 (⟨#[]⟩ : ByteArray) y286 (⟨#[]⟩ : ByteArray)).bind fun t295 => (if t295 = 0 then ((event_Check.f k 6 0 t280 (⟨#[]⟩ : ByteArray) (([100, 2, 1] : List Int)) (⟨#[]⟩ : ByteArray)).bind fun t296 => (if t296 = 19 then ((event_Name.f 14).bind fun t297 => (if t297.toList = ([114, 101, 115, 97, 119] : List UInt8) then ((event_Name.f 15).bind fun t298 => (if t298.toList = ([] : List UInt8) then ((event_Same.f k 4 425 t278 (⟨#[]⟩ : ByteArray) y282 (⟨#[]⟩ : ByteArray) 4 425 t278 (⟨#[]⟩ : ByteArray) y282 (⟨#[]⟩ : ByteArray)).bind fun t299 => (if t299 = true then ((event_Same.f k 4 425 t278 (⟨#[]⟩ : ByteArray) y282 (⟨#[]⟩ : ByteArray) 6 0 t280 (⟨#[]⟩ : ByteArray) y286 (⟨#[]⟩ : ByteArray)).bind fun t300 => (some (!t300))) else (none))) else (none))) else (none))) else (none))) else (none))) else (none)) else (none)) else (none))) else (none)) else (none)) else (none)) else (none)) else (none)))) = some r := H
 have A4 := Aside0.mk A40
 clear A40
 obtain ⟨y282, hy282⟩ : ∃ y_ : List Int, y_ = (([1, 12, 0] : List Int)) := ⟨_, rfl⟩
 replace H : ((some (([100, 2, 1, 2, 2, 5, 9] : List Int) : List Int)).bind fun y286 => (if t267 = 0 then (if t266.toList = ([24, 0, 0, 0, 0, 3, 115, 97, 119] : List UInt8) then (if t276 = 0 then (if t268 = 12 then (if t275.toList = ([115, 97, 119] : List UInt8) then ((event_Line.f k 4 425 t278 (⟨#[]⟩ : ByteArray) y282 (⟨#[]⟩ : ByteArray)).bind fun t294 => (if 13 + t278.size ≤ 9223372036854775807 then (if ((⟨#[100, 48, 32, 48, 55, 58, 48, 53, 32, 115, 97, 119, 32]⟩ : ByteArray) ++ t278).size + 8 ≤ 9223372036854775807 then (if t294.toList = (((⟨#[100, 48, 32, 48, 55, 58, 48, 53, 32, 115, 97, 119, 32]⟩ : ByteArray) ++ t278) ++ (⟨#[32, 49, 32, 49, 50, 32, 48, 10]⟩ : ByteArray)).toList then ((event_Check.f k 6 0 t280 (⟨#[]⟩ : ByteArray) y286 (⟨#[]⟩ : ByteArray)).bind fun t295 => (if t295 = 0 then ((event_Check.f k 6 0 t280 (⟨#[]⟩ : ByteArray) (([100, 2, 1] : List Int)) (⟨#[]⟩ : ByteArray)).bind fun t296 => (if t296 = 19 then ((event_Name.f 14).bind fun t297 => (if t297.toList = ([114, 101, 115, 97, 119] : List UInt8) then ((event_Name.f 15).bind fun t298 => (if t298.toList = ([] : List UInt8) then ((event_Same.f k 4 425 t278 (⟨#[]⟩ : ByteArray) y282 (⟨#[]⟩ : ByteArray) 4 425 t278 (⟨#[]⟩ : ByteArray) y282 (⟨#[]⟩ : ByteArray)).bind fun t299 => (if t299 = true then ((event_Same.f k 4 425 t278 (⟨#[]⟩ : ByteArray) y282 (⟨#[]⟩ : ByteArray) 6 0 t280 (⟨#[]⟩ : ByteArray) y286 (⟨#[]⟩ : ByteArray)).bind fun t300 => (some (!t300))) else (none))) else (none))) else (none))) else (none))) else (none))) else (none)) else (none)) else (none))) else (none)) else (none)) else (none)) else (none)) else (none))) = some r := by first | (rw [hy282]; with_reducible exact H) | (have H2_ := (Option.bind_some _ _).symm.trans H; rw [hy282]; with_reducible exact H2_) | (have H2_ := (Option.bind_some _ _).symm.trans H; with_reducible exact H2_) | with_reducible exact H | (rw [hy282]; exact H) | exact H
 have Ny282 := Aside0.mk hy282
 clear hy282
 obtain ⟨y286, hy286⟩ : ∃ y_ : List Int, y_ = (([100, 2, 1, 2, 2, 5, 9] : List Int)) := ⟨_, rfl⟩
 replace H : (if t267 = 0 then (if t266.toList = ([24, 0, 0, 0, 0, 3, 115, 97, 119] : List UInt8) then (if t276 = 0 then (if t268 = 12 then (if t275.toList = ([115, 97, 119] : List UInt8) then ((event_Line.f k 4 425 t278 (⟨#[]⟩ : ByteArray) y282 (⟨#[]⟩ : ByteArray)).bind fun t294 => (if 13 + t278.size ≤ 9223372036854775807 then (if ((⟨#[100, 48, 32, 48, 55, 58, 48, 53, 32, 115, 97, 119, 32]⟩ : ByteArray) ++ t278).size + 8 ≤ 9223372036854775807 then (if t294.toList = (((⟨#[100, 48, 32, 48, 55, 58, 48, 53, 32, 115, 97, 119, 32]⟩ : ByteArray) ++ t278) ++ (⟨#[32, 49, 32, 49, 50, 32, 48, 10]⟩ : ByteArray)).toList then ((event_Check.f k 6 0 t280 (⟨#[]⟩ : ByteArray) y286 (⟨#[]⟩ : ByteArray)).bind fun t295 => (if t295 = 0 then ((event_Check.f k 6 0 t280 (⟨#[]⟩ : ByteArray) (([100, 2, 1] : List Int)) (⟨#[]⟩ : ByteArray)).bind fun t296 => (if t296 = 19 then ((event_Name.f 14).bind fun t297 => (if t297.toList = ([114, 101, 115, 97, 119] : List UInt8) then ((event_Name.f 15).bind fun t298 => (if t298.toList = ([] : List UInt8) then ((event_Same.f k 4 425 t278 (⟨#[]⟩ : ByteArray) y282 (⟨#[]⟩ : ByteArray) 4 425 t278 (⟨#[]⟩ : ByteArray) y282 (⟨#[]⟩ : ByteArray)).bind fun t299 => (if t299 = true then ((event_Same.f k 4 425 t278 (⟨#[]⟩ : ByteArray) y282 (⟨#[]⟩ : ByteArray) 6 0 t280 (⟨#[]⟩ : ByteArray) y286 (⟨#[]⟩ : ByteArray)).bind fun t300 => (some (!t300))) else (none))) else (none))) else (none))) else (none))) else (none))) else (none)) else (none)) else (none))) else (none)) else (none)) else (none)) else (none)) else (none)) = some r := by first | (rw [hy286]; with_reducible exact H) | (have H2_ := (Option.bind_some _ _).symm.trans H; rw [hy286]; with_reducible exact H2_) | (have H2_ := (Option.bind_some _ _).symm.trans H; with_reducible exact H2_) | with_reducible exact H | (rw [hy286]; exact H) | exact H
 have Ny286 := Aside0.mk hy286
 clear hy286
 obtain ⟨y290, hy290⟩ : ∃ y_ : List Int, y_ = (([100, 2, 1] : List Int)) := ⟨_, rfl⟩
 replace H : (if t267 = 0 then (if t266.toList = ([24, 0, 0, 0, 0, 3, 115, 97, 119] : List UInt8) then (if t276 = 0 then (if t268 = 12 then (if t275.toList = ([115, 97, 119] : List UInt8) then ((event_Line.f k 4 425 t278 (⟨#[]⟩ : ByteArray) y282 (⟨#[]⟩ : ByteArray)).bind fun t294 => (if 13 + t278.size ≤ 9223372036854775807 then (if ((⟨#[100, 48, 32, 48, 55, 58, 48, 53, 32, 115, 97, 119, 32]⟩ : ByteArray) ++ t278).size + 8 ≤ 9223372036854775807 then (if t294.toList = (((⟨#[100, 48, 32, 48, 55, 58, 48, 53, 32, 115, 97, 119, 32]⟩ : ByteArray) ++ t278) ++ (⟨#[32, 49, 32, 49, 50, 32, 48, 10]⟩ : ByteArray)).toList then ((event_Check.f k 6 0 t280 (⟨#[]⟩ : ByteArray) y286 (⟨#[]⟩ : ByteArray)).bind fun t295 => (if t295 = 0 then ((event_Check.f k 6 0 t280 (⟨#[]⟩ : ByteArray) y290 (⟨#[]⟩ : ByteArray)).bind fun t296 => (if t296 = 19 then ((event_Name.f 14).bind fun t297 => (if t297.toList = ([114, 101, 115, 97, 119] : List UInt8) then ((event_Name.f 15).bind fun t298 => (if t298.toList = ([] : List UInt8) then ((event_Same.f k 4 425 t278 (⟨#[]⟩ : ByteArray) y282 (⟨#[]⟩ : ByteArray) 4 425 t278 (⟨#[]⟩ : ByteArray) y282 (⟨#[]⟩ : ByteArray)).bind fun t299 => (if t299 = true then ((event_Same.f k 4 425 t278 (⟨#[]⟩ : ByteArray) y282 (⟨#[]⟩ : ByteArray) 6 0 t280 (⟨#[]⟩ : ByteArray) y286 (⟨#[]⟩ : ByteArray)).bind fun t300 => (some (!t300))) else (none))) else (none))) else (none))) else (none))) else (none))) else (none)) else (none)) else (none))) else (none)) else (none)) else (none)) else (none)) else (none)) = some r := by first | (rw [hy290]; with_reducible exact H) | (have H2_ := (Option.bind_some _ _).symm.trans H; rw [hy290]; with_reducible exact H2_) | (have H2_ := (Option.bind_some _ _).symm.trans H; with_reducible exact H2_) | with_reducible exact H | (rw [hy290]; exact H) | exact H
 have Ny290 := Aside0.mk hy290
 clear hy290
 by_cases c5 : t267 = 0
 ·rw [if_pos c5] at H
  have c5b0 : (t267 == 0) = true := beq_iff_eq.mpr c5
  have c5b1 : (t267 != 0) = false := oD c5
  clear c5
  by_cases c6 : t266.toList = ([24, 0, 0, 0, 0, 3, 115, 97, 119] : List UInt8)
  ·rw [if_pos c6] at H
   have c6b0 : (t266.toList == ([24, 0, 0, 0, 0, 3, 115, 97, 119] : List UInt8)) = true := beq_iff_eq.mpr c6
   have c6b1 : (t266.toList != ([24, 0, 0, 0, 0, 3, 115, 97, 119] : List UInt8)) = false := oD c6
   clear c6
   by_cases c7 : t276 = 0
   ·rw [if_pos c7] at H
    have c7b0 : (t276 == 0) = true := beq_iff_eq.mpr c7
    have c7b1 : (t276 != 0) = false := oD c7
    clear c7
    by_cases c8 : t268 = 12
    ·rw [if_pos c8] at H
     have c8b0 : (t268 == 12) = true := beq_iff_eq.mpr c8
     have c8b1 : (t268 != 12) = false := oD c8
     clear c8
     by_cases c9 : t275.toList = ([115, 97, 119] : List UInt8)
     ·rw [if_pos c9] at H
      have c9b0 : (t275.toList == ([115, 97, 119] : List UInt8)) = true := beq_iff_eq.mpr c9
      have c9b1 : (t275.toList != ([115, 97, 119] : List UInt8)) = false := oD c9
      clear c9
      replace H := oB H
      obtain ⟨t294, A100, H⟩ := H
      replace H : (if 13 + t278.size ≤ 9223372036854775807 then (if ((⟨#[100, 48, 32, 48, 55, 58, 48, 53, 32, 115, 97, 119, 32]⟩ : ByteArray) ++ t278).size + 8 ≤ 9223372036854775807 then (if t294.toList = (((⟨#[100, 48, 32, 48, 55, 58, 48, 53, 32, 115, 97, 119, 32]⟩ : ByteArray) ++ t278) ++ (⟨#[32, 49, 32, 49, 50, 32, 48, 10]⟩ : ByteArray)).toList then ((event_Check.f k 6 0 t280 (⟨#[]⟩ : ByteArray) y286 (⟨#[]⟩ : ByteArray)).bind fun t295 => (if t295 = 0 then ((event_Check.f k 6 0 t280 (⟨#[]⟩ : ByteArray) y290 (⟨#[]⟩ : ByteArray)).bind fun t296 => (if t296 = 19 then ((event_Name.f 14).bind fun t297 => (if t297.toList = ([114, 101, 115, 97, 119] : List UInt8) then ((event_Name.f 15).bind fun t298 => (if t298.toList = ([] : List UInt8) then ((event_Same.f k 4 425 t278 (⟨#[]⟩ : ByteArray) y282 (⟨#[]⟩ : ByteArray) 4 425 t278 (⟨#[]⟩ : ByteArray) y282 (⟨#[]⟩ : ByteArray)).bind fun t299 => (if t299 = true then ((event_Same.f k 4 425 t278 (⟨#[]⟩ : ByteArray) y282 (⟨#[]⟩ : ByteArray) 6 0 t280 (⟨#[]⟩ : ByteArray) y286 (⟨#[]⟩ : ByteArray)).bind fun t300 => (some (!t300))) else (none))) else (none))) else (none))) else (none))) else (none))) else (none)) else (none)) else (none)) = some r := H
      have A10 := Aside0.mk A100
      clear A100
      by_cases c11 : 13 + t278.size ≤ 9223372036854775807
      ·rw [if_pos c11] at H
       have c11b0 := eq_true c11
       have c11b1 : decide (13 + t278.size ≤ 9223372036854775807) = true := decide_eq_true c11
       try have c11b2 : (9223372036854775807 < 13 + t278.size) = False := eq_false (Nat.not_lt.2 c11)
       clear c11
       by_cases c12 : ((⟨#[100, 48, 32, 48, 55, 58, 48, 53, 32, 115, 97, 119, 32]⟩ : ByteArray) ++ t278).size + 8 ≤ 9223372036854775807
       ·rw [if_pos c12] at H
        have c12b0 := eq_true c12
        have c12b1 : decide (((⟨#[100, 48, 32, 48, 55, 58, 48, 53, 32, 115, 97, 119, 32]⟩ : ByteArray) ++ t278).size + 8 ≤ 9223372036854775807) = true := decide_eq_true c12
        try have c12b2 : (9223372036854775807 < ((⟨#[100, 48, 32, 48, 55, 58, 48, 53, 32, 115, 97, 119, 32]⟩ : ByteArray) ++ t278).size + 8) = False := eq_false (Nat.not_lt.2 c12)
        have c12b3 : (9223372036854775807 < 13 + t278.size + 8) = False := eq_false (by have e_ : 13 + t278.size + 8 = ((⟨#[100, 48, 32, 48, 55, 58, 48, 53, 32, 115, 97, 119, 32]⟩ : ByteArray) ++ t278).size + 8 := (by first | rfl | (simp only [ByteArray.size_append]; done) | (simp only [ByteArray.size_append]; rfl)); exact Nat.not_lt.2 (Nat.le_trans (Nat.le_of_eq e_) c12))
        clear c12
        by_cases c13 : t294.toList = (((⟨#[100, 48, 32, 48, 55, 58, 48, 53, 32, 115, 97, 119, 32]⟩ : ByteArray) ++ t278) ++ (⟨#[32, 49, 32, 49, 50, 32, 48, 10]⟩ : ByteArray)).toList
        ·rw [if_pos c13] at H
         have c13b0 : (t294.toList == (((⟨#[100, 48, 32, 48, 55, 58, 48, 53, 32, 115, 97, 119, 32]⟩ : ByteArray) ++ t278) ++ (⟨#[32, 49, 32, 49, 50, 32, 48, 10]⟩ : ByteArray)).toList) = true := beq_iff_eq.mpr c13
         have c13b1 : (t294.toList != (((⟨#[100, 48, 32, 48, 55, 58, 48, 53, 32, 115, 97, 119, 32]⟩ : ByteArray) ++ t278) ++ (⟨#[32, 49, 32, 49, 50, 32, 48, 10]⟩ : ByteArray)).toList) = false := oD c13
         clear c13
         replace H := oB H
         obtain ⟨t295, A140, H⟩ := H
         replace H : (if t295 = 0 then ((event_Check.f k 6 0 t280 (⟨#[]⟩ : ByteArray) y290 (⟨#[]⟩ : ByteArray)).bind fun t296 => (if t296 = 19 then ((event_Name.f 14).bind fun t297 => (if t297.toList = ([114, 101, 115, 97, 119] : List UInt8) then ((event_Name.f 15).bind fun t298 => (if t298.toList = ([] : List UInt8) then ((event_Same.f k 4 425 t278 (⟨#[]⟩ : ByteArray) y282 (⟨#[]⟩ : ByteArray) 4 425 t278 (⟨#[]⟩ : ByteArray) y282 (⟨#[]⟩ : ByteArray)).bind fun t299 => (if t299 = true then ((event_Same.f k 4 425 t278 (⟨#[]⟩ : ByteArray) y282 (⟨#[]⟩ : ByteArray) 6 0 t280 (⟨#[]⟩ : ByteArray) y286 (⟨#[]⟩ : ByteArray)).bind fun t300 => (some (!t300))) else (none))) else (none))) else (none))) else (none))) else (none)) = some r := H
         have A14 := Aside0.mk A140
         clear A140
         by_cases c15 : t295 = 0
         ·rw [if_pos c15] at H
          have c15b0 : (t295 == 0) = true := beq_iff_eq.mpr c15
          have c15b1 : (t295 != 0) = false := oD c15
          clear c15
          replace H := oB H
          obtain ⟨t296, A160, H⟩ := H
          replace H : (if t296 = 19 then ((event_Name.f 14).bind fun t297 => (if t297.toList = ([114, 101, 115, 97, 119] : List UInt8) then ((event_Name.f 15).bind fun t298 => (if t298.toList = ([] : List UInt8) then ((event_Same.f k 4 425 t278 (⟨#[]⟩ : ByteArray) y282 (⟨#[]⟩ : ByteArray) 4 425 t278 (⟨#[]⟩ : ByteArray) y282 (⟨#[]⟩ : ByteArray)).bind fun t299 => (if t299 = true then ((event_Same.f k 4 425 t278 (⟨#[]⟩ : ByteArray) y282 (⟨#[]⟩ : ByteArray) 6 0 t280 (⟨#[]⟩ : ByteArray) y286 (⟨#[]⟩ : ByteArray)).bind fun t300 => (some (!t300))) else (none))) else (none))) else (none))) else (none)) = some r := H
          have A16 := Aside0.mk A160
          clear A160
          by_cases c17 : t296 = 19
          ·rw [if_pos c17] at H
           have c17b0 : (t296 == 19) = true := beq_iff_eq.mpr c17
           have c17b1 : (t296 != 19) = false := oD c17
           clear c17
           replace H := oB H
           obtain ⟨t297, A180, H⟩ := H
           replace H : (if t297.toList = ([114, 101, 115, 97, 119] : List UInt8) then ((event_Name.f 15).bind fun t298 => (if t298.toList = ([] : List UInt8) then ((event_Same.f k 4 425 t278 (⟨#[]⟩ : ByteArray) y282 (⟨#[]⟩ : ByteArray) 4 425 t278 (⟨#[]⟩ : ByteArray) y282 (⟨#[]⟩ : ByteArray)).bind fun t299 => (if t299 = true then ((event_Same.f k 4 425 t278 (⟨#[]⟩ : ByteArray) y282 (⟨#[]⟩ : ByteArray) 6 0 t280 (⟨#[]⟩ : ByteArray) y286 (⟨#[]⟩ : ByteArray)).bind fun t300 => (some (!t300))) else (none))) else (none))) else (none)) = some r := H
           have A18 := Aside0.mk A180
           clear A180
           by_cases c19 : t297.toList = ([114, 101, 115, 97, 119] : List UInt8)
           ·rw [if_pos c19] at H
            have c19b0 : (t297.toList == ([114, 101, 115, 97, 119] : List UInt8)) = true := beq_iff_eq.mpr c19
            have c19b1 : (t297.toList != ([114, 101, 115, 97, 119] : List UInt8)) = false := oD c19
            clear c19
            replace H := oB H
            obtain ⟨t298, A200, H⟩ := H
            replace H : (if t298.toList = ([] : List UInt8) then ((event_Same.f k 4 425 t278 (⟨#[]⟩ : ByteArray) y282 (⟨#[]⟩ : ByteArray) 4 425 t278 (⟨#[]⟩ : ByteArray) y282 (⟨#[]⟩ : ByteArray)).bind fun t299 => (if t299 = true then ((event_Same.f k 4 425 t278 (⟨#[]⟩ : ByteArray) y282 (⟨#[]⟩ : ByteArray) 6 0 t280 (⟨#[]⟩ : ByteArray) y286 (⟨#[]⟩ : ByteArray)).bind fun t300 => (some (!t300))) else (none))) else (none)) = some r := H
            have A20 := Aside0.mk A200
            clear A200
            by_cases c21 : t298.toList = ([] : List UInt8)
            ·rw [if_pos c21] at H
             have c21b0 : (t298.toList == ([] : List UInt8) ) = true := beq_iff_eq.mpr c21
             have c21b1 : (t298.toList != ([] : List UInt8) ) = false := oD c21
             have c21b2 : t298.toList.isEmpty = true := List.isEmpty_iff.mpr c21
             clear c21
             replace H := oB H
             obtain ⟨t299, A220, H⟩ := H
             replace H : (if t299 = true then ((event_Same.f k 4 425 t278 (⟨#[]⟩ : ByteArray) y282 (⟨#[]⟩ : ByteArray) 6 0 t280 (⟨#[]⟩ : ByteArray) y286 (⟨#[]⟩ : ByteArray)).bind fun t300 => (some (!t300))) else (none)) = some r := H
             have A22 := Aside0.mk A220
             clear A220
             by_cases c23 : t299 = true
             ·subst c23
              have H1 : ((event_Same.f k 4 425 t278 (⟨#[]⟩ : ByteArray) y282 (⟨#[]⟩ : ByteArray) 6 0 t280 (⟨#[]⟩ : ByteArray) y286 (⟨#[]⟩ : ByteArray)).bind fun t300 => (some (!t300))) = some r := by rw [if_pos rfl] at H; exact H
              clear H
              have H := H1
              clear H1
              replace H := oB H
              obtain ⟨t300, A240, H⟩ := H
              replace H : (some (!t300)) = some r := H
              have A24 := Aside0.mk A240
              clear A240
              obtain rfl := Option.some.inj H
              go_enter Tryd.func10, Tryd.ntmps10
              go_wp2_with (first | ((with_reducible refine gate_callee (f := 15) rfl ?_); refine goesL_ (some 14) rfl rfl Tryd.func15 (by kernel_rfl) rfl #[.agg #[.int .i64 12, .int .i64 0, .string (⟨#[]⟩ : ByteArray), .string (⟨#[]⟩ : ByteArray), .slice none 0 0, .string (⟨#[115, 97, 119]⟩ : ByteArray)]] rfl (by first | rfl | (simp only [List.map_toArray]; rfl)) ?_; (refine (event_Encode.calls k 12 0 (⟨#[]⟩ : ByteArray) (⟨#[]⟩ : ByteArray) _ _ ([] : List Int) (⟨#[115, 97, 119]⟩ : ByteArray) t266 t267 _ ?side1 ?side2 A1.out).mono ?_); (case side1 => exact Kd.C_nil _ _); (case side2 => exact Nat.le_refl _); rintro e w25 ⟨rfl, hb⟩; refine ⟨_, rfl, ?_⟩; have n0_ := q_ (pT (by repeat (first | (with_reducible first | exact HB.out | apply pA | apply pN | apply p1) | exact HB.out)) hb); clear HB; have HB := n0_; clear n0_; (try clear hb); (try clear hb2); (try clear hk); (try clear hi)) | ((with_reducible refine gate_callee (f := 17) rfl ?_); refine goesL_ (some 18) rfl rfl Tryd.func17 (by kernel_rfl) rfl #[.string (⟨#[24, 0, 0, 0, 0, 3, 115, 97, 119]⟩ : ByteArray)] rfl (by first | rfl | (simp only [List.map_toArray]; rfl)) ?_; (with_reducible refine (event_Decode.calls k (⟨#[24, 0, 0, 0, 0, 3, 115, 97, 119]⟩ : ByteArray) t268 t269 t270 t271 t272 t275 t276 _ A2.out).mono ?_); rintro e w26 ⟨v273, rfl, ho0, hb⟩; refine ⟨_, rfl, ?_⟩; have n0_ := q_ (Kd.R_lower ho0 (pZ (by repeat (first | (with_reducible first | exact HB.out | apply pA | apply pN | apply p1) | exact HB.out)))); have n1_ := q_ (pT (by repeat (first | (with_reducible first | exact HB.out | apply pA | apply pN | apply p1) | exact HB.out)) hb); clear HB; have HO274 := n0_; have HB := n1_; clear n0_ n1_; (try clear hb); (try clear hb2); (try clear hk); (try clear hi); (try clear ho0)) | ((with_reducible refine gate_dst (N := 3) rfl ?_); refine box_event ?hg (N := 3) ?hd (cs := #[.int .i64 0, .int .i64 0, .string (⟨#[]⟩ : ByteArray), .string (⟨#[]⟩ : ByteArray), .slice none 0 0, .string (⟨#[]⟩ : ByteArray)]) (t := 24) ?hr ?_; (case hd => rfl); (case hg => rfl); (case hr => first | (go_simp; done) | (go_simp; rfl)); intro gb277 hg w27 hbox hb; have n0_ := q_ (Kd.R_below (by (with_reducible repeat (first | apply Kd.R_alloc | apply Kd.R_drewN | apply Kd.R_drew)); exact HO274.out) hb); have n1_ := q_ (pT (by repeat (first | (with_reducible first | exact HB.out | apply pA | apply pN | apply p1) | exact HB.out)) hb); have n2_ := q_ (hbox); have n3_ := q_ ((by rw [hg]; exact (pZ (by repeat (first | (with_reducible first | exact HB.out | apply pA | apply pN | apply p1) | exact HB.out))) : w.heap.size ≤ gb277)); have n4_ := q_ ((by rw [hg]; exact (pZ (by repeat (first | (with_reducible first | exact HB.out | apply pA | apply pN | apply p1) | exact HB.out))) : w.heap.size ≤ gb277)); clear HO274; clear HB; have HO274 := n0_; have HB := n1_; have BK277 := n2_; have GW277 := n3_; have GE277 := n4_; clear n0_ n1_ n2_ n3_ n4_; clear hb hbox hg; have hcz28_0 : w27.cell? ⟨gb277, 0, none⟩ = some (.int .i64 0) := (bC BK277.out 0).trans rfl; have hcz28_1 : w27.cell? ⟨gb277, 1, none⟩ = some (.int .i64 0) := (bC BK277.out 1).trans rfl; have hcz28_2 : w27.cell? ⟨gb277, 2, none⟩ = some (.string (⟨#[]⟩ : ByteArray)) := (bC BK277.out 2).trans rfl; have hcz28_3 : w27.cell? ⟨gb277, 3, none⟩ = some (.string (⟨#[]⟩ : ByteArray)) := (bC BK277.out 3).trans rfl; have hcz28_4 : w27.cell? ⟨gb277, 4, none⟩ = some (.slice none 0 0) := (bC BK277.out 4).trans rfl; have hcz28_5 : w27.cell? ⟨gb277, 5, none⟩ = some (.string (⟨#[]⟩ : ByteArray)) := (bC BK277.out 5).trans rfl; have hfz28_0 := bF BK277.out 0; have hfz28_1 := bF BK277.out 1; have hfz28_2 := bF BK277.out 2; have hfz28_3 := bF BK277.out 3; have hfz28_4 := bF BK277.out 4; have hfz28_5 := bF BK277.out 5; obtain ⟨Ao29, co29, eo29⟩ := Kd.R_slice HO274.out; subst eo29) | ((with_reducible refine gate_callee (f := 23) rfl ?_); refine goesL_ (some 22) rfl rfl Tryd.func23 (by kernel_rfl) rfl #[.int .u8 76, .int .i64 7] rfl (by first | rfl | (simp only [List.map_toArray]; rfl)) ?_; (with_reducible refine (sawmillref02_Code.calls k 76 7 t278 t279 _ A3.out).mono ?_); rintro e w30 ⟨rfl, hb⟩; refine ⟨_, rfl, ?_⟩; have n0_ := q_ (Kd.R_below (by (with_reducible repeat (first | apply Kd.R_alloc | apply Kd.R_drewN | apply Kd.R_drew)); exact (Kd.R_mono (Kd.R_far (p := ⟨gb277, 5, none⟩) (Kd.R_far (p := ⟨gb277, 4, none⟩) (Kd.R_far (p := ⟨gb277, 3, none⟩) (Kd.R_far (p := ⟨gb277, 2, none⟩) (Kd.R_far (p := ⟨gb277, 1, none⟩) (Kd.R_far (p := ⟨gb277, 0, none⟩) (Kd.R_types HO274.out BK277.out (by decide)) (fun _ hk => hk.2) (.int .i64 t268)) (fun _ hk => hk.2) (.int .i64 t269)) (fun _ hk => hk.2) (.string t270)) (fun _ hk => hk.2) (.string t271)) (fun _ hk => hk.2) (.slice Ao29 t272.length co29)) (fun _ hk => hk.2) (.string t275)) (fun _ h_ => h_.1))) hb); have n1_ := q_ (bB (g := gb277) (o := .cells #[.int .i64 t268, .int .i64 t269, .string t270, .string t271, .slice Ao29 t272.length co29, .string t275] 24 (0, 0)) (by (with_reducible repeat (first | refine bN ?_ _ | refine bW ?_ | refine bA ?_ _)); refine blk_put (cs := #[.int .i64 t268, .int .i64 t269, .string t270, .string t271, .slice Ao29 t272.length co29, .string (⟨#[]⟩ : ByteArray)]) ?_ 5 _ rfl; (with_reducible repeat (first | refine bN ?_ _ | refine bW ?_ | refine bA ?_ _)); refine blk_put (cs := #[.int .i64 t268, .int .i64 t269, .string t270, .string t271, .slice none 0 0, .string (⟨#[]⟩ : ByteArray)]) ?_ 4 _ rfl; (with_reducible repeat (first | refine bN ?_ _ | refine bW ?_ | refine bA ?_ _)); refine blk_put (cs := #[.int .i64 t268, .int .i64 t269, .string t270, .string (⟨#[]⟩ : ByteArray), .slice none 0 0, .string (⟨#[]⟩ : ByteArray)]) ?_ 3 _ rfl; (with_reducible repeat (first | refine bN ?_ _ | refine bW ?_ | refine bA ?_ _)); refine blk_put (cs := #[.int .i64 t268, .int .i64 t269, .string (⟨#[]⟩ : ByteArray), .string (⟨#[]⟩ : ByteArray), .slice none 0 0, .string (⟨#[]⟩ : ByteArray)]) ?_ 2 _ rfl; (with_reducible repeat (first | refine bN ?_ _ | refine bW ?_ | refine bA ?_ _)); refine blk_put (cs := #[.int .i64 t268, .int .i64 0, .string (⟨#[]⟩ : ByteArray), .string (⟨#[]⟩ : ByteArray), .slice none 0 0, .string (⟨#[]⟩ : ByteArray)]) ?_ 1 _ rfl; (with_reducible repeat (first | refine bN ?_ _ | refine bW ?_ | refine bA ?_ _)); refine blk_put (cs := #[.int .i64 0, .int .i64 0, .string (⟨#[]⟩ : ByteArray), .string (⟨#[]⟩ : ByteArray), .slice none 0 0, .string (⟨#[]⟩ : ByteArray)]) ?_ 0 _ rfl; (with_reducible repeat (first | refine bN ?_ _ | refine bW ?_ | refine bA ?_ _)); exact BK277.out) hb); have n2_ := q_ (pT (by repeat (first | (with_reducible first | exact HB.out | apply pA | apply pN | apply p1 | refine pS ?_ GE277.out) | exact HB.out)) hb); clear HO274; clear BK277; clear HB; have HO274 := n0_; have BK277 := n1_; have HB := n2_; clear n0_ n1_ n2_; (try clear hb); (try clear hb2); (try clear hk); (try clear hi)) | ((with_reducible refine gate_callee (f := 23) rfl ?_); refine goesL_ (some 26) rfl rfl Tryd.func23 (by kernel_rfl) rfl #[.int .u8 67, .int .i64 1] rfl (by first | rfl | (simp only [List.map_toArray]; rfl)) ?_; (with_reducible refine (sawmillref02_Code.calls k 67 1 t280 t281 _ A4.out).mono ?_); rintro e w31 ⟨rfl, hb⟩; refine ⟨_, rfl, ?_⟩; have n0_ := q_ (Kd.R_below (by (with_reducible repeat (first | apply Kd.R_alloc | apply Kd.R_drewN | apply Kd.R_drew)); exact HO274.out) hb); have n1_ := q_ (bB (g := gb277) (o := .cells #[.int .i64 t268, .int .i64 t269, .string t270, .string t271, .slice Ao29 t272.length co29, .string t275] 24 (0, 0)) (by (with_reducible repeat (first | refine bN ?_ _ | refine bW ?_ | refine bA ?_ _)); exact BK277.out) hb); have n2_ := q_ (pT (by repeat (first | (with_reducible first | exact HB.out | apply pA | apply pN | apply p1 | refine pS ?_ GE277.out) | exact HB.out)) hb); clear HO274; clear BK277; clear HB; have HO274 := n0_; have BK277 := n1_; have HB := n2_; clear n0_ n1_ n2_; (try clear hb); (try clear hb2); (try clear hk); (try clear hi)) | ((with_reducible refine gate_dst (N := 30) rfl ?_); refine Kd.R_lit (Kd.int .i64) _ 3 ?hg (N := 30) ?hd (xs := ([1, 12, 0] : List Int)) (inner := [.int .i64 1, .int .i64 12, .int .i64 0]) (ok := fun _ => True) (okp := fun _ => True) ?hr ?hp (fun _ hk => hk) trivial (Below.refl _ _) (Nat.le_refl _) (by simp) ?_; (case hd => rfl); (case hg => rfl); (case hr => first | (go_simp; done) | (go_simp; rfl)); (case hp => exact (Reps.one (show Kd.M (Kd.int .i64) _ _ _ 1 [.int .i64 1] from rfl) (Reps.one (show Kd.M (Kd.int .i64) _ _ _ 12 [.int .i64 12] from rfl) (Reps.one (show Kd.M (Kd.int .i64) _ _ _ 0 [.int .i64 0] from rfl) (Reps.none _ _))))); intro v283 w32 ho33 hb hg_ hnew_; clear hg_ hnew_; (first | rw [← Ny282.out] at ho33 | (simp only [Int.reduceToNat] at ho33; rw [← Ny282.out] at ho33)); have n0_ := q_ (Kd.R_elder' (by (with_reducible repeat (first | apply Kd.R_alloc | apply Kd.R_drewN | apply Kd.R_drew)); exact HO274.out) (Kd.R_base ho33) hb); have n1_ := q_ (Kd.R_lower (Kd.R_new' ho33 (Kd.R_lt (by (with_reducible repeat (first | apply Kd.R_alloc | apply Kd.R_drewN | apply Kd.R_drew)); exact HO274.out))) (pZ (by repeat (first | (with_reducible first | exact HB.out | apply pA | apply pN | apply p1 | refine pS ?_ GE277.out) | exact HB.out)))); have n2_ := q_ (bB (g := gb277) (o := .cells #[.int .i64 t268, .int .i64 t269, .string t270, .string t271, .slice Ao29 t272.length co29, .string t275] 24 (0, 0)) (by (with_reducible repeat (first | refine bN ?_ _ | refine bW ?_ | refine bA ?_ _)); exact BK277.out) hb); have n3_ := q_ (pT (by repeat (first | (with_reducible first | exact HB.out | apply pA | apply pN | apply p1 | refine pS ?_ GE277.out) | exact HB.out)) hb); clear HO274; clear BK277; clear HB; have HO274 := n0_; have HO284 := n1_; have BK277 := n2_; have HB := n3_; clear n0_ n1_ n2_ n3_; clear hb ho33; obtain ⟨Ao34, co34, eo34⟩ := Kd.R_slice HO284.out; subst eo34) | ((with_reducible refine gate_dst (N := 9) rfl ?_); refine box_event ?hg (N := 9) ?hd (cs := #[.int .i64 0, .int .i64 0, .string (⟨#[]⟩ : ByteArray), .string (⟨#[]⟩ : ByteArray), .slice none 0 0, .string (⟨#[]⟩ : ByteArray)]) (t := 24) ?hr ?_; (case hd => rfl); (case hg => rfl); (case hr => first | (go_simp; done) | (go_simp; rfl)); intro gb285 hg w35 hbox hb; have n0_ := q_ (Kd.R_below (by (with_reducible repeat (first | apply Kd.R_alloc | apply Kd.R_drewN | apply Kd.R_drew)); exact HO274.out) hb); have n1_ := q_ (Kd.R_below (by (with_reducible repeat (first | apply Kd.R_alloc | apply Kd.R_drewN | apply Kd.R_drew)); exact HO284.out) hb); have n2_ := q_ (bB (g := gb277) (o := .cells #[.int .i64 t268, .int .i64 t269, .string t270, .string t271, .slice Ao29 t272.length co29, .string t275] 24 (0, 0)) (by (with_reducible repeat (first | refine bN ?_ _ | refine bW ?_ | refine bA ?_ _)); exact BK277.out) hb); have n3_ := q_ (pT (by repeat (first | (with_reducible first | exact HB.out | apply pA | apply pN | apply p1 | refine pS ?_ GE277.out) | exact HB.out)) hb); have n4_ := q_ (hbox); have n5_ := q_ ((by rw [hg]; exact (pZ (by repeat (first | (with_reducible first | exact HB.out | apply pA | apply pN | apply p1 | refine pS ?_ GE277.out) | exact HB.out))) : w.heap.size ≤ gb285)); have n6_ := q_ ((by rw [hg]; exact (pZ (by repeat (first | (with_reducible first | exact HB.out | apply pA | apply pN | apply p1 | refine pS ?_ GE277.out) | exact HB.out))) : w.heap.size ≤ gb285)); have n7_ := q_ ((by rw [hg]; exact Nat.ne_of_lt (blk_lt (g := gb277) (o := .cells #[.int .i64 t268, .int .i64 t269, .string t270, .string t271, .slice Ao29 t272.length co29, .string t275] 24 (0, 0)) (by (with_reducible repeat (first | refine bN ?_ _ | refine bW ?_ | refine bA ?_ _)); exact BK277.out)) : gb277 ≠ gb285)); have n8_ := q_ ((by rw [hg]; exact Nat.ne_of_gt (blk_lt (g := gb277) (o := .cells #[.int .i64 t268, .int .i64 t269, .string t270, .string t271, .slice Ao29 t272.length co29, .string t275] 24 (0, 0)) (by (with_reducible repeat (first | refine bN ?_ _ | refine bW ?_ | refine bA ?_ _)); exact BK277.out)) : gb285 ≠ gb277)); clear HO274; clear HO284; clear BK277; clear HB; have HO274 := n0_; have HO284 := n1_; have BK277 := n2_; have HB := n3_; have BK285 := n4_; have GW285 := n5_; have GE285 := n6_; have NB277_285 := n7_; have NB285_277 := n8_; clear n0_ n1_ n2_ n3_ n4_ n5_ n6_ n7_ n8_; clear hb hbox hg; have hnb36 := NB285_277.out; have hnc36 := NB277_285.out; have hcz37_0 : w35.cell? ⟨gb285, 0, none⟩ = some (.int .i64 0) := (bC BK285.out 0).trans rfl; have hcz37_1 : w35.cell? ⟨gb285, 1, none⟩ = some (.int .i64 0) := (bC BK285.out 1).trans rfl; have hcz37_2 : w35.cell? ⟨gb285, 2, none⟩ = some (.string (⟨#[]⟩ : ByteArray)) := (bC BK285.out 2).trans rfl; have hcz37_3 : w35.cell? ⟨gb285, 3, none⟩ = some (.string (⟨#[]⟩ : ByteArray)) := (bC BK285.out 3).trans rfl; have hcz37_4 : w35.cell? ⟨gb285, 4, none⟩ = some (.slice none 0 0) := (bC BK285.out 4).trans rfl; have hcz37_5 : w35.cell? ⟨gb285, 5, none⟩ = some (.string (⟨#[]⟩ : ByteArray)) := (bC BK285.out 5).trans rfl; have hfz37_0 := bF BK285.out 0; have hfz37_1 := bF BK285.out 1; have hfz37_2 := bF BK285.out 2; have hfz37_3 := bF BK285.out 3; have hfz37_4 := bF BK285.out 4; have hfz37_5 := bF BK285.out 5) | ((with_reducible refine gate_dst (N := 33) rfl ?_); refine Kd.R_lit (Kd.int .i64) _ 3 ?hg (N := 33) ?hd (xs := ([100, 2, 1, 2, 2, 5, 9] : List Int)) (inner := [.int .i64 100, .int .i64 2, .int .i64 1, .int .i64 2, .int .i64 2, .int .i64 5, .int .i64 9]) (ok := fun _ => True) (okp := fun _ => True) ?hr ?hp (fun _ hk => hk) trivial (Below.refl _ _) (Nat.le_refl _) (by simp) ?_; (case hd => rfl); (case hg => rfl); (case hr => first | (go_simp; done) | (go_simp; rfl)); (case hp => exact (Reps.one (show Kd.M (Kd.int .i64) _ _ _ 100 [.int .i64 100] from rfl) (Reps.one (show Kd.M (Kd.int .i64) _ _ _ 2 [.int .i64 2] from rfl) (Reps.one (show Kd.M (Kd.int .i64) _ _ _ 1 [.int .i64 1] from rfl) (Reps.one (show Kd.M (Kd.int .i64) _ _ _ 2 [.int .i64 2] from rfl) (Reps.one (show Kd.M (Kd.int .i64) _ _ _ 2 [.int .i64 2] from rfl) (Reps.one (show Kd.M (Kd.int .i64) _ _ _ 5 [.int .i64 5] from rfl) (Reps.one (show Kd.M (Kd.int .i64) _ _ _ 9 [.int .i64 9] from rfl) (Reps.none _ _))))))))); intro v287 w38 ho39 hb hg_ hnew_; clear hg_ hnew_; (first | rw [← Ny286.out] at ho39 | (simp only [Int.reduceToNat] at ho39; rw [← Ny286.out] at ho39)); have n0_ := q_ (Kd.R_elder' (by (with_reducible repeat (first | apply Kd.R_alloc | apply Kd.R_drewN | apply Kd.R_drew)); exact (Kd.R_mono (Kd.R_far (p := ⟨gb285, 5, none⟩) (Kd.R_far (p := ⟨gb285, 4, none⟩) (Kd.R_far (p := ⟨gb285, 3, none⟩) (Kd.R_far (p := ⟨gb285, 2, none⟩) (Kd.R_far (p := ⟨gb285, 1, none⟩) (Kd.R_far (p := ⟨gb285, 0, none⟩) (Kd.R_types HO274.out BK285.out (by decide)) (fun _ hk => hk.2) (.int .i64 4)) (fun _ hk => hk.2) (.int .i64 425)) (fun _ hk => hk.2) (.string t278)) (fun _ hk => hk.2) (.string (⟨#[]⟩ : ByteArray))) (fun _ hk => hk.2) (.slice Ao34 y282.length co34)) (fun _ hk => hk.2) (.string (⟨#[]⟩ : ByteArray))) (fun _ h_ => h_.1))) (Kd.R_base ho39) hb); have n1_ := q_ (Kd.R_elder' (by (with_reducible repeat (first | apply Kd.R_alloc | apply Kd.R_drewN | apply Kd.R_drew)); exact (Kd.R_mono (Kd.R_far (p := ⟨gb285, 5, none⟩) (Kd.R_far (p := ⟨gb285, 4, none⟩) (Kd.R_far (p := ⟨gb285, 3, none⟩) (Kd.R_far (p := ⟨gb285, 2, none⟩) (Kd.R_far (p := ⟨gb285, 1, none⟩) (Kd.R_far (p := ⟨gb285, 0, none⟩) (Kd.R_types HO284.out BK285.out (by decide)) (fun _ hk => hk.2) (.int .i64 4)) (fun _ hk => hk.2) (.int .i64 425)) (fun _ hk => hk.2) (.string t278)) (fun _ hk => hk.2) (.string (⟨#[]⟩ : ByteArray))) (fun _ hk => hk.2) (.slice Ao34 y282.length co34)) (fun _ hk => hk.2) (.string (⟨#[]⟩ : ByteArray))) (fun _ h_ => h_.1))) (Kd.R_base ho39) hb); have n2_ := q_ (Kd.R_lower (Kd.R_new' (Kd.R_new' ho39 (Kd.R_lt (by (with_reducible repeat (first | apply Kd.R_alloc | apply Kd.R_drewN | apply Kd.R_drew)); exact (Kd.R_mono (Kd.R_far (p := ⟨gb285, 5, none⟩) (Kd.R_far (p := ⟨gb285, 4, none⟩) (Kd.R_far (p := ⟨gb285, 3, none⟩) (Kd.R_far (p := ⟨gb285, 2, none⟩) (Kd.R_far (p := ⟨gb285, 1, none⟩) (Kd.R_far (p := ⟨gb285, 0, none⟩) (Kd.R_types HO274.out BK285.out (by decide)) (fun _ hk => hk.2) (.int .i64 4)) (fun _ hk => hk.2) (.int .i64 425)) (fun _ hk => hk.2) (.string t278)) (fun _ hk => hk.2) (.string (⟨#[]⟩ : ByteArray))) (fun _ hk => hk.2) (.slice Ao34 y282.length co34)) (fun _ hk => hk.2) (.string (⟨#[]⟩ : ByteArray))) (fun _ h_ => h_.1))))) (Kd.R_lt (by (with_reducible repeat (first | apply Kd.R_alloc | apply Kd.R_drewN | apply Kd.R_drew)); exact (Kd.R_mono (Kd.R_far (p := ⟨gb285, 5, none⟩) (Kd.R_far (p := ⟨gb285, 4, none⟩) (Kd.R_far (p := ⟨gb285, 3, none⟩) (Kd.R_far (p := ⟨gb285, 2, none⟩) (Kd.R_far (p := ⟨gb285, 1, none⟩) (Kd.R_far (p := ⟨gb285, 0, none⟩) (Kd.R_types HO284.out BK285.out (by decide)) (fun _ hk => hk.2) (.int .i64 4)) (fun _ hk => hk.2) (.int .i64 425)) (fun _ hk => hk.2) (.string t278)) (fun _ hk => hk.2) (.string (⟨#[]⟩ : ByteArray))) (fun _ hk => hk.2) (.slice Ao34 y282.length co34)) (fun _ hk => hk.2) (.string (⟨#[]⟩ : ByteArray))) (fun _ h_ => h_.1))))) (pZ (by repeat (first | (with_reducible first | exact HB.out | apply pA | apply pN | apply p1 | refine pS ?_ GE277.out | refine pS ?_ GE285.out) | exact HB.out)))); have n3_ := q_ (bB (g := gb277) (o := .cells #[.int .i64 t268, .int .i64 t269, .string t270, .string t271, .slice Ao29 t272.length co29, .string t275] 24 (0, 0)) (by (with_reducible repeat (first | refine bN ?_ _ | refine bW ?_ | refine bA ?_ _)); refine blk_far ?_ NB277_285.out _; (with_reducible repeat (first | refine bN ?_ _ | refine bW ?_ | refine bA ?_ _)); refine blk_far ?_ NB277_285.out _; (with_reducible repeat (first | refine bN ?_ _ | refine bW ?_ | refine bA ?_ _)); refine blk_far ?_ NB277_285.out _; (with_reducible repeat (first | refine bN ?_ _ | refine bW ?_ | refine bA ?_ _)); refine blk_far ?_ NB277_285.out _; (with_reducible repeat (first | refine bN ?_ _ | refine bW ?_ | refine bA ?_ _)); refine blk_far ?_ NB277_285.out _; (with_reducible repeat (first | refine bN ?_ _ | refine bW ?_ | refine bA ?_ _)); refine blk_far ?_ NB277_285.out _; (with_reducible repeat (first | refine bN ?_ _ | refine bW ?_ | refine bA ?_ _)); exact BK277.out) hb); have n4_ := q_ (bB (g := gb285) (o := .cells #[.int .i64 4, .int .i64 425, .string t278, .string (⟨#[]⟩ : ByteArray), .slice Ao34 y282.length co34, .string (⟨#[]⟩ : ByteArray)] 24 (0, 0)) (by (with_reducible repeat (first | refine bN ?_ _ | refine bW ?_ | refine bA ?_ _)); refine blk_put (cs := #[.int .i64 4, .int .i64 425, .string t278, .string (⟨#[]⟩ : ByteArray), .slice Ao34 y282.length co34, .string (⟨#[]⟩ : ByteArray)]) ?_ 5 _ rfl; (with_reducible repeat (first | refine bN ?_ _ | refine bW ?_ | refine bA ?_ _)); refine blk_put (cs := #[.int .i64 4, .int .i64 425, .string t278, .string (⟨#[]⟩ : ByteArray), .slice none 0 0, .string (⟨#[]⟩ : ByteArray)]) ?_ 4 _ rfl; (with_reducible repeat (first | refine bN ?_ _ | refine bW ?_ | refine bA ?_ _)); refine blk_put (cs := #[.int .i64 4, .int .i64 425, .string t278, .string (⟨#[]⟩ : ByteArray), .slice none 0 0, .string (⟨#[]⟩ : ByteArray)]) ?_ 3 _ rfl; (with_reducible repeat (first | refine bN ?_ _ | refine bW ?_ | refine bA ?_ _)); refine blk_put (cs := #[.int .i64 4, .int .i64 425, .string (⟨#[]⟩ : ByteArray), .string (⟨#[]⟩ : ByteArray), .slice none 0 0, .string (⟨#[]⟩ : ByteArray)]) ?_ 2 _ rfl; (with_reducible repeat (first | refine bN ?_ _ | refine bW ?_ | refine bA ?_ _)); refine blk_put (cs := #[.int .i64 4, .int .i64 0, .string (⟨#[]⟩ : ByteArray), .string (⟨#[]⟩ : ByteArray), .slice none 0 0, .string (⟨#[]⟩ : ByteArray)]) ?_ 1 _ rfl; (with_reducible repeat (first | refine bN ?_ _ | refine bW ?_ | refine bA ?_ _)); refine blk_put (cs := #[.int .i64 0, .int .i64 0, .string (⟨#[]⟩ : ByteArray), .string (⟨#[]⟩ : ByteArray), .slice none 0 0, .string (⟨#[]⟩ : ByteArray)]) ?_ 0 _ rfl; (with_reducible repeat (first | refine bN ?_ _ | refine bW ?_ | refine bA ?_ _)); exact BK285.out) hb); have n5_ := q_ (pT (by repeat (first | (with_reducible first | exact HB.out | apply pA | apply pN | apply p1 | refine pS ?_ GE277.out | refine pS ?_ GE285.out) | exact HB.out)) hb); clear HO274; clear HO284; clear BK277; clear BK285; clear HB; have HO274 := n0_; have HO284 := n1_; have HO288 := n2_; have BK277 := n3_; have BK285 := n4_; have HB := n5_; clear n0_ n1_ n2_ n3_ n4_ n5_; clear hb ho39; obtain ⟨Ao40, co40, eo40⟩ := Kd.R_slice HO288.out; subst eo40) | ((with_reducible refine gate_dst (N := 10) rfl ?_); refine box_event ?hg (N := 10) ?hd (cs := #[.int .i64 0, .int .i64 0, .string (⟨#[]⟩ : ByteArray), .string (⟨#[]⟩ : ByteArray), .slice none 0 0, .string (⟨#[]⟩ : ByteArray)]) (t := 24) ?hr ?_; (case hd => rfl); (case hg => rfl); (case hr => first | (go_simp; done) | (go_simp; rfl)); intro gb289 hg w41 hbox hb; have n0_ := q_ (Kd.R_below (by (with_reducible repeat (first | apply Kd.R_alloc | apply Kd.R_drewN | apply Kd.R_drew)); exact HO274.out) hb); have n1_ := q_ (Kd.R_below (by (with_reducible repeat (first | apply Kd.R_alloc | apply Kd.R_drewN | apply Kd.R_drew)); exact HO284.out) hb); have n2_ := q_ (Kd.R_below (by (with_reducible repeat (first | apply Kd.R_alloc | apply Kd.R_drewN | apply Kd.R_drew)); exact HO288.out) hb); have n3_ := q_ (bB (g := gb277) (o := .cells #[.int .i64 t268, .int .i64 t269, .string t270, .string t271, .slice Ao29 t272.length co29, .string t275] 24 (0, 0)) (by (with_reducible repeat (first | refine bN ?_ _ | refine bW ?_ | refine bA ?_ _)); exact BK277.out) hb); have n4_ := q_ (bB (g := gb285) (o := .cells #[.int .i64 4, .int .i64 425, .string t278, .string (⟨#[]⟩ : ByteArray), .slice Ao34 y282.length co34, .string (⟨#[]⟩ : ByteArray)] 24 (0, 0)) (by (with_reducible repeat (first | refine bN ?_ _ | refine bW ?_ | refine bA ?_ _)); exact BK285.out) hb); have n5_ := q_ (pT (by repeat (first | (with_reducible first | exact HB.out | apply pA | apply pN | apply p1 | refine pS ?_ GE277.out | refine pS ?_ GE285.out) | exact HB.out)) hb); have n6_ := q_ (hbox); have n7_ := q_ ((by rw [hg]; exact (pZ (by repeat (first | (with_reducible first | exact HB.out | apply pA | apply pN | apply p1 | refine pS ?_ GE277.out | refine pS ?_ GE285.out) | exact HB.out))) : w.heap.size ≤ gb289)); have n8_ := q_ ((by rw [hg]; exact (pZ (by repeat (first | (with_reducible first | exact HB.out | apply pA | apply pN | apply p1 | refine pS ?_ GE277.out | refine pS ?_ GE285.out) | exact HB.out))) : w.heap.size ≤ gb289)); have n9_ := q_ ((by rw [hg]; exact Nat.ne_of_lt (blk_lt (g := gb277) (o := .cells #[.int .i64 t268, .int .i64 t269, .string t270, .string t271, .slice Ao29 t272.length co29, .string t275] 24 (0, 0)) (by (with_reducible repeat (first | refine bN ?_ _ | refine bW ?_ | refine bA ?_ _)); exact BK277.out)) : gb277 ≠ gb289)); have n10_ := q_ ((by rw [hg]; exact Nat.ne_of_gt (blk_lt (g := gb277) (o := .cells #[.int .i64 t268, .int .i64 t269, .string t270, .string t271, .slice Ao29 t272.length co29, .string t275] 24 (0, 0)) (by (with_reducible repeat (first | refine bN ?_ _ | refine bW ?_ | refine bA ?_ _)); exact BK277.out)) : gb289 ≠ gb277)); have n11_ := q_ ((by rw [hg]; exact Nat.ne_of_lt (blk_lt (g := gb285) (o := .cells #[.int .i64 4, .int .i64 425, .string t278, .string (⟨#[]⟩ : ByteArray), .slice Ao34 y282.length co34, .string (⟨#[]⟩ : ByteArray)] 24 (0, 0)) (by (with_reducible repeat (first | refine bN ?_ _ | refine bW ?_ | refine bA ?_ _)); exact BK285.out)) : gb285 ≠ gb289)); have n12_ := q_ ((by rw [hg]; exact Nat.ne_of_gt (blk_lt (g := gb285) (o := .cells #[.int .i64 4, .int .i64 425, .string t278, .string (⟨#[]⟩ : ByteArray), .slice Ao34 y282.length co34, .string (⟨#[]⟩ : ByteArray)] 24 (0, 0)) (by (with_reducible repeat (first | refine bN ?_ _ | refine bW ?_ | refine bA ?_ _)); exact BK285.out)) : gb289 ≠ gb285)); clear HO274; clear HO284; clear HO288; clear BK277; clear BK285; clear HB; have HO274 := n0_; have HO284 := n1_; have HO288 := n2_; have BK277 := n3_; have BK285 := n4_; have HB := n5_; have BK289 := n6_; have GW289 := n7_; have GE289 := n8_; have NB277_289 := n9_; have NB289_277 := n10_; have NB285_289 := n11_; have NB289_285 := n12_; clear n0_ n1_ n2_ n3_ n4_ n5_ n6_ n7_ n8_ n9_ n10_ n11_ n12_; clear hb hbox hg; have hnb42 := NB289_277.out; have hnc42 := NB277_289.out; have hnb43 := NB289_285.out; have hnc43 := NB285_289.out; have hcz44_0 : w41.cell? ⟨gb289, 0, none⟩ = some (.int .i64 0) := (bC BK289.out 0).trans rfl; have hcz44_1 : w41.cell? ⟨gb289, 1, none⟩ = some (.int .i64 0) := (bC BK289.out 1).trans rfl; have hcz44_2 : w41.cell? ⟨gb289, 2, none⟩ = some (.string (⟨#[]⟩ : ByteArray)) := (bC BK289.out 2).trans rfl; have hcz44_3 : w41.cell? ⟨gb289, 3, none⟩ = some (.string (⟨#[]⟩ : ByteArray)) := (bC BK289.out 3).trans rfl; have hcz44_4 : w41.cell? ⟨gb289, 4, none⟩ = some (.slice none 0 0) := (bC BK289.out 4).trans rfl; have hcz44_5 : w41.cell? ⟨gb289, 5, none⟩ = some (.string (⟨#[]⟩ : ByteArray)) := (bC BK289.out 5).trans rfl; have hfz44_0 := bF BK289.out 0; have hfz44_1 := bF BK289.out 1; have hfz44_2 := bF BK289.out 2; have hfz44_3 := bF BK289.out 3; have hfz44_4 := bF BK289.out 4; have hfz44_5 := bF BK289.out 5) | ((with_reducible refine gate_dst (N := 36) rfl ?_); refine Kd.R_lit (Kd.int .i64) _ 3 ?hg (N := 36) ?hd (xs := ([100, 2, 1] : List Int)) (inner := [.int .i64 100, .int .i64 2, .int .i64 1]) (ok := fun _ => True) (okp := fun _ => True) ?hr ?hp (fun _ hk => hk) trivial (Below.refl _ _) (Nat.le_refl _) (by simp) ?_; (case hd => rfl); (case hg => rfl); (case hr => first | (go_simp; done) | (go_simp; rfl)); (case hp => exact (Reps.one (show Kd.M (Kd.int .i64) _ _ _ 100 [.int .i64 100] from rfl) (Reps.one (show Kd.M (Kd.int .i64) _ _ _ 2 [.int .i64 2] from rfl) (Reps.one (show Kd.M (Kd.int .i64) _ _ _ 1 [.int .i64 1] from rfl) (Reps.none _ _))))); intro v291 w45 ho46 hb hg_ hnew_; clear hg_ hnew_; (first | rw [← Ny290.out] at ho46 | (simp only [Int.reduceToNat] at ho46; rw [← Ny290.out] at ho46)); have n0_ := q_ (Kd.R_elder' (by (with_reducible repeat (first | apply Kd.R_alloc | apply Kd.R_drewN | apply Kd.R_drew)); exact (Kd.R_mono (Kd.R_far (p := ⟨gb289, 5, none⟩) (Kd.R_far (p := ⟨gb289, 4, none⟩) (Kd.R_far (p := ⟨gb289, 3, none⟩) (Kd.R_far (p := ⟨gb289, 2, none⟩) (Kd.R_far (p := ⟨gb289, 1, none⟩) (Kd.R_far (p := ⟨gb289, 0, none⟩) (Kd.R_types HO274.out BK289.out (by decide)) (fun _ hk => hk.2) (.int .i64 6)) (fun _ hk => hk.2) (.int .i64 0)) (fun _ hk => hk.2) (.string t280)) (fun _ hk => hk.2) (.string (⟨#[]⟩ : ByteArray))) (fun _ hk => hk.2) (.slice Ao40 y286.length co40)) (fun _ hk => hk.2) (.string (⟨#[]⟩ : ByteArray))) (fun _ h_ => h_.1))) (Kd.R_base ho46) hb); have n1_ := q_ (Kd.R_elder' (by (with_reducible repeat (first | apply Kd.R_alloc | apply Kd.R_drewN | apply Kd.R_drew)); exact (Kd.R_mono (Kd.R_far (p := ⟨gb289, 5, none⟩) (Kd.R_far (p := ⟨gb289, 4, none⟩) (Kd.R_far (p := ⟨gb289, 3, none⟩) (Kd.R_far (p := ⟨gb289, 2, none⟩) (Kd.R_far (p := ⟨gb289, 1, none⟩) (Kd.R_far (p := ⟨gb289, 0, none⟩) (Kd.R_types HO284.out BK289.out (by decide)) (fun _ hk => hk.2) (.int .i64 6)) (fun _ hk => hk.2) (.int .i64 0)) (fun _ hk => hk.2) (.string t280)) (fun _ hk => hk.2) (.string (⟨#[]⟩ : ByteArray))) (fun _ hk => hk.2) (.slice Ao40 y286.length co40)) (fun _ hk => hk.2) (.string (⟨#[]⟩ : ByteArray))) (fun _ h_ => h_.1))) (Kd.R_base ho46) hb); have n2_ := q_ (Kd.R_elder' (by (with_reducible repeat (first | apply Kd.R_alloc | apply Kd.R_drewN | apply Kd.R_drew)); exact (Kd.R_mono (Kd.R_far (p := ⟨gb289, 5, none⟩) (Kd.R_far (p := ⟨gb289, 4, none⟩) (Kd.R_far (p := ⟨gb289, 3, none⟩) (Kd.R_far (p := ⟨gb289, 2, none⟩) (Kd.R_far (p := ⟨gb289, 1, none⟩) (Kd.R_far (p := ⟨gb289, 0, none⟩) (Kd.R_types HO288.out BK289.out (by decide)) (fun _ hk => hk.2) (.int .i64 6)) (fun _ hk => hk.2) (.int .i64 0)) (fun _ hk => hk.2) (.string t280)) (fun _ hk => hk.2) (.string (⟨#[]⟩ : ByteArray))) (fun _ hk => hk.2) (.slice Ao40 y286.length co40)) (fun _ hk => hk.2) (.string (⟨#[]⟩ : ByteArray))) (fun _ h_ => h_.1))) (Kd.R_base ho46) hb); have n3_ := q_ (Kd.R_lower (Kd.R_new' (Kd.R_new' (Kd.R_new' ho46 (Kd.R_lt (by (with_reducible repeat (first | apply Kd.R_alloc | apply Kd.R_drewN | apply Kd.R_drew)); exact (Kd.R_mono (Kd.R_far (p := ⟨gb289, 5, none⟩) (Kd.R_far (p := ⟨gb289, 4, none⟩) (Kd.R_far (p := ⟨gb289, 3, none⟩) (Kd.R_far (p := ⟨gb289, 2, none⟩) (Kd.R_far (p := ⟨gb289, 1, none⟩) (Kd.R_far (p := ⟨gb289, 0, none⟩) (Kd.R_types HO274.out BK289.out (by decide)) (fun _ hk => hk.2) (.int .i64 6)) (fun _ hk => hk.2) (.int .i64 0)) (fun _ hk => hk.2) (.string t280)) (fun _ hk => hk.2) (.string (⟨#[]⟩ : ByteArray))) (fun _ hk => hk.2) (.slice Ao40 y286.length co40)) (fun _ hk => hk.2) (.string (⟨#[]⟩ : ByteArray))) (fun _ h_ => h_.1))))) (Kd.R_lt (by (with_reducible repeat (first | apply Kd.R_alloc | apply Kd.R_drewN | apply Kd.R_drew)); exact (Kd.R_mono (Kd.R_far (p := ⟨gb289, 5, none⟩) (Kd.R_far (p := ⟨gb289, 4, none⟩) (Kd.R_far (p := ⟨gb289, 3, none⟩) (Kd.R_far (p := ⟨gb289, 2, none⟩) (Kd.R_far (p := ⟨gb289, 1, none⟩) (Kd.R_far (p := ⟨gb289, 0, none⟩) (Kd.R_types HO284.out BK289.out (by decide)) (fun _ hk => hk.2) (.int .i64 6)) (fun _ hk => hk.2) (.int .i64 0)) (fun _ hk => hk.2) (.string t280)) (fun _ hk => hk.2) (.string (⟨#[]⟩ : ByteArray))) (fun _ hk => hk.2) (.slice Ao40 y286.length co40)) (fun _ hk => hk.2) (.string (⟨#[]⟩ : ByteArray))) (fun _ h_ => h_.1))))) (Kd.R_lt (by (with_reducible repeat (first | apply Kd.R_alloc | apply Kd.R_drewN | apply Kd.R_drew)); exact (Kd.R_mono (Kd.R_far (p := ⟨gb289, 5, none⟩) (Kd.R_far (p := ⟨gb289, 4, none⟩) (Kd.R_far (p := ⟨gb289, 3, none⟩) (Kd.R_far (p := ⟨gb289, 2, none⟩) (Kd.R_far (p := ⟨gb289, 1, none⟩) (Kd.R_far (p := ⟨gb289, 0, none⟩) (Kd.R_types HO288.out BK289.out (by decide)) (fun _ hk => hk.2) (.int .i64 6)) (fun _ hk => hk.2) (.int .i64 0)) (fun _ hk => hk.2) (.string t280)) (fun _ hk => hk.2) (.string (⟨#[]⟩ : ByteArray))) (fun _ hk => hk.2) (.slice Ao40 y286.length co40)) (fun _ hk => hk.2) (.string (⟨#[]⟩ : ByteArray))) (fun _ h_ => h_.1))))) (pZ (by repeat (first | (with_reducible first | exact HB.out | apply pA | apply pN | apply p1 | refine pS ?_ GE277.out | refine pS ?_ GE285.out | refine pS ?_ GE289.out) | exact HB.out)))); have n4_ := q_ (bB (g := gb277) (o := .cells #[.int .i64 t268, .int .i64 t269, .string t270, .string t271, .slice Ao29 t272.length co29, .string t275] 24 (0, 0)) (by (with_reducible repeat (first | refine bN ?_ _ | refine bW ?_ | refine bA ?_ _)); refine blk_far ?_ NB277_289.out _; (with_reducible repeat (first | refine bN ?_ _ | refine bW ?_ | refine bA ?_ _)); refine blk_far ?_ NB277_289.out _; (with_reducible repeat (first | refine bN ?_ _ | refine bW ?_ | refine bA ?_ _)); refine blk_far ?_ NB277_289.out _; (with_reducible repeat (first | refine bN ?_ _ | refine bW ?_ | refine bA ?_ _)); refine blk_far ?_ NB277_289.out _; (with_reducible repeat (first | refine bN ?_ _ | refine bW ?_ | refine bA ?_ _)); refine blk_far ?_ NB277_289.out _; (with_reducible repeat (first | refine bN ?_ _ | refine bW ?_ | refine bA ?_ _)); refine blk_far ?_ NB277_289.out _; (with_reducible repeat (first | refine bN ?_ _ | refine bW ?_ | refine bA ?_ _)); exact BK277.out) hb); have n5_ := q_ (bB (g := gb285) (o := .cells #[.int .i64 4, .int .i64 425, .string t278, .string (⟨#[]⟩ : ByteArray), .slice Ao34 y282.length co34, .string (⟨#[]⟩ : ByteArray)] 24 (0, 0)) (by (with_reducible repeat (first | refine bN ?_ _ | refine bW ?_ | refine bA ?_ _)); refine blk_far ?_ NB285_289.out _; (with_reducible repeat (first | refine bN ?_ _ | refine bW ?_ | refine bA ?_ _)); refine blk_far ?_ NB285_289.out _; (with_reducible repeat (first | refine bN ?_ _ | refine bW ?_ | refine bA ?_ _)); refine blk_far ?_ NB285_289.out _; (with_reducible repeat (first | refine bN ?_ _ | refine bW ?_ | refine bA ?_ _)); refine blk_far ?_ NB285_289.out _; (with_reducible repeat (first | refine bN ?_ _ | refine bW ?_ | refine bA ?_ _)); refine blk_far ?_ NB285_289.out _; (with_reducible repeat (first | refine bN ?_ _ | refine bW ?_ | refine bA ?_ _)); refine blk_far ?_ NB285_289.out _; (with_reducible repeat (first | refine bN ?_ _ | refine bW ?_ | refine bA ?_ _)); exact BK285.out) hb); have n6_ := q_ (bB (g := gb289) (o := .cells #[.int .i64 6, .int .i64 0, .string t280, .string (⟨#[]⟩ : ByteArray), .slice Ao40 y286.length co40, .string (⟨#[]⟩ : ByteArray)] 24 (0, 0)) (by (with_reducible repeat (first | refine bN ?_ _ | refine bW ?_ | refine bA ?_ _)); refine blk_put (cs := #[.int .i64 6, .int .i64 0, .string t280, .string (⟨#[]⟩ : ByteArray), .slice Ao40 y286.length co40, .string (⟨#[]⟩ : ByteArray)]) ?_ 5 _ rfl; (with_reducible repeat (first | refine bN ?_ _ | refine bW ?_ | refine bA ?_ _)); refine blk_put (cs := #[.int .i64 6, .int .i64 0, .string t280, .string (⟨#[]⟩ : ByteArray), .slice none 0 0, .string (⟨#[]⟩ : ByteArray)]) ?_ 4 _ rfl; (with_reducible repeat (first | refine bN ?_ _ | refine bW ?_ | refine bA ?_ _)); refine blk_put (cs := #[.int .i64 6, .int .i64 0, .string t280, .string (⟨#[]⟩ : ByteArray), .slice none 0 0, .string (⟨#[]⟩ : ByteArray)]) ?_ 3 _ rfl; (with_reducible repeat (first | refine bN ?_ _ | refine bW ?_ | refine bA ?_ _)); refine blk_put (cs := #[.int .i64 6, .int .i64 0, .string (⟨#[]⟩ : ByteArray), .string (⟨#[]⟩ : ByteArray), .slice none 0 0, .string (⟨#[]⟩ : ByteArray)]) ?_ 2 _ rfl; (with_reducible repeat (first | refine bN ?_ _ | refine bW ?_ | refine bA ?_ _)); refine blk_put (cs := #[.int .i64 6, .int .i64 0, .string (⟨#[]⟩ : ByteArray), .string (⟨#[]⟩ : ByteArray), .slice none 0 0, .string (⟨#[]⟩ : ByteArray)]) ?_ 1 _ rfl; (with_reducible repeat (first | refine bN ?_ _ | refine bW ?_ | refine bA ?_ _)); refine blk_put (cs := #[.int .i64 0, .int .i64 0, .string (⟨#[]⟩ : ByteArray), .string (⟨#[]⟩ : ByteArray), .slice none 0 0, .string (⟨#[]⟩ : ByteArray)]) ?_ 0 _ rfl; (with_reducible repeat (first | refine bN ?_ _ | refine bW ?_ | refine bA ?_ _)); exact BK289.out) hb); have n7_ := q_ (pT (by repeat (first | (with_reducible first | exact HB.out | apply pA | apply pN | apply p1 | refine pS ?_ GE277.out | refine pS ?_ GE285.out | refine pS ?_ GE289.out) | exact HB.out)) hb); clear HO274; clear HO284; clear HO288; clear BK277; clear BK285; clear BK289; clear HB; have HO274 := n0_; have HO284 := n1_; have HO288 := n2_; have HO292 := n3_; have BK277 := n4_; have BK285 := n5_; have BK289 := n6_; have HB := n7_; clear n0_ n1_ n2_ n3_ n4_ n5_ n6_ n7_; clear hb ho46; obtain ⟨Ao47, co47, eo47⟩ := Kd.R_slice HO292.out; subst eo47) | ((with_reducible refine gate_dst (N := 11) rfl ?_); refine box_event ?hg (N := 11) ?hd (cs := #[.int .i64 0, .int .i64 0, .string (⟨#[]⟩ : ByteArray), .string (⟨#[]⟩ : ByteArray), .slice none 0 0, .string (⟨#[]⟩ : ByteArray)]) (t := 24) ?hr ?_; (case hd => rfl); (case hg => rfl); (case hr => first | (go_simp; done) | (go_simp; rfl)); intro gb293 hg w48 hbox hb; have n0_ := q_ (Kd.R_below (by (with_reducible repeat (first | apply Kd.R_alloc | apply Kd.R_drewN | apply Kd.R_drew)); exact HO274.out) hb); have n1_ := q_ (Kd.R_below (by (with_reducible repeat (first | apply Kd.R_alloc | apply Kd.R_drewN | apply Kd.R_drew)); exact HO284.out) hb); have n2_ := q_ (Kd.R_below (by (with_reducible repeat (first | apply Kd.R_alloc | apply Kd.R_drewN | apply Kd.R_drew)); exact HO288.out) hb); have n3_ := q_ (Kd.R_below (by (with_reducible repeat (first | apply Kd.R_alloc | apply Kd.R_drewN | apply Kd.R_drew)); exact HO292.out) hb); have n4_ := q_ (bB (g := gb277) (o := .cells #[.int .i64 t268, .int .i64 t269, .string t270, .string t271, .slice Ao29 t272.length co29, .string t275] 24 (0, 0)) (by (with_reducible repeat (first | refine bN ?_ _ | refine bW ?_ | refine bA ?_ _)); exact BK277.out) hb); have n5_ := q_ (bB (g := gb285) (o := .cells #[.int .i64 4, .int .i64 425, .string t278, .string (⟨#[]⟩ : ByteArray), .slice Ao34 y282.length co34, .string (⟨#[]⟩ : ByteArray)] 24 (0, 0)) (by (with_reducible repeat (first | refine bN ?_ _ | refine bW ?_ | refine bA ?_ _)); exact BK285.out) hb); have n6_ := q_ (bB (g := gb289) (o := .cells #[.int .i64 6, .int .i64 0, .string t280, .string (⟨#[]⟩ : ByteArray), .slice Ao40 y286.length co40, .string (⟨#[]⟩ : ByteArray)] 24 (0, 0)) (by (with_reducible repeat (first | refine bN ?_ _ | refine bW ?_ | refine bA ?_ _)); exact BK289.out) hb); have n7_ := q_ (pT (by repeat (first | (with_reducible first | exact HB.out | apply pA | apply pN | apply p1 | refine pS ?_ GE277.out | refine pS ?_ GE285.out | refine pS ?_ GE289.out) | exact HB.out)) hb); have n8_ := q_ (hbox); have n9_ := q_ ((by rw [hg]; exact (pZ (by repeat (first | (with_reducible first | exact HB.out | apply pA | apply pN | apply p1 | refine pS ?_ GE277.out | refine pS ?_ GE285.out | refine pS ?_ GE289.out) | exact HB.out))) : w.heap.size ≤ gb293)); have n10_ := q_ ((by rw [hg]; exact (pZ (by repeat (first | (with_reducible first | exact HB.out | apply pA | apply pN | apply p1 | refine pS ?_ GE277.out | refine pS ?_ GE285.out | refine pS ?_ GE289.out) | exact HB.out))) : w.heap.size ≤ gb293)); have n11_ := q_ ((by rw [hg]; exact Nat.ne_of_lt (blk_lt (g := gb277) (o := .cells #[.int .i64 t268, .int .i64 t269, .string t270, .string t271, .slice Ao29 t272.length co29, .string t275] 24 (0, 0)) (by (with_reducible repeat (first | refine bN ?_ _ | refine bW ?_ | refine bA ?_ _)); exact BK277.out)) : gb277 ≠ gb293)); have n12_ := q_ ((by rw [hg]; exact Nat.ne_of_gt (blk_lt (g := gb277) (o := .cells #[.int .i64 t268, .int .i64 t269, .string t270, .string t271, .slice Ao29 t272.length co29, .string t275] 24 (0, 0)) (by (with_reducible repeat (first | refine bN ?_ _ | refine bW ?_ | refine bA ?_ _)); exact BK277.out)) : gb293 ≠ gb277)); have n13_ := q_ ((by rw [hg]; exact Nat.ne_of_lt (blk_lt (g := gb285) (o := .cells #[.int .i64 4, .int .i64 425, .string t278, .string (⟨#[]⟩ : ByteArray), .slice Ao34 y282.length co34, .string (⟨#[]⟩ : ByteArray)] 24 (0, 0)) (by (with_reducible repeat (first | refine bN ?_ _ | refine bW ?_ | refine bA ?_ _)); exact BK285.out)) : gb285 ≠ gb293)); have n14_ := q_ ((by rw [hg]; exact Nat.ne_of_gt (blk_lt (g := gb285) (o := .cells #[.int .i64 4, .int .i64 425, .string t278, .string (⟨#[]⟩ : ByteArray), .slice Ao34 y282.length co34, .string (⟨#[]⟩ : ByteArray)] 24 (0, 0)) (by (with_reducible repeat (first | refine bN ?_ _ | refine bW ?_ | refine bA ?_ _)); exact BK285.out)) : gb293 ≠ gb285)); have n15_ := q_ ((by rw [hg]; exact Nat.ne_of_lt (blk_lt (g := gb289) (o := .cells #[.int .i64 6, .int .i64 0, .string t280, .string (⟨#[]⟩ : ByteArray), .slice Ao40 y286.length co40, .string (⟨#[]⟩ : ByteArray)] 24 (0, 0)) (by (with_reducible repeat (first | refine bN ?_ _ | refine bW ?_ | refine bA ?_ _)); exact BK289.out)) : gb289 ≠ gb293)); have n16_ := q_ ((by rw [hg]; exact Nat.ne_of_gt (blk_lt (g := gb289) (o := .cells #[.int .i64 6, .int .i64 0, .string t280, .string (⟨#[]⟩ : ByteArray), .slice Ao40 y286.length co40, .string (⟨#[]⟩ : ByteArray)] 24 (0, 0)) (by (with_reducible repeat (first | refine bN ?_ _ | refine bW ?_ | refine bA ?_ _)); exact BK289.out)) : gb293 ≠ gb289)); clear HO274; clear HO284; clear HO288; clear HO292; clear BK277; clear BK285; clear BK289; clear HB; have HO274 := n0_; have HO284 := n1_; have HO288 := n2_; have HO292 := n3_; have BK277 := n4_; have BK285 := n5_; have BK289 := n6_; have HB := n7_; have BK293 := n8_; have GW293 := n9_; have GE293 := n10_; have NB277_293 := n11_; have NB293_277 := n12_; have NB285_293 := n13_; have NB293_285 := n14_; have NB289_293 := n15_; have NB293_289 := n16_; clear n0_ n1_ n2_ n3_ n4_ n5_ n6_ n7_ n8_ n9_ n10_ n11_ n12_ n13_ n14_ n15_ n16_; clear hb hbox hg; have hnb49 := NB293_277.out; have hnc49 := NB277_293.out; have hnb50 := NB293_285.out; have hnc50 := NB285_293.out; have hnb51 := NB293_289.out; have hnc51 := NB289_293.out; have hcz52_0 : w48.cell? ⟨gb293, 0, none⟩ = some (.int .i64 0) := (bC BK293.out 0).trans rfl; have hcz52_1 : w48.cell? ⟨gb293, 1, none⟩ = some (.int .i64 0) := (bC BK293.out 1).trans rfl; have hcz52_2 : w48.cell? ⟨gb293, 2, none⟩ = some (.string (⟨#[]⟩ : ByteArray)) := (bC BK293.out 2).trans rfl; have hcz52_3 : w48.cell? ⟨gb293, 3, none⟩ = some (.string (⟨#[]⟩ : ByteArray)) := (bC BK293.out 3).trans rfl; have hcz52_4 : w48.cell? ⟨gb293, 4, none⟩ = some (.slice none 0 0) := (bC BK293.out 4).trans rfl; have hcz52_5 : w48.cell? ⟨gb293, 5, none⟩ = some (.string (⟨#[]⟩ : ByteArray)) := (bC BK293.out 5).trans rfl; have hfz52_0 := bF BK293.out 0; have hfz52_1 := bF BK293.out 1; have hfz52_2 := bF BK293.out 2; have hfz52_3 := bF BK293.out 3; have hfz52_4 := bF BK293.out 4; have hfz52_5 := bF BK293.out 5; have hcz53_0 : w48.cell? ⟨gb277, 0, none⟩ = some (.int .i64 t268) := (bC BK277.out 0).trans rfl; have hcz53_1 : w48.cell? ⟨gb277, 1, none⟩ = some (.int .i64 t269) := (bC BK277.out 1).trans rfl; have hcz53_2 : w48.cell? ⟨gb277, 2, none⟩ = some (.string t270) := (bC BK277.out 2).trans rfl; have hcz53_3 : w48.cell? ⟨gb277, 3, none⟩ = some (.string t271) := (bC BK277.out 3).trans rfl; have hcz53_4 : w48.cell? ⟨gb277, 4, none⟩ = some (.slice Ao29 t272.length co29) := (bC BK277.out 4).trans rfl; have hcz53_5 : w48.cell? ⟨gb277, 5, none⟩ = some (.string t275) := (bC BK277.out 5).trans rfl; have hfz53_0 := bF BK277.out 0; have hfz53_1 := bF BK277.out 1; have hfz53_2 := bF BK277.out 2; have hfz53_3 := bF BK277.out 3; have hfz53_4 := bF BK277.out 4; have hfz53_5 := bF BK277.out 5; have hcz54_0 : w48.cell? ⟨gb285, 0, none⟩ = some (.int .i64 4) := (bC BK285.out 0).trans rfl; have hcz54_1 : w48.cell? ⟨gb285, 1, none⟩ = some (.int .i64 425) := (bC BK285.out 1).trans rfl; have hcz54_2 : w48.cell? ⟨gb285, 2, none⟩ = some (.string t278) := (bC BK285.out 2).trans rfl; have hcz54_3 : w48.cell? ⟨gb285, 3, none⟩ = some (.string (⟨#[]⟩ : ByteArray)) := (bC BK285.out 3).trans rfl; have hcz54_4 : w48.cell? ⟨gb285, 4, none⟩ = some (.slice Ao34 y282.length co34) := (bC BK285.out 4).trans rfl; have hcz54_5 : w48.cell? ⟨gb285, 5, none⟩ = some (.string (⟨#[]⟩ : ByteArray)) := (bC BK285.out 5).trans rfl; have hfz54_0 := bF BK285.out 0; have hfz54_1 := bF BK285.out 1; have hfz54_2 := bF BK285.out 2; have hfz54_3 := bF BK285.out 3; have hfz54_4 := bF BK285.out 4; have hfz54_5 := bF BK285.out 5) | (go_at_call 20; (with_reducible refine (event_Line.calls k 4 425 t278 (⟨#[]⟩ : ByteArray) _ _ y282 (⟨#[]⟩ : ByteArray) t294 _ ?side1 ?side2 A10.out ?htab_).mono ?_); (case htab_ => exact TabW.below HTB.out (by repeat (first | (with_reducible first | exact HB.out | apply pA | apply pN | apply p1 | refine pS ?_ GE277.out | refine pS ?_ GE285.out | refine pS ?_ GE289.out | refine pS ?_ GE293.out) | exact HB.out))); (case side1 => refine (Kd.R_reads' (e := 3) (base := w.heap.size) (ok := fun k_ => (((True ∧ some k_ ≠ (.slice Ao29 t272.length co29 : Value).ownBlock) ∧ some k_ ≠ (.slice Ao40 y286.length co40 : Value).ownBlock) ∧ some k_ ≠ (.slice Ao47 y290.length co47 : Value).ownBlock)) (n := y282.length) (c := co34) ?_).2.2; exact (by (with_reducible repeat (first | apply Kd.R_alloc | apply Kd.R_drewN | apply Kd.R_drew)); exact (Kd.R_mono (Kd.R_far (p := ⟨gb293, 5, none⟩) (Kd.R_far (p := ⟨gb293, 4, none⟩) (Kd.R_far (p := ⟨gb293, 3, none⟩) (Kd.R_far (p := ⟨gb293, 2, none⟩) (Kd.R_far (p := ⟨gb293, 1, none⟩) (Kd.R_far (p := ⟨gb293, 0, none⟩) (Kd.R_types HO284.out BK293.out (by decide)) (fun _ hk => hk.2) (.int .i64 6)) (fun _ hk => hk.2) (.int .i64 0)) (fun _ hk => hk.2) (.string t280)) (fun _ hk => hk.2) (.string (⟨#[]⟩ : ByteArray))) (fun _ hk => hk.2) (.slice Ao47 y290.length co47)) (fun _ hk => hk.2) (.string (⟨#[]⟩ : ByteArray))) (fun _ h_ => h_.1)))); (case side2 => exact (Kd.R_reads' HO284.out).2.1); rintro e w55 ⟨rfl, hb⟩; have n0_ := q_ (Kd.R_below (by (with_reducible repeat (first | apply Kd.R_alloc | apply Kd.R_drewN | apply Kd.R_drew)); exact (Kd.R_mono (Kd.R_far (p := ⟨gb293, 5, none⟩) (Kd.R_far (p := ⟨gb293, 4, none⟩) (Kd.R_far (p := ⟨gb293, 3, none⟩) (Kd.R_far (p := ⟨gb293, 2, none⟩) (Kd.R_far (p := ⟨gb293, 1, none⟩) (Kd.R_far (p := ⟨gb293, 0, none⟩) (Kd.R_types HO274.out BK293.out (by decide)) (fun _ hk => hk.2) (.int .i64 6)) (fun _ hk => hk.2) (.int .i64 0)) (fun _ hk => hk.2) (.string t280)) (fun _ hk => hk.2) (.string (⟨#[]⟩ : ByteArray))) (fun _ hk => hk.2) (.slice Ao47 y290.length co47)) (fun _ hk => hk.2) (.string (⟨#[]⟩ : ByteArray))) (fun _ h_ => h_.1))) hb); have n1_ := q_ (Kd.R_below (by (with_reducible repeat (first | apply Kd.R_alloc | apply Kd.R_drewN | apply Kd.R_drew)); exact (Kd.R_mono (Kd.R_far (p := ⟨gb293, 5, none⟩) (Kd.R_far (p := ⟨gb293, 4, none⟩) (Kd.R_far (p := ⟨gb293, 3, none⟩) (Kd.R_far (p := ⟨gb293, 2, none⟩) (Kd.R_far (p := ⟨gb293, 1, none⟩) (Kd.R_far (p := ⟨gb293, 0, none⟩) (Kd.R_types HO284.out BK293.out (by decide)) (fun _ hk => hk.2) (.int .i64 6)) (fun _ hk => hk.2) (.int .i64 0)) (fun _ hk => hk.2) (.string t280)) (fun _ hk => hk.2) (.string (⟨#[]⟩ : ByteArray))) (fun _ hk => hk.2) (.slice Ao47 y290.length co47)) (fun _ hk => hk.2) (.string (⟨#[]⟩ : ByteArray))) (fun _ h_ => h_.1))) hb); have n2_ := q_ (Kd.R_below (by (with_reducible repeat (first | apply Kd.R_alloc | apply Kd.R_drewN | apply Kd.R_drew)); exact (Kd.R_mono (Kd.R_far (p := ⟨gb293, 5, none⟩) (Kd.R_far (p := ⟨gb293, 4, none⟩) (Kd.R_far (p := ⟨gb293, 3, none⟩) (Kd.R_far (p := ⟨gb293, 2, none⟩) (Kd.R_far (p := ⟨gb293, 1, none⟩) (Kd.R_far (p := ⟨gb293, 0, none⟩) (Kd.R_types HO288.out BK293.out (by decide)) (fun _ hk => hk.2) (.int .i64 6)) (fun _ hk => hk.2) (.int .i64 0)) (fun _ hk => hk.2) (.string t280)) (fun _ hk => hk.2) (.string (⟨#[]⟩ : ByteArray))) (fun _ hk => hk.2) (.slice Ao47 y290.length co47)) (fun _ hk => hk.2) (.string (⟨#[]⟩ : ByteArray))) (fun _ h_ => h_.1))) hb); have n3_ := q_ (Kd.R_below (by (with_reducible repeat (first | apply Kd.R_alloc | apply Kd.R_drewN | apply Kd.R_drew)); exact (Kd.R_mono (Kd.R_far (p := ⟨gb293, 5, none⟩) (Kd.R_far (p := ⟨gb293, 4, none⟩) (Kd.R_far (p := ⟨gb293, 3, none⟩) (Kd.R_far (p := ⟨gb293, 2, none⟩) (Kd.R_far (p := ⟨gb293, 1, none⟩) (Kd.R_far (p := ⟨gb293, 0, none⟩) (Kd.R_types HO292.out BK293.out (by decide)) (fun _ hk => hk.2) (.int .i64 6)) (fun _ hk => hk.2) (.int .i64 0)) (fun _ hk => hk.2) (.string t280)) (fun _ hk => hk.2) (.string (⟨#[]⟩ : ByteArray))) (fun _ hk => hk.2) (.slice Ao47 y290.length co47)) (fun _ hk => hk.2) (.string (⟨#[]⟩ : ByteArray))) (fun _ h_ => h_.1))) hb); have n4_ := q_ (bB (g := gb277) (o := .cells #[.int .i64 t268, .int .i64 t269, .string t270, .string t271, .slice Ao29 t272.length co29, .string t275] 24 (0, 0)) (by (with_reducible repeat (first | refine bN ?_ _ | refine bW ?_ | refine bA ?_ _)); refine blk_far ?_ NB277_293.out _; (with_reducible repeat (first | refine bN ?_ _ | refine bW ?_ | refine bA ?_ _)); refine blk_far ?_ NB277_293.out _; (with_reducible repeat (first | refine bN ?_ _ | refine bW ?_ | refine bA ?_ _)); refine blk_far ?_ NB277_293.out _; (with_reducible repeat (first | refine bN ?_ _ | refine bW ?_ | refine bA ?_ _)); refine blk_far ?_ NB277_293.out _; (with_reducible repeat (first | refine bN ?_ _ | refine bW ?_ | refine bA ?_ _)); refine blk_far ?_ NB277_293.out _; (with_reducible repeat (first | refine bN ?_ _ | refine bW ?_ | refine bA ?_ _)); refine blk_far ?_ NB277_293.out _; (with_reducible repeat (first | refine bN ?_ _ | refine bW ?_ | refine bA ?_ _)); exact BK277.out) hb); have n5_ := q_ (bB (g := gb285) (o := .cells #[.int .i64 4, .int .i64 425, .string t278, .string (⟨#[]⟩ : ByteArray), .slice Ao34 y282.length co34, .string (⟨#[]⟩ : ByteArray)] 24 (0, 0)) (by (with_reducible repeat (first | refine bN ?_ _ | refine bW ?_ | refine bA ?_ _)); refine blk_far ?_ NB285_293.out _; (with_reducible repeat (first | refine bN ?_ _ | refine bW ?_ | refine bA ?_ _)); refine blk_far ?_ NB285_293.out _; (with_reducible repeat (first | refine bN ?_ _ | refine bW ?_ | refine bA ?_ _)); refine blk_far ?_ NB285_293.out _; (with_reducible repeat (first | refine bN ?_ _ | refine bW ?_ | refine bA ?_ _)); refine blk_far ?_ NB285_293.out _; (with_reducible repeat (first | refine bN ?_ _ | refine bW ?_ | refine bA ?_ _)); refine blk_far ?_ NB285_293.out _; (with_reducible repeat (first | refine bN ?_ _ | refine bW ?_ | refine bA ?_ _)); refine blk_far ?_ NB285_293.out _; (with_reducible repeat (first | refine bN ?_ _ | refine bW ?_ | refine bA ?_ _)); exact BK285.out) hb); have n6_ := q_ (bB (g := gb289) (o := .cells #[.int .i64 6, .int .i64 0, .string t280, .string (⟨#[]⟩ : ByteArray), .slice Ao40 y286.length co40, .string (⟨#[]⟩ : ByteArray)] 24 (0, 0)) (by (with_reducible repeat (first | refine bN ?_ _ | refine bW ?_ | refine bA ?_ _)); refine blk_far ?_ NB289_293.out _; (with_reducible repeat (first | refine bN ?_ _ | refine bW ?_ | refine bA ?_ _)); refine blk_far ?_ NB289_293.out _; (with_reducible repeat (first | refine bN ?_ _ | refine bW ?_ | refine bA ?_ _)); refine blk_far ?_ NB289_293.out _; (with_reducible repeat (first | refine bN ?_ _ | refine bW ?_ | refine bA ?_ _)); refine blk_far ?_ NB289_293.out _; (with_reducible repeat (first | refine bN ?_ _ | refine bW ?_ | refine bA ?_ _)); refine blk_far ?_ NB289_293.out _; (with_reducible repeat (first | refine bN ?_ _ | refine bW ?_ | refine bA ?_ _)); refine blk_far ?_ NB289_293.out _; (with_reducible repeat (first | refine bN ?_ _ | refine bW ?_ | refine bA ?_ _)); exact BK289.out) hb); have n7_ := q_ (bB (g := gb293) (o := .cells #[.int .i64 6, .int .i64 0, .string t280, .string (⟨#[]⟩ : ByteArray), .slice Ao47 y290.length co47, .string (⟨#[]⟩ : ByteArray)] 24 (0, 0)) (by (with_reducible repeat (first | refine bN ?_ _ | refine bW ?_ | refine bA ?_ _)); refine blk_put (cs := #[.int .i64 6, .int .i64 0, .string t280, .string (⟨#[]⟩ : ByteArray), .slice Ao47 y290.length co47, .string (⟨#[]⟩ : ByteArray)]) ?_ 5 _ rfl; (with_reducible repeat (first | refine bN ?_ _ | refine bW ?_ | refine bA ?_ _)); refine blk_put (cs := #[.int .i64 6, .int .i64 0, .string t280, .string (⟨#[]⟩ : ByteArray), .slice none 0 0, .string (⟨#[]⟩ : ByteArray)]) ?_ 4 _ rfl; (with_reducible repeat (first | refine bN ?_ _ | refine bW ?_ | refine bA ?_ _)); refine blk_put (cs := #[.int .i64 6, .int .i64 0, .string t280, .string (⟨#[]⟩ : ByteArray), .slice none 0 0, .string (⟨#[]⟩ : ByteArray)]) ?_ 3 _ rfl; (with_reducible repeat (first | refine bN ?_ _ | refine bW ?_ | refine bA ?_ _)); refine blk_put (cs := #[.int .i64 6, .int .i64 0, .string (⟨#[]⟩ : ByteArray), .string (⟨#[]⟩ : ByteArray), .slice none 0 0, .string (⟨#[]⟩ : ByteArray)]) ?_ 2 _ rfl; (with_reducible repeat (first | refine bN ?_ _ | refine bW ?_ | refine bA ?_ _)); refine blk_put (cs := #[.int .i64 6, .int .i64 0, .string (⟨#[]⟩ : ByteArray), .string (⟨#[]⟩ : ByteArray), .slice none 0 0, .string (⟨#[]⟩ : ByteArray)]) ?_ 1 _ rfl; (with_reducible repeat (first | refine bN ?_ _ | refine bW ?_ | refine bA ?_ _)); refine blk_put (cs := #[.int .i64 0, .int .i64 0, .string (⟨#[]⟩ : ByteArray), .string (⟨#[]⟩ : ByteArray), .slice none 0 0, .string (⟨#[]⟩ : ByteArray)]) ?_ 0 _ rfl; (with_reducible repeat (first | refine bN ?_ _ | refine bW ?_ | refine bA ?_ _)); exact BK293.out) hb); have n8_ := q_ (pT (by repeat (first | (with_reducible first | exact HB.out | apply pA | apply pN | apply p1 | refine pS ?_ GE277.out | refine pS ?_ GE285.out | refine pS ?_ GE289.out | refine pS ?_ GE293.out) | exact HB.out)) hb); clear HO274; clear HO284; clear HO288; clear HO292; clear BK277; clear BK285; clear BK289; clear BK293; clear HB; have HO274 := n0_; have HO284 := n1_; have HO288 := n2_; have HO292 := n3_; have BK277 := n4_; have BK285 := n5_; have BK289 := n6_; have BK293 := n7_; have HB := n8_; clear n0_ n1_ n2_ n3_ n4_ n5_ n6_ n7_ n8_; (try clear hb); (try clear hb2); (try clear hk); (try clear hi); have hcz56_0 : w55.cell? ⟨gb289, 0, none⟩ = some (.int .i64 6) := (bC BK289.out 0).trans rfl; have hcz56_1 : w55.cell? ⟨gb289, 1, none⟩ = some (.int .i64 0) := (bC BK289.out 1).trans rfl; have hcz56_2 : w55.cell? ⟨gb289, 2, none⟩ = some (.string t280) := (bC BK289.out 2).trans rfl; have hcz56_3 : w55.cell? ⟨gb289, 3, none⟩ = some (.string (⟨#[]⟩ : ByteArray)) := (bC BK289.out 3).trans rfl; have hcz56_4 : w55.cell? ⟨gb289, 4, none⟩ = some (.slice Ao40 y286.length co40) := (bC BK289.out 4).trans rfl; have hcz56_5 : w55.cell? ⟨gb289, 5, none⟩ = some (.string (⟨#[]⟩ : ByteArray)) := (bC BK289.out 5).trans rfl; have hfz56_0 := bF BK289.out 0; have hfz56_1 := bF BK289.out 1; have hfz56_2 := bF BK289.out 2; have hfz56_3 := bF BK289.out 3; have hfz56_4 := bF BK289.out 4; have hfz56_5 := bF BK289.out 5) | (go_at_call 11; (with_reducible refine (event_Check.calls k 6 0 t280 (⟨#[]⟩ : ByteArray) _ _ y286 (⟨#[]⟩ : ByteArray) t295 _ ?side1 ?side2 A14.out).mono ?_); (case side1 => repeat (first | exact (Kd.R_reads' HO288.out).2.2 | (with_reducible refine Kd.C_alloc ?_ _) | (with_reducible refine Kd.C_drewN ?_ _) | (with_reducible refine Kd.C_drew ?_))); (case side2 => exact (Kd.R_reads' HO288.out).2.1); rintro e w57 ⟨rfl, hb⟩; have n0_ := q_ (Kd.R_below (by (with_reducible repeat (first | apply Kd.R_alloc | apply Kd.R_drewN | apply Kd.R_drew)); exact HO274.out) hb); have n1_ := q_ (Kd.R_below (by (with_reducible repeat (first | apply Kd.R_alloc | apply Kd.R_drewN | apply Kd.R_drew)); exact HO284.out) hb); have n2_ := q_ (Kd.R_below (by (with_reducible repeat (first | apply Kd.R_alloc | apply Kd.R_drewN | apply Kd.R_drew)); exact HO288.out) hb); have n3_ := q_ (Kd.R_below (by (with_reducible repeat (first | apply Kd.R_alloc | apply Kd.R_drewN | apply Kd.R_drew)); exact HO292.out) hb); have n4_ := q_ (bB (g := gb277) (o := .cells #[.int .i64 t268, .int .i64 t269, .string t270, .string t271, .slice Ao29 t272.length co29, .string t275] 24 (0, 0)) (by (with_reducible repeat (first | refine bN ?_ _ | refine bW ?_ | refine bA ?_ _)); exact BK277.out) hb); have n5_ := q_ (bB (g := gb285) (o := .cells #[.int .i64 4, .int .i64 425, .string t278, .string (⟨#[]⟩ : ByteArray), .slice Ao34 y282.length co34, .string (⟨#[]⟩ : ByteArray)] 24 (0, 0)) (by (with_reducible repeat (first | refine bN ?_ _ | refine bW ?_ | refine bA ?_ _)); exact BK285.out) hb); have n6_ := q_ (bB (g := gb289) (o := .cells #[.int .i64 6, .int .i64 0, .string t280, .string (⟨#[]⟩ : ByteArray), .slice Ao40 y286.length co40, .string (⟨#[]⟩ : ByteArray)] 24 (0, 0)) (by (with_reducible repeat (first | refine bN ?_ _ | refine bW ?_ | refine bA ?_ _)); exact BK289.out) hb); have n7_ := q_ (bB (g := gb293) (o := .cells #[.int .i64 6, .int .i64 0, .string t280, .string (⟨#[]⟩ : ByteArray), .slice Ao47 y290.length co47, .string (⟨#[]⟩ : ByteArray)] 24 (0, 0)) (by (with_reducible repeat (first | refine bN ?_ _ | refine bW ?_ | refine bA ?_ _)); exact BK293.out) hb); have n8_ := q_ (pT (by repeat (first | (with_reducible first | exact HB.out | apply pA | apply pN | apply p1 | refine pS ?_ GE277.out | refine pS ?_ GE285.out | refine pS ?_ GE289.out | refine pS ?_ GE293.out) | exact HB.out)) hb); clear HO274; clear HO284; clear HO288; clear HO292; clear BK277; clear BK285; clear BK289; clear BK293; clear HB; have HO274 := n0_; have HO284 := n1_; have HO288 := n2_; have HO292 := n3_; have BK277 := n4_; have BK285 := n5_; have BK289 := n6_; have BK293 := n7_; have HB := n8_; clear n0_ n1_ n2_ n3_ n4_ n5_ n6_ n7_ n8_; (try clear hb); (try clear hb2); (try clear hk); (try clear hi); have hcz58_0 : w57.cell? ⟨gb293, 0, none⟩ = some (.int .i64 6) := (bC BK293.out 0).trans rfl; have hcz58_1 : w57.cell? ⟨gb293, 1, none⟩ = some (.int .i64 0) := (bC BK293.out 1).trans rfl; have hcz58_2 : w57.cell? ⟨gb293, 2, none⟩ = some (.string t280) := (bC BK293.out 2).trans rfl; have hcz58_3 : w57.cell? ⟨gb293, 3, none⟩ = some (.string (⟨#[]⟩ : ByteArray)) := (bC BK293.out 3).trans rfl; have hcz58_4 : w57.cell? ⟨gb293, 4, none⟩ = some (.slice Ao47 y290.length co47) := (bC BK293.out 4).trans rfl; have hcz58_5 : w57.cell? ⟨gb293, 5, none⟩ = some (.string (⟨#[]⟩ : ByteArray)) := (bC BK293.out 5).trans rfl; have hfz58_0 := bF BK293.out 0; have hfz58_1 := bF BK293.out 1; have hfz58_2 := bF BK293.out 2; have hfz58_3 := bF BK293.out 3; have hfz58_4 := bF BK293.out 4; have hfz58_5 := bF BK293.out 5) | (go_at_call 11; (with_reducible refine (event_Check.calls k 6 0 t280 (⟨#[]⟩ : ByteArray) _ _ y290 (⟨#[]⟩ : ByteArray) t296 _ ?side1 ?side2 A16.out).mono ?_); (case side1 => repeat (first | exact (Kd.R_reads' HO292.out).2.2 | (with_reducible refine Kd.C_alloc ?_ _) | (with_reducible refine Kd.C_drewN ?_ _) | (with_reducible refine Kd.C_drew ?_))); (case side2 => exact (Kd.R_reads' HO292.out).2.1); rintro e w59 ⟨rfl, hb⟩; have n0_ := q_ (Kd.R_below (by (with_reducible repeat (first | apply Kd.R_alloc | apply Kd.R_drewN | apply Kd.R_drew)); exact HO274.out) hb); have n1_ := q_ (Kd.R_below (by (with_reducible repeat (first | apply Kd.R_alloc | apply Kd.R_drewN | apply Kd.R_drew)); exact HO284.out) hb); have n2_ := q_ (Kd.R_below (by (with_reducible repeat (first | apply Kd.R_alloc | apply Kd.R_drewN | apply Kd.R_drew)); exact HO288.out) hb); have n3_ := q_ (Kd.R_below (by (with_reducible repeat (first | apply Kd.R_alloc | apply Kd.R_drewN | apply Kd.R_drew)); exact HO292.out) hb); have n4_ := q_ (bB (g := gb277) (o := .cells #[.int .i64 t268, .int .i64 t269, .string t270, .string t271, .slice Ao29 t272.length co29, .string t275] 24 (0, 0)) (by (with_reducible repeat (first | refine bN ?_ _ | refine bW ?_ | refine bA ?_ _)); exact BK277.out) hb); have n5_ := q_ (bB (g := gb285) (o := .cells #[.int .i64 4, .int .i64 425, .string t278, .string (⟨#[]⟩ : ByteArray), .slice Ao34 y282.length co34, .string (⟨#[]⟩ : ByteArray)] 24 (0, 0)) (by (with_reducible repeat (first | refine bN ?_ _ | refine bW ?_ | refine bA ?_ _)); exact BK285.out) hb); have n6_ := q_ (bB (g := gb289) (o := .cells #[.int .i64 6, .int .i64 0, .string t280, .string (⟨#[]⟩ : ByteArray), .slice Ao40 y286.length co40, .string (⟨#[]⟩ : ByteArray)] 24 (0, 0)) (by (with_reducible repeat (first | refine bN ?_ _ | refine bW ?_ | refine bA ?_ _)); exact BK289.out) hb); have n7_ := q_ (bB (g := gb293) (o := .cells #[.int .i64 6, .int .i64 0, .string t280, .string (⟨#[]⟩ : ByteArray), .slice Ao47 y290.length co47, .string (⟨#[]⟩ : ByteArray)] 24 (0, 0)) (by (with_reducible repeat (first | refine bN ?_ _ | refine bW ?_ | refine bA ?_ _)); exact BK293.out) hb); have n8_ := q_ (pT (by repeat (first | (with_reducible first | exact HB.out | apply pA | apply pN | apply p1 | refine pS ?_ GE277.out | refine pS ?_ GE285.out | refine pS ?_ GE289.out | refine pS ?_ GE293.out) | exact HB.out)) hb); clear HO274; clear HO284; clear HO288; clear HO292; clear BK277; clear BK285; clear BK289; clear BK293; clear HB; have HO274 := n0_; have HO284 := n1_; have HO288 := n2_; have HO292 := n3_; have BK277 := n4_; have BK285 := n5_; have BK289 := n6_; have BK293 := n7_; have HB := n8_; clear n0_ n1_ n2_ n3_ n4_ n5_ n6_ n7_ n8_; (try clear hb); (try clear hb2); (try clear hk); (try clear hi)) | (go_at_call 13; (with_reducible refine (event_Name.calls 14 t297 _ A18.out).mono ?_); rintro e w60 ⟨rfl, hb⟩; have n0_ := q_ (Kd.R_below (by (with_reducible repeat (first | apply Kd.R_alloc | apply Kd.R_drewN | apply Kd.R_drew)); exact HO274.out) hb); have n1_ := q_ (Kd.R_below (by (with_reducible repeat (first | apply Kd.R_alloc | apply Kd.R_drewN | apply Kd.R_drew)); exact HO284.out) hb); have n2_ := q_ (Kd.R_below (by (with_reducible repeat (first | apply Kd.R_alloc | apply Kd.R_drewN | apply Kd.R_drew)); exact HO288.out) hb); have n3_ := q_ (Kd.R_below (by (with_reducible repeat (first | apply Kd.R_alloc | apply Kd.R_drewN | apply Kd.R_drew)); exact HO292.out) hb); have n4_ := q_ (bB (g := gb277) (o := .cells #[.int .i64 t268, .int .i64 t269, .string t270, .string t271, .slice Ao29 t272.length co29, .string t275] 24 (0, 0)) (by (with_reducible repeat (first | refine bN ?_ _ | refine bW ?_ | refine bA ?_ _)); exact BK277.out) hb); have n5_ := q_ (bB (g := gb285) (o := .cells #[.int .i64 4, .int .i64 425, .string t278, .string (⟨#[]⟩ : ByteArray), .slice Ao34 y282.length co34, .string (⟨#[]⟩ : ByteArray)] 24 (0, 0)) (by (with_reducible repeat (first | refine bN ?_ _ | refine bW ?_ | refine bA ?_ _)); exact BK285.out) hb); have n6_ := q_ (bB (g := gb289) (o := .cells #[.int .i64 6, .int .i64 0, .string t280, .string (⟨#[]⟩ : ByteArray), .slice Ao40 y286.length co40, .string (⟨#[]⟩ : ByteArray)] 24 (0, 0)) (by (with_reducible repeat (first | refine bN ?_ _ | refine bW ?_ | refine bA ?_ _)); exact BK289.out) hb); have n7_ := q_ (bB (g := gb293) (o := .cells #[.int .i64 6, .int .i64 0, .string t280, .string (⟨#[]⟩ : ByteArray), .slice Ao47 y290.length co47, .string (⟨#[]⟩ : ByteArray)] 24 (0, 0)) (by (with_reducible repeat (first | refine bN ?_ _ | refine bW ?_ | refine bA ?_ _)); exact BK293.out) hb); have n8_ := q_ (pT (by repeat (first | (with_reducible first | exact HB.out | apply pA | apply pN | apply p1 | refine pS ?_ GE277.out | refine pS ?_ GE285.out | refine pS ?_ GE289.out | refine pS ?_ GE293.out) | exact HB.out)) hb); clear HO274; clear HO284; clear HO288; clear HO292; clear BK277; clear BK285; clear BK289; clear BK293; clear HB; have HO274 := n0_; have HO284 := n1_; have HO288 := n2_; have HO292 := n3_; have BK277 := n4_; have BK285 := n5_; have BK289 := n6_; have BK293 := n7_; have HB := n8_; clear n0_ n1_ n2_ n3_ n4_ n5_ n6_ n7_ n8_; (try clear hb); (try clear hb2); (try clear hk); (try clear hi)) | (go_at_call 13; (with_reducible refine (event_Name.calls 15 t298 _ A20.out).mono ?_); rintro e w61 ⟨rfl, hb⟩; have n0_ := q_ (Kd.R_below (by (with_reducible repeat (first | apply Kd.R_alloc | apply Kd.R_drewN | apply Kd.R_drew)); exact HO274.out) hb); have n1_ := q_ (Kd.R_below (by (with_reducible repeat (first | apply Kd.R_alloc | apply Kd.R_drewN | apply Kd.R_drew)); exact HO284.out) hb); have n2_ := q_ (Kd.R_below (by (with_reducible repeat (first | apply Kd.R_alloc | apply Kd.R_drewN | apply Kd.R_drew)); exact HO288.out) hb); have n3_ := q_ (Kd.R_below (by (with_reducible repeat (first | apply Kd.R_alloc | apply Kd.R_drewN | apply Kd.R_drew)); exact HO292.out) hb); have n4_ := q_ (bB (g := gb277) (o := .cells #[.int .i64 t268, .int .i64 t269, .string t270, .string t271, .slice Ao29 t272.length co29, .string t275] 24 (0, 0)) (by (with_reducible repeat (first | refine bN ?_ _ | refine bW ?_ | refine bA ?_ _)); exact BK277.out) hb); have n5_ := q_ (bB (g := gb285) (o := .cells #[.int .i64 4, .int .i64 425, .string t278, .string (⟨#[]⟩ : ByteArray), .slice Ao34 y282.length co34, .string (⟨#[]⟩ : ByteArray)] 24 (0, 0)) (by (with_reducible repeat (first | refine bN ?_ _ | refine bW ?_ | refine bA ?_ _)); exact BK285.out) hb); have n6_ := q_ (bB (g := gb289) (o := .cells #[.int .i64 6, .int .i64 0, .string t280, .string (⟨#[]⟩ : ByteArray), .slice Ao40 y286.length co40, .string (⟨#[]⟩ : ByteArray)] 24 (0, 0)) (by (with_reducible repeat (first | refine bN ?_ _ | refine bW ?_ | refine bA ?_ _)); exact BK289.out) hb); have n7_ := q_ (bB (g := gb293) (o := .cells #[.int .i64 6, .int .i64 0, .string t280, .string (⟨#[]⟩ : ByteArray), .slice Ao47 y290.length co47, .string (⟨#[]⟩ : ByteArray)] 24 (0, 0)) (by (with_reducible repeat (first | refine bN ?_ _ | refine bW ?_ | refine bA ?_ _)); exact BK293.out) hb); have n8_ := q_ (pT (by repeat (first | (with_reducible first | exact HB.out | apply pA | apply pN | apply p1 | refine pS ?_ GE277.out | refine pS ?_ GE285.out | refine pS ?_ GE289.out | refine pS ?_ GE293.out) | exact HB.out)) hb); clear HO274; clear HO284; clear HO288; clear HO292; clear BK277; clear BK285; clear BK289; clear BK293; clear HB; have HO274 := n0_; have HO284 := n1_; have HO288 := n2_; have HO292 := n3_; have BK277 := n4_; have BK285 := n5_; have BK289 := n6_; have BK293 := n7_; have HB := n8_; clear n0_ n1_ n2_ n3_ n4_ n5_ n6_ n7_ n8_; (try clear hb); (try clear hb2); (try clear hk); (try clear hi); have hcz62_0 : w61.cell? ⟨gb285, 0, none⟩ = some (.int .i64 4) := (bC BK285.out 0).trans rfl; have hcz62_1 : w61.cell? ⟨gb285, 1, none⟩ = some (.int .i64 425) := (bC BK285.out 1).trans rfl; have hcz62_2 : w61.cell? ⟨gb285, 2, none⟩ = some (.string t278) := (bC BK285.out 2).trans rfl; have hcz62_3 : w61.cell? ⟨gb285, 3, none⟩ = some (.string (⟨#[]⟩ : ByteArray)) := (bC BK285.out 3).trans rfl; have hcz62_4 : w61.cell? ⟨gb285, 4, none⟩ = some (.slice Ao34 y282.length co34) := (bC BK285.out 4).trans rfl; have hcz62_5 : w61.cell? ⟨gb285, 5, none⟩ = some (.string (⟨#[]⟩ : ByteArray)) := (bC BK285.out 5).trans rfl; have hfz62_0 := bF BK285.out 0; have hfz62_1 := bF BK285.out 1; have hfz62_2 := bF BK285.out 2; have hfz62_3 := bF BK285.out 3; have hfz62_4 := bF BK285.out 4; have hfz62_5 := bF BK285.out 5) | (go_at_call 22; (with_reducible refine (event_Same.calls k 4 425 t278 (⟨#[]⟩ : ByteArray) _ _ y282 (⟨#[]⟩ : ByteArray) 4 425 t278 (⟨#[]⟩ : ByteArray) _ _ y282 (⟨#[]⟩ : ByteArray) true _ ?side1 ?side2 ?side3 ?side4 A22.out).mono ?_); (case side1 => repeat (first | exact (Kd.R_reads' HO284.out).2.2 | (with_reducible refine Kd.C_alloc ?_ _) | (with_reducible refine Kd.C_drewN ?_ _) | (with_reducible refine Kd.C_drew ?_))); (case side2 => exact (Kd.R_reads' HO284.out).2.1); (case side3 => repeat (first | exact (Kd.R_reads' HO284.out).2.2 | (with_reducible refine Kd.C_alloc ?_ _) | (with_reducible refine Kd.C_drewN ?_ _) | (with_reducible refine Kd.C_drew ?_))); (case side4 => exact (Kd.R_reads' HO284.out).2.1); rintro e w63 ⟨rfl, hb⟩; have n0_ := q_ (Kd.R_below (by (with_reducible repeat (first | apply Kd.R_alloc | apply Kd.R_drewN | apply Kd.R_drew)); exact HO274.out) hb); have n1_ := q_ (Kd.R_below (by (with_reducible repeat (first | apply Kd.R_alloc | apply Kd.R_drewN | apply Kd.R_drew)); exact HO284.out) hb); have n2_ := q_ (Kd.R_below (by (with_reducible repeat (first | apply Kd.R_alloc | apply Kd.R_drewN | apply Kd.R_drew)); exact HO288.out) hb); have n3_ := q_ (Kd.R_below (by (with_reducible repeat (first | apply Kd.R_alloc | apply Kd.R_drewN | apply Kd.R_drew)); exact HO292.out) hb); have n4_ := q_ (bB (g := gb277) (o := .cells #[.int .i64 t268, .int .i64 t269, .string t270, .string t271, .slice Ao29 t272.length co29, .string t275] 24 (0, 0)) (by (with_reducible repeat (first | refine bN ?_ _ | refine bW ?_ | refine bA ?_ _)); exact BK277.out) hb); have n5_ := q_ (bB (g := gb285) (o := .cells #[.int .i64 4, .int .i64 425, .string t278, .string (⟨#[]⟩ : ByteArray), .slice Ao34 y282.length co34, .string (⟨#[]⟩ : ByteArray)] 24 (0, 0)) (by (with_reducible repeat (first | refine bN ?_ _ | refine bW ?_ | refine bA ?_ _)); exact BK285.out) hb); have n6_ := q_ (bB (g := gb289) (o := .cells #[.int .i64 6, .int .i64 0, .string t280, .string (⟨#[]⟩ : ByteArray), .slice Ao40 y286.length co40, .string (⟨#[]⟩ : ByteArray)] 24 (0, 0)) (by (with_reducible repeat (first | refine bN ?_ _ | refine bW ?_ | refine bA ?_ _)); exact BK289.out) hb); have n7_ := q_ (bB (g := gb293) (o := .cells #[.int .i64 6, .int .i64 0, .string t280, .string (⟨#[]⟩ : ByteArray), .slice Ao47 y290.length co47, .string (⟨#[]⟩ : ByteArray)] 24 (0, 0)) (by (with_reducible repeat (first | refine bN ?_ _ | refine bW ?_ | refine bA ?_ _)); exact BK293.out) hb); have n8_ := q_ (pT (by repeat (first | (with_reducible first | exact HB.out | apply pA | apply pN | apply p1 | refine pS ?_ GE277.out | refine pS ?_ GE285.out | refine pS ?_ GE289.out | refine pS ?_ GE293.out) | exact HB.out)) hb); clear HO274; clear HO284; clear HO288; clear HO292; clear BK277; clear BK285; clear BK289; clear BK293; clear HB; have HO274 := n0_; have HO284 := n1_; have HO288 := n2_; have HO292 := n3_; have BK277 := n4_; have BK285 := n5_; have BK289 := n6_; have BK293 := n7_; have HB := n8_; clear n0_ n1_ n2_ n3_ n4_ n5_ n6_ n7_ n8_; (try clear hb); (try clear hb2); (try clear hk); (try clear hi); have hcz64_0 : w63.cell? ⟨gb285, 0, none⟩ = some (.int .i64 4) := (bC BK285.out 0).trans rfl; have hcz64_1 : w63.cell? ⟨gb285, 1, none⟩ = some (.int .i64 425) := (bC BK285.out 1).trans rfl; have hcz64_2 : w63.cell? ⟨gb285, 2, none⟩ = some (.string t278) := (bC BK285.out 2).trans rfl; have hcz64_3 : w63.cell? ⟨gb285, 3, none⟩ = some (.string (⟨#[]⟩ : ByteArray)) := (bC BK285.out 3).trans rfl; have hcz64_4 : w63.cell? ⟨gb285, 4, none⟩ = some (.slice Ao34 y282.length co34) := (bC BK285.out 4).trans rfl; have hcz64_5 : w63.cell? ⟨gb285, 5, none⟩ = some (.string (⟨#[]⟩ : ByteArray)) := (bC BK285.out 5).trans rfl; have hfz64_0 := bF BK285.out 0; have hfz64_1 := bF BK285.out 1; have hfz64_2 := bF BK285.out 2; have hfz64_3 := bF BK285.out 3; have hfz64_4 := bF BK285.out 4; have hfz64_5 := bF BK285.out 5; have hcz65_0 : w63.cell? ⟨gb289, 0, none⟩ = some (.int .i64 6) := (bC BK289.out 0).trans rfl; have hcz65_1 : w63.cell? ⟨gb289, 1, none⟩ = some (.int .i64 0) := (bC BK289.out 1).trans rfl; have hcz65_2 : w63.cell? ⟨gb289, 2, none⟩ = some (.string t280) := (bC BK289.out 2).trans rfl; have hcz65_3 : w63.cell? ⟨gb289, 3, none⟩ = some (.string (⟨#[]⟩ : ByteArray)) := (bC BK289.out 3).trans rfl; have hcz65_4 : w63.cell? ⟨gb289, 4, none⟩ = some (.slice Ao40 y286.length co40) := (bC BK289.out 4).trans rfl; have hcz65_5 : w63.cell? ⟨gb289, 5, none⟩ = some (.string (⟨#[]⟩ : ByteArray)) := (bC BK289.out 5).trans rfl; have hfz65_0 := bF BK289.out 0; have hfz65_1 := bF BK289.out 1; have hfz65_2 := bF BK289.out 2; have hfz65_3 := bF BK289.out 3; have hfz65_4 := bF BK289.out 4; have hfz65_5 := bF BK289.out 5) | (go_at_call 22; (with_reducible refine (event_Same.calls k 4 425 t278 (⟨#[]⟩ : ByteArray) _ _ y282 (⟨#[]⟩ : ByteArray) 6 0 t280 (⟨#[]⟩ : ByteArray) _ _ y286 (⟨#[]⟩ : ByteArray) t300 _ ?side1 ?side2 ?side3 ?side4 A24.out).mono ?_); (case side1 => repeat (first | exact (Kd.R_reads' HO284.out).2.2 | (with_reducible refine Kd.C_alloc ?_ _) | (with_reducible refine Kd.C_drewN ?_ _) | (with_reducible refine Kd.C_drew ?_))); (case side2 => exact (Kd.R_reads' HO284.out).2.1); (case side3 => repeat (first | exact (Kd.R_reads' HO288.out).2.2 | (with_reducible refine Kd.C_alloc ?_ _) | (with_reducible refine Kd.C_drewN ?_ _) | (with_reducible refine Kd.C_drew ?_))); (case side4 => exact (Kd.R_reads' HO288.out).2.1); rintro e w66 ⟨rfl, hb⟩; have n0_ := q_ (Kd.R_below (by (with_reducible repeat (first | apply Kd.R_alloc | apply Kd.R_drewN | apply Kd.R_drew)); exact HO274.out) hb); have n1_ := q_ (Kd.R_below (by (with_reducible repeat (first | apply Kd.R_alloc | apply Kd.R_drewN | apply Kd.R_drew)); exact HO284.out) hb); have n2_ := q_ (Kd.R_below (by (with_reducible repeat (first | apply Kd.R_alloc | apply Kd.R_drewN | apply Kd.R_drew)); exact HO288.out) hb); have n3_ := q_ (Kd.R_below (by (with_reducible repeat (first | apply Kd.R_alloc | apply Kd.R_drewN | apply Kd.R_drew)); exact HO292.out) hb); have n4_ := q_ (bB (g := gb277) (o := .cells #[.int .i64 t268, .int .i64 t269, .string t270, .string t271, .slice Ao29 t272.length co29, .string t275] 24 (0, 0)) (by (with_reducible repeat (first | refine bN ?_ _ | refine bW ?_ | refine bA ?_ _)); exact BK277.out) hb); have n5_ := q_ (bB (g := gb285) (o := .cells #[.int .i64 4, .int .i64 425, .string t278, .string (⟨#[]⟩ : ByteArray), .slice Ao34 y282.length co34, .string (⟨#[]⟩ : ByteArray)] 24 (0, 0)) (by (with_reducible repeat (first | refine bN ?_ _ | refine bW ?_ | refine bA ?_ _)); exact BK285.out) hb); have n6_ := q_ (bB (g := gb289) (o := .cells #[.int .i64 6, .int .i64 0, .string t280, .string (⟨#[]⟩ : ByteArray), .slice Ao40 y286.length co40, .string (⟨#[]⟩ : ByteArray)] 24 (0, 0)) (by (with_reducible repeat (first | refine bN ?_ _ | refine bW ?_ | refine bA ?_ _)); exact BK289.out) hb); have n7_ := q_ (bB (g := gb293) (o := .cells #[.int .i64 6, .int .i64 0, .string t280, .string (⟨#[]⟩ : ByteArray), .slice Ao47 y290.length co47, .string (⟨#[]⟩ : ByteArray)] 24 (0, 0)) (by (with_reducible repeat (first | refine bN ?_ _ | refine bW ?_ | refine bA ?_ _)); exact BK293.out) hb); have n8_ := q_ (pT (by repeat (first | (with_reducible first | exact HB.out | apply pA | apply pN | apply p1 | refine pS ?_ GE277.out | refine pS ?_ GE285.out | refine pS ?_ GE289.out | refine pS ?_ GE293.out) | exact HB.out)) hb); clear HO274; clear HO284; clear HO288; clear HO292; clear BK277; clear BK285; clear BK289; clear BK293; clear HB; have HO274 := n0_; have HO284 := n1_; have HO288 := n2_; have HO292 := n3_; have BK277 := n4_; have BK285 := n5_; have BK289 := n6_; have BK293 := n7_; have HB := n8_; clear n0_ n1_ n2_ n3_ n4_ n5_ n6_ n7_ n8_; (try clear hb); (try clear hb2); (try clear hk); (try clear hi)))
              go_ret
              exact ⟨by first | rfl | (simp [*] <;> rfl), by repeat (first | (with_reducible first | exact HB.out | apply pA | apply pN | apply p1 | refine pS ?_ GE277.out | refine pS ?_ GE285.out | refine pS ?_ GE289.out | refine pS ?_ GE293.out) | exact HB.out)⟩
             ·replace c23 := Bool.eq_false_iff.mpr c23
              subst c23
              have H1 : (none) = some r := by rw [if_neg (show ¬ (false = true) by decide)] at H; exact H
              clear H
              have H := H1
              clear H1
              exact absurd H (by simp)
            ·rw [if_neg c21] at H
             exact absurd H (by simp)
           ·rw [if_neg c19] at H
            exact absurd H (by simp)
          ·rw [if_neg c17] at H
           exact absurd H (by simp)
         ·rw [if_neg c15] at H
          exact absurd H (by simp)
        ·rw [if_neg c13] at H
         exact absurd H (by simp)
       ·rw [if_neg c12] at H
        exact absurd H (by simp)
      ·rw [if_neg c11] at H
       exact absurd H (by simp)
     ·rw [if_neg c9] at H
      exact absurd H (by simp)
    ·rw [if_neg c8] at H
     exact absurd H (by simp)
   ·rw [if_neg c7] at H
    exact absurd H (by simp)
  ·rw [if_neg c6] at H
   exact absurd H (by simp)
 ·rw [if_neg c5] at H
  exact absurd H (by simp)
def sawmillref07_IsTime.f (a0 : Int) : Option (Bool) := if a0 ≥ 0 then (some (decide (a0 ≤ 10000000))) else (some false)
set_option maxHeartbeats 8000000 in
set_option maxRecDepth 100000 in
theorem sawmillref07_IsTime.calls (a0 : Int) (r : Bool) (w : World) (h : sawmillref07_IsTime.f a0 = some r) :
  Calls Tryd.prog 26 #[.int .i64 a0] w fun e w' => e = .returned (.bool r) ∧ Drawn0 w w' := by
 have H : (if a0 ≥ 0 then (some (decide (a0 ≤ 10000000))) else (some false)) = some r := h
 clear h
 by_cases c2 : a0 ≥ 0
 ·rw [if_pos c2] at H
  have c2b0 : decide (0 ≤ a0) = true := decide_eq_true c2
  clear c2
  obtain rfl := Option.some.inj H
  go_enter Tryd.func26, Tryd.ntmps26
  go_wp2
  go_ret
  exact ⟨by first | rfl | (simp; done) | (simp [*]; done), by repeat (first | exact Drawn0.refl _ | apply Drawn0.step)⟩
 ·rw [if_neg c2] at H
  have c2b0 : decide (0 ≤ a0) = false := decide_eq_false c2
  clear c2
  obtain rfl := Option.some.inj H
  go_enter Tryd.func26, Tryd.ntmps26
  go_wp2
  go_ret
  exact ⟨by first | rfl | (simp; done) | (simp [*]; done), by repeat (first | exact Drawn0.refl _ | apply Drawn0.step)⟩
end Go.Proofs.YtbahagcidhmojaaDoor.PA
namespace Go.Proofs.YtbahagcidhmojaaDoor.PA
open Go.RowKit Go.Proofs.YtbahagcidhmojaaDoorW.PrintWords Go.Proofs.YtbahagcidhmojaaDoorW.PrintLast Go.Proofs.YtbahagcidhmojaaDoorW.PrintMore
attribute [local go_sem] max2_int min2_int max_two min_two max_three min_three max_four min_four
set_option linter.unusedVariables false
set_option linter.unusedSimpArgs false
mutual
def sawmillref58_codes.j0 : Nat → Int → Bool → Option (Int × Int)
 | 0, _, _ => none
 | k + 1, x4, x9 => if x9 = true then (some (76, 0)) else (if x4 = 5 then (some (75, 0)) else (if x4 = 6 then (some (67, 0)) else (if x4 = 7 then (sawmillref58_codes.j1 k x4 (x4 == 7)) else (if x4 = 13 then (sawmillref58_codes.j1 k x4 (x4 == 13)) else (sawmillref58_codes.j1 k x4 (x4 == 14))))))
def sawmillref58_codes.j1 : Nat → Int → Bool → Option (Int × Int)
 | 0, _, _ => none
 | k + 1, x4, x16 => if x16 = true then (some (66, 0)) else (if x4 = 8 then (some (79, 0)) else (if x4 = 10 then (some (79, 0)) else (some (0, 0))))
end
def sawmillref58_codes.f (k : Nat) (a0 : Int) : Option (Int × Int) := if a0 = 1 then (some (80, 0)) else (if a0 = 2 then (some (76, 80)) else (if a0 = 3 then (sawmillref58_codes.j0 k a0 (a0 == 3)) else (sawmillref58_codes.j0 k a0 (a0 == 4))))
set_option maxHeartbeats 8000000 in
set_option maxRecDepth 100000 in
theorem sawmillref58_codes.calls (k : Nat) (a0 : Int) (r1 : Int) (r2 : Int) (w : World) (h : sawmillref58_codes.f k a0 = some (r1, r2)) :
  Calls Tryd.prog 27 #[.int .i64 a0] w fun e w' => e = .returned (.tuple #[.int .u8 r1, .int .u8 r2]) ∧ Drawn0 w w' := by
 have H : (if a0 = 1 then (some (80, 0)) else (if a0 = 2 then (some (76, 80)) else (if a0 = 3 then (sawmillref58_codes.j0 k a0 (a0 == 3)) else (sawmillref58_codes.j0 k a0 (a0 == 4))))) = some (r1, r2) := h
 clear h
 by_cases c2 : a0 = 1
 ·rw [if_pos c2] at H
  have c2b0 : (a0 == 1) = true := beq_iff_eq.mpr c2
  have c2b1 : (a0 != 1) = false := oD c2
  clear c2
  simp only [Option.some.injEq, Prod.mk.injEq] at H
  obtain ⟨rfl, rfl⟩ := H
  go_enter Tryd.func27, Tryd.ntmps27
  go_wp2
  go_ret2
  exact ⟨by first | rfl | (simp; done) | (simp [*]; done), by repeat (first | exact Drawn0.refl _ | apply Drawn0.step)⟩
 ·rw [if_neg c2] at H
  have c2b0 : (a0 == 1) = false := oC c2
  have c2b1 : (a0 != 1) = true := bne_iff_ne.mpr c2
  by_cases c3 : a0 = 2
  ·rw [if_pos c3] at H
   have c3b0 : (a0 == 2) = true := beq_iff_eq.mpr c3
   have c3b1 : (a0 != 2) = false := oD c3
   clear c3
   simp only [Option.some.injEq, Prod.mk.injEq] at H
   obtain ⟨rfl, rfl⟩ := H
   go_enter Tryd.func27, Tryd.ntmps27
   go_wp2
   go_ret2
   exact ⟨by first | rfl | (simp; done) | (simp [*]; done), by repeat (first | exact Drawn0.refl _ | apply Drawn0.step)⟩
  ·rw [if_neg c3] at H
   have c3b0 : (a0 == 2) = false := oC c3
   have c3b1 : (a0 != 2) = true := bne_iff_ne.mpr c3
   have HC4 := Aside0.mk H
   clear H
   go_enter Tryd.func27, Tryd.ntmps27
   go_upto_if 9 with (fail)
   go_cut [9] (fun v9 wc => ∃ (kq : Nat) (x9_3 : Bool), v9 = .bool x9_3 ∧ Aside0 (sawmillref58_codes.j0 kq a0 x9_3 = some (r1, r2)) ∧ Aside0 (kq ≤ k) ∧ Drawn0 w wc)
   case first =>
    have H := HC4.out
    clear HC4
    by_cases c5 : a0 = 3
    ·rw [if_pos c5] at H
     have c5b0 : (a0 == 3) = true := beq_iff_eq.mpr c5
     have c5b1 : (a0 != 3) = false := oD c5
     clear c5
     (first | rw [c5b0] | (simp only [i64_w, i32_w]; rw [c5b0]) | skip)
     have H' := Aside0.mk H
     clear H
     go_wp2
     go_meet
     case rel => exact ⟨_, ((a0 == 3)), (by first | rfl | (simp; done) | (simp [*]; done)), H', ⟨by first | omega | exact Nat.le_refl _⟩, by repeat (first | exact Drawn0.refl _ | apply Drawn0.step)⟩
    ·rw [if_neg c5] at H
     have c5b0 : (a0 == 3) = false := oC c5
     have c5b1 : (a0 != 3) = true := bne_iff_ne.mpr c5
     (first | rw [c5b0] | (simp only [i64_w, i32_w]; rw [c5b0]) | skip)
     have H' := Aside0.mk H
     clear H
     go_wp2
     go_meet
     case rel => exact ⟨_, ((a0 == 4)), (by first | rfl | (simp; done) | (simp [*]; done)), H', ⟨by first | omega | exact Nat.le_refl _⟩, by repeat (first | exact Drawn0.refl _ | apply Drawn0.step)⟩
   case rest =>
    clear HC4
    try clear c2
    try clear c2b0
    try clear c2b1
    try clear p2
    try clear c3
    try clear c3b0
    try clear c3b1
    try clear c5
    try clear c5b0
    try clear c5b1
    obtain ⟨kq, x9_3, rfl, HA, HJ3, ⟨mc3, rfl⟩⟩ := hcut
    cases kq with
    | zero => exact absurd HA.out (by simp [sawmillref58_codes.j0])
    | succ kj3 =>
     have H := HA.out
     clear HA
     simp only [sawmillref58_codes.j0] at H
     by_cases c6 : x9_3 = true
     ·subst c6
      have H1 : (some (76, 0)) = some (r1, r2) := by rw [if_pos rfl] at H; exact H
      clear H
      have H := H1
      clear H1
      simp only [Option.some.injEq, Prod.mk.injEq] at H
      obtain ⟨rfl, rfl⟩ := H
      go_wp2
      go_ret2
      exact ⟨by first | rfl | (simp; done) | (simp [*]; done), by repeat (first | exact Drawn0.refl _ | apply Drawn0.step)⟩
     ·replace c6 := Bool.eq_false_iff.mpr c6
      subst c6
      have H1 : (if a0 = 5 then (some (75, 0)) else (if a0 = 6 then (some (67, 0)) else (if a0 = 7 then (sawmillref58_codes.j1 kj3 a0 (a0 == 7)) else (if a0 = 13 then (sawmillref58_codes.j1 kj3 a0 (a0 == 13)) else (sawmillref58_codes.j1 kj3 a0 (a0 == 14)))))) = some (r1, r2) := by rw [if_neg (show ¬ (false = true) by decide)] at H; exact H
      clear H
      have H := H1
      clear H1
      by_cases c7 : a0 = 5
      ·rw [if_pos c7] at H
       have c7b0 : (a0 == 5) = true := beq_iff_eq.mpr c7
       have c7b1 : (a0 != 5) = false := oD c7
       clear c7
       simp only [Option.some.injEq, Prod.mk.injEq] at H
       obtain ⟨rfl, rfl⟩ := H
       go_wp2
       go_ret2
       exact ⟨by first | rfl | (simp; done) | (simp [*]; done), by repeat (first | exact Drawn0.refl _ | apply Drawn0.step)⟩
      ·rw [if_neg c7] at H
       have c7b0 : (a0 == 5) = false := oC c7
       have c7b1 : (a0 != 5) = true := bne_iff_ne.mpr c7
       by_cases c8 : a0 = 6
       ·rw [if_pos c8] at H
        have c8b0 : (a0 == 6) = true := beq_iff_eq.mpr c8
        have c8b1 : (a0 != 6) = false := oD c8
        clear c8
        simp only [Option.some.injEq, Prod.mk.injEq] at H
        obtain ⟨rfl, rfl⟩ := H
        go_wp2
        go_ret2
        exact ⟨by first | rfl | (simp; done) | (simp [*]; done), by repeat (first | exact Drawn0.refl _ | apply Drawn0.step)⟩
       ·rw [if_neg c8] at H
        have c8b0 : (a0 == 6) = false := oC c8
        have c8b1 : (a0 != 6) = true := bne_iff_ne.mpr c8
        have HC9 := Aside0.mk H
        clear H
        go_upto_if 16 with (fail)
        go_cut [16] (fun v16 wc => ∃ (kq : Nat) (x16_8 : Bool), v16 = .bool x16_8 ∧ Aside0 (sawmillref58_codes.j1 kq a0 x16_8 = some (r1, r2)) ∧ Aside0 (kq ≤ kj3) ∧ Drawn0 w wc)
        case first =>
         have H := HC9.out
         clear HC9
         by_cases c10 : a0 = 7
         ·rw [if_pos c10] at H
          have c10b0 : (a0 == 7) = true := beq_iff_eq.mpr c10
          have c10b1 : (a0 != 7) = false := oD c10
          clear c10
          (first | rw [c10b0] | (simp only [i64_w, i32_w]; rw [c10b0]) | skip)
          have H' := Aside0.mk H
          clear H
          go_wp2
          go_meet
          case rel => exact ⟨_, ((a0 == 7)), (by first | rfl | (simp; done) | (simp [*]; done)), H', ⟨by have := HJ3.out; first | omega | exact Nat.le_refl _⟩, by repeat (first | exact Drawn0.refl _ | apply Drawn0.step)⟩
         ·rw [if_neg c10] at H
          have c10b0 : (a0 == 7) = false := oC c10
          have c10b1 : (a0 != 7) = true := bne_iff_ne.mpr c10
          (first | rw [c10b0] | (simp only [i64_w, i32_w]; rw [c10b0]) | skip)
          by_cases c11 : a0 = 13
          ·rw [if_pos c11] at H
           have c11b0 : (a0 == 13) = true := beq_iff_eq.mpr c11
           have c11b1 : (a0 != 13) = false := oD c11
           clear c11
           have H' := Aside0.mk H
           clear H
           go_wp2
           go_meet
           case rel => exact ⟨_, ((a0 == 13)), (by first | rfl | (simp; done) | (simp [*]; done)), H', ⟨by have := HJ3.out; first | omega | exact Nat.le_refl _⟩, by repeat (first | exact Drawn0.refl _ | apply Drawn0.step)⟩
          ·rw [if_neg c11] at H
           have c11b0 : (a0 == 13) = false := oC c11
           have c11b1 : (a0 != 13) = true := bne_iff_ne.mpr c11
           have H' := Aside0.mk H
           clear H
           go_wp2
           go_meet
           case rel => exact ⟨_, ((a0 == 14)), (by first | rfl | (simp; done) | (simp [*]; done)), H', ⟨by have := HJ3.out; first | omega | exact Nat.le_refl _⟩, by repeat (first | exact Drawn0.refl _ | apply Drawn0.step)⟩
        case rest =>
         clear HC9
         try clear c1
         try clear c2
         try clear c2b0
         try clear c2b1
         try clear p2
         try clear c3
         try clear c3b0
         try clear c3b1
         try clear c5
         try clear c5b0
         try clear c5b1
         try clear c6
         try clear c7
         try clear c7b0
         try clear c7b1
         try clear c8
         try clear c8b0
         try clear c8b1
         try clear c10
         try clear c10b0
         try clear c10b1
         try clear c11
         try clear c11b0
         try clear c11b1
         try clear p2
         obtain ⟨kq, x16_8, rfl, HA, HJ8, ⟨mc8, rfl⟩⟩ := hcut
         cases kq with
         | zero => exact absurd HA.out (by simp [sawmillref58_codes.j1])
         | succ kj8 =>
          have H := HA.out
          clear HA
          simp only [sawmillref58_codes.j1] at H
          by_cases c12 : x16_8 = true
          ·subst c12
           have H1 : (some (66, 0)) = some (r1, r2) := by rw [if_pos rfl] at H; exact H
           clear H
           have H := H1
           clear H1
           simp only [Option.some.injEq, Prod.mk.injEq] at H
           obtain ⟨rfl, rfl⟩ := H
           go_wp2
           go_ret2
           exact ⟨by first | rfl | (simp; done) | (simp [*]; done), by repeat (first | exact Drawn0.refl _ | apply Drawn0.step)⟩
          ·replace c12 := Bool.eq_false_iff.mpr c12
           subst c12
           have H1 : (if a0 = 8 then (some (79, 0)) else (if a0 = 10 then (some (79, 0)) else (some (0, 0)))) = some (r1, r2) := by rw [if_neg (show ¬ (false = true) by decide)] at H; exact H
           clear H
           have H := H1
           clear H1
           by_cases c13 : a0 = 8
           ·rw [if_pos c13] at H
            have c13b0 : (a0 == 8) = true := beq_iff_eq.mpr c13
            have c13b1 : (a0 != 8) = false := oD c13
            clear c13
            simp only [Option.some.injEq, Prod.mk.injEq] at H
            obtain ⟨rfl, rfl⟩ := H
            go_wp2
            go_ret2
            exact ⟨by first | rfl | (simp; done) | (simp [*]; done), by repeat (first | exact Drawn0.refl _ | apply Drawn0.step)⟩
           ·rw [if_neg c13] at H
            have c13b0 : (a0 == 8) = false := oC c13
            have c13b1 : (a0 != 8) = true := bne_iff_ne.mpr c13
            by_cases c14 : a0 = 10
            ·rw [if_pos c14] at H
             have c14b0 : (a0 == 10) = true := beq_iff_eq.mpr c14
             have c14b1 : (a0 != 10) = false := oD c14
             clear c14
             simp only [Option.some.injEq, Prod.mk.injEq] at H
             obtain ⟨rfl, rfl⟩ := H
             go_wp2
             go_ret2
             exact ⟨by first | rfl | (simp; done) | (simp [*]; done), by repeat (first | exact Drawn0.refl _ | apply Drawn0.step)⟩
            ·rw [if_neg c14] at H
             have c14b0 : (a0 == 10) = false := oC c14
             have c14b1 : (a0 != 10) = true := bne_iff_ne.mpr c14
             simp only [Option.some.injEq, Prod.mk.injEq] at H
             obtain ⟨rfl, rfl⟩ := H
             go_wp2
             go_ret2
             exact ⟨by first | rfl | (simp; done) | (simp [*]; done), by repeat (first | exact Drawn0.refl _ | apply Drawn0.step)⟩
def sawmillref02_digit.f (a0 : Int) : Option (Bool) := if a0 ≥ 48 then (some (decide (a0 ≤ 57))) else (some false)
set_option maxHeartbeats 8000000 in
set_option maxRecDepth 100000 in
theorem sawmillref02_digit.calls (a0 : Int) (r : Bool) (w : World) (h : sawmillref02_digit.f a0 = some r) :
  Calls Tryd.prog 85 #[.int .u8 a0] w fun e w' => e = .returned (.bool r) ∧ Drawn0 w w' := by
 have H : (if a0 ≥ 48 then (some (decide (a0 ≤ 57))) else (some false)) = some r := h
 clear h
 by_cases c2 : a0 ≥ 48
 ·rw [if_pos c2] at H
  have c2b0 : decide (48 ≤ a0) = true := decide_eq_true c2
  clear c2
  obtain rfl := Option.some.inj H
  go_enter Tryd.func85, Tryd.ntmps85
  go_wp2
  go_ret
  exact ⟨by first | rfl | (simp; done) | (simp [*]; done), by repeat (first | exact Drawn0.refl _ | apply Drawn0.step)⟩
 ·rw [if_neg c2] at H
  have c2b0 : decide (48 ≤ a0) = false := decide_eq_false c2
  clear c2
  obtain rfl := Option.some.inj H
  go_enter Tryd.func85, Tryd.ntmps85
  go_wp2
  go_ret
  exact ⟨by first | rfl | (simp; done) | (simp [*]; done), by repeat (first | exact Drawn0.refl _ | apply Drawn0.step)⟩
def sawmillref02_Split.l0 : Nat → ByteArray → Int → Int → Option (Int × Int × Int)
 | 0, _, _, _ => none
 | k + 1, x0, x5, x6 => if x6 < 7 then (if 0 ≤ x6 then (if x6 < (x0.size : Int) then ((sawmillref02_digit.f (bt x0 x6)).bind fun t302 => (if t302 = true then (sawmillref02_Split.l0 k x0 (wrap64 ((wrap64 (10 * x5)) + (((bt x0 x6) - 48) % 256))) (wrap64 (x6 + 1))) else (some (0, 0, 5)))) else (none)) else (none)) else (if 7 < (x0.size : Int) then (if 7 ≤ (x0.size : Int) then ((sawmillref02_Letter.f k (x0.extract 0 7)).bind fun t303 => (if (bt x0 7) = t303 then (if 0 < (x0.size : Int) then (some (bt x0 0, x5, 0)) else (none)) else (some (0, 0, 16)))) else (none)) else (none))
def sawmillref02_Split.f (k : Nat) (a0 : ByteArray) : Option (Int × Int × Int) := if (a0.size : Int) = 8 then (if 0 < (a0.size : Int) then ((sawmillref02_capital.f (bt a0 0)).bind fun t301 => (if t301 = true then (sawmillref02_Split.l0 k a0 0 1) else (some (0, 0, 10)))) else (none)) else (some (0, 0, 3))
set_option maxHeartbeats 8000000 in
set_option maxRecDepth 100000 in
theorem sawmillref02_Split.calls (k : Nat) (a0 : ByteArray) (r1 : Int) (r2 : Int) (r3 : Int) (w : World) (h : sawmillref02_Split.f k a0 = some (r1, r2, r3)) :
  Calls Tryd.prog 75 #[.string a0] w fun e w' => e = .returned (.tuple #[.int .u8 r1, .int .i64 r2, .int .i64 r3]) ∧ Drawn0 w w' := by
 have H : (if (a0.size : Int) = 8 then (if 0 < (a0.size : Int) then ((sawmillref02_capital.f (bt a0 0)).bind fun t301 => (if t301 = true then (sawmillref02_Split.l0 k a0 0 1) else (some (0, 0, 10)))) else (none)) else (some (0, 0, 3))) = some (r1, r2, r3) := h
 clear h
 by_cases c2 : (a0.size : Int) = 8
 ·rw [if_pos c2] at H
  have c2b0 : ((a0.size : Int) == 8) = true := beq_iff_eq.mpr c2
  have c2b1 : ((a0.size : Int) != 8) = false := oD c2
  clear c2
  by_cases c3 : 0 < (a0.size : Int)
  ·rw [if_pos c3] at H
   have c3b0 : decide (0 < (a0.size : Int)) = true := decide_eq_true c3
   have c3b1 : decide (0 < a0.size) = true := decide_eq_true (by omega)
   clear c3
   replace H := oB H
   obtain ⟨t301, A50, H⟩ := H
   replace H : (if t301 = true then (sawmillref02_Split.l0 k a0 0 1) else (some (0, 0, 10))) = some (r1, r2, r3) := H
   have A5 := Aside0.mk A50
   clear A50
   by_cases c6 : t301 = true
   ·subst c6
    have H1 : (sawmillref02_Split.l0 k a0 0 1) = some (r1, r2, r3) := by rw [if_pos rfl] at H; exact H
    clear H
    have H := H1
    clear H1
    have H' := Aside0.mk H
    clear H
    have p4 : 0 ≤ (0 : Int) := (by omega)
    have q4 : 0 < a0.size := (by have : (0 : Int) < (a0.size : Int) := of_decide_eq_true (by first | (with_reducible assumption) | assumption); omega)
    have hx4 : ∀ h : 0 < a0.size, ((a0[0]'h).toNat : Int) = bt a0 0 := bt_at a0 0
    clear p4
    have qi4 : (0 < (a0.size : Int)) = True := eq_true (of_decide_eq_true (by first | (with_reducible assumption) | assumption))
    replace q4 := eq_true q4
    go_enter Tryd.func75, Tryd.ntmps75
    go_wp2_with (first | (go_at_call 50; (with_reducible refine (sawmillref02_capital.calls (bt a0 0) true _ A5.out).mono ?_); rintro e w' ⟨rfl, ⟨nd, rfl⟩⟩; (try first | exact ⟨rfl, _, World.drewN_drewN _ _ _⟩ | exact ⟨rfl, _, Eq.trans (World.drewN_drewN _ _ _) (congrArg (World.drewN _) (Nat.add_assoc _ _ _))⟩)))
    repeat (go_quiet (first | (go_at_call 50; (with_reducible refine (sawmillref02_capital.calls (bt a0 0) true _ A5.out).mono ?_); rintro e w' ⟨rfl, ⟨nd, rfl⟩⟩; (try first | exact ⟨rfl, _, World.drewN_drewN _ _ _⟩ | exact ⟨rfl, _, Eq.trans (World.drewN_drewN _ _ _) (congrArg (World.drewN _) (Nat.add_assoc _ _ _))⟩))); try go_wp2_with (first | (go_at_call 50; (with_reducible refine (sawmillref02_capital.calls (bt a0 0) true _ A5.out).mono ?_); rintro e w' ⟨rfl, ⟨nd, rfl⟩⟩; (try first | exact ⟨rfl, _, World.drewN_drewN _ _ _⟩ | exact ⟨rfl, _, Eq.trans (World.drewN_drewN _ _ _) (congrArg (World.drewN _) (Nat.add_assoc _ _ _))⟩))))
    go_loopg [5, 6] k (fun kq v5 v6 w' => ∃ (x5_1 : Int) (x6_1 : Int), v5 = .int .i64 x5_1 ∧ v6 = .int .i64 x6_1 ∧ Aside0 (sawmillref02_Split.l0 kq a0 x5_1 x6_1 = some (r1, r2, r3)) ∧ Aside0 (kq ≤ k) ∧ Drawn0 w w')
    case atStart => exact ⟨(0), (1), (by first | rfl | (simp; done) | (simp [*]; done)), (by first | rfl | (simp; done) | (simp [*]; done)), H', ⟨Nat.le_refl _⟩, by repeat (first | exact Drawn0.refl _ | apply Drawn0.step)⟩
    case round =>
     clear H'
     try clear c2
     try clear c2b0
     try clear c2b1
     try clear p2
     try clear c3
     try clear c3b0
     try clear c3b1
     try clear p4
     try clear q4
     try clear hx4
     try clear qi4
     try clear c6
     try clear p4
     try clear q4
     obtain ⟨x5_1, x6_1, rfl, rfl, HA, HK1, ⟨m1, rfl⟩⟩ := hrel
     cases gk with
     | zero => exact absurd HA.out (by simp [sawmillref02_Split.l0])
     | succ k1 =>
      have H := HA.out
      clear HA
      simp only [sawmillref02_Split.l0] at H
      by_cases c7 : x6_1 < 7
      ·rw [if_pos c7] at H
       have c7b0 : decide (x6_1 < 7) = true := decide_eq_true c7
       clear c7
       by_cases c8 : 0 ≤ x6_1
       ·rw [if_pos c8] at H
        have c8b0 : decide (0 ≤ x6_1) = true := decide_eq_true c8
        clear c8
        by_cases c9 : x6_1 < (a0.size : Int)
        ·rw [if_pos c9] at H
         have c9b0 : decide (x6_1 < (a0.size : Int)) = true := decide_eq_true c9
         clear c9
         replace H := oB H
         obtain ⟨t302, A110, H⟩ := H
         replace H : (if t302 = true then (sawmillref02_Split.l0 k1 a0 (wrap64 ((wrap64 (10 * x5_1)) + (((bt a0 x6_1) - 48) % 256))) (wrap64 (x6_1 + 1))) else (some (0, 0, 5))) = some (r1, r2, r3) := H
         have A11 := Aside0.mk A110
         clear A110
         by_cases c12 : t302 = true
         ·subst c12
          have H1 : (sawmillref02_Split.l0 k1 a0 (wrap64 ((wrap64 (10 * x5_1)) + (((bt a0 x6_1) - 48) % 256))) (wrap64 (x6_1 + 1))) = some (r1, r2, r3) := by rw [if_pos rfl] at H; exact H
          clear H
          have H := H1
          clear H1
          have H' := Aside0.mk H
          clear H
          have p10 : 0 ≤ (x6_1 : Int) := of_decide_eq_true (by first | (with_reducible assumption) | assumption)
          have q10 : x6_1 < (a0.size : Int) := of_decide_eq_true (by first | (with_reducible assumption) | assumption)
          have hx10 := bt_at a0 x6_1
          replace p10 := eq_true p10
          replace q10 := eq_true q10
          go_wp2_with (first | (go_at_call 85; (with_reducible refine (sawmillref02_digit.calls (bt a0 x6_1) true _ A11.out).mono ?_); rintro e w' ⟨rfl, ⟨nd, rfl⟩⟩; (try first | exact ⟨rfl, _, World.drewN_drewN _ _ _⟩ | exact ⟨rfl, _, Eq.trans (World.drewN_drewN _ _ _) (congrArg (World.drewN _) (Nat.add_assoc _ _ _))⟩); have p13 : 0 ≤ (x6_1 : Int) := of_decide_eq_true (by first | (with_reducible assumption) | assumption); have q13 : x6_1 < (a0.size : Int) := of_decide_eq_true (by first | (with_reducible assumption) | assumption); have hx13 := bt_at a0 x6_1; replace p13 := eq_true p13; replace q13 := eq_true q13))
          repeat (go_quiet (first | (go_at_call 85; (with_reducible refine (sawmillref02_digit.calls (bt a0 x6_1) true _ A11.out).mono ?_); rintro e w' ⟨rfl, ⟨nd, rfl⟩⟩; (try first | exact ⟨rfl, _, World.drewN_drewN _ _ _⟩ | exact ⟨rfl, _, Eq.trans (World.drewN_drewN _ _ _) (congrArg (World.drewN _) (Nat.add_assoc _ _ _))⟩); have p13 : 0 ≤ (x6_1 : Int) := of_decide_eq_true (by first | (with_reducible assumption) | assumption); have q13 : x6_1 < (a0.size : Int) := of_decide_eq_true (by first | (with_reducible assumption) | assumption); have hx13 := bt_at a0 x6_1; replace p13 := eq_true p13; replace q13 := eq_true q13)); try go_wp2_with (first | (go_at_call 85; (with_reducible refine (sawmillref02_digit.calls (bt a0 x6_1) true _ A11.out).mono ?_); rintro e w' ⟨rfl, ⟨nd, rfl⟩⟩; (try first | exact ⟨rfl, _, World.drewN_drewN _ _ _⟩ | exact ⟨rfl, _, Eq.trans (World.drewN_drewN _ _ _) (congrArg (World.drewN _) (Nat.add_assoc _ _ _))⟩); have p13 : 0 ≤ (x6_1 : Int) := of_decide_eq_true (by first | (with_reducible assumption) | assumption); have q13 : x6_1 < (a0.size : Int) := of_decide_eq_true (by first | (with_reducible assumption) | assumption); have hx13 := bt_at a0 x6_1; replace p13 := eq_true p13; replace q13 := eq_true q13)))
          go_roundg k1
          case measure => have := HK1.out; omega
          case rel => exact ⟨(wrap64 ((wrap64 (10 * x5_1)) + (((bt a0 x6_1) - 48) % 256))), (wrap64 (x6_1 + 1)), (by first | rfl | (simp; done) | (simp [*]; done)), (by first | rfl | (simp; done) | (simp [*]; done)), H', ⟨by have := HK1.out; omega⟩, by repeat (first | exact Drawn0.refl _ | apply Drawn0.step)⟩
         ·replace c12 := Bool.eq_false_iff.mpr c12
          subst c12
          have H1 : (some (0, 0, 5)) = some (r1, r2, r3) := by rw [if_neg (show ¬ (false = true) by decide)] at H; exact H
          clear H
          have H := H1
          clear H1
          simp only [Option.some.injEq, Prod.mk.injEq] at H
          obtain ⟨rfl, rfl, rfl⟩ := H
          have p10 : 0 ≤ (x6_1 : Int) := of_decide_eq_true (by first | (with_reducible assumption) | assumption)
          have q10 : x6_1 < (a0.size : Int) := of_decide_eq_true (by first | (with_reducible assumption) | assumption)
          have hx10 := bt_at a0 x6_1
          replace p10 := eq_true p10
          replace q10 := eq_true q10
          go_wp2_with (first | (go_at_call 85; (with_reducible refine (sawmillref02_digit.calls (bt a0 x6_1) false _ A11.out).mono ?_); rintro e w' ⟨rfl, ⟨nd, rfl⟩⟩; (try first | exact ⟨rfl, _, World.drewN_drewN _ _ _⟩ | exact ⟨rfl, _, Eq.trans (World.drewN_drewN _ _ _) (congrArg (World.drewN _) (Nat.add_assoc _ _ _))⟩)))
          repeat (go_quiet (first | (go_at_call 85; (with_reducible refine (sawmillref02_digit.calls (bt a0 x6_1) false _ A11.out).mono ?_); rintro e w' ⟨rfl, ⟨nd, rfl⟩⟩; (try first | exact ⟨rfl, _, World.drewN_drewN _ _ _⟩ | exact ⟨rfl, _, Eq.trans (World.drewN_drewN _ _ _) (congrArg (World.drewN _) (Nat.add_assoc _ _ _))⟩))); try go_wp2_with (first | (go_at_call 85; (with_reducible refine (sawmillref02_digit.calls (bt a0 x6_1) false _ A11.out).mono ?_); rintro e w' ⟨rfl, ⟨nd, rfl⟩⟩; (try first | exact ⟨rfl, _, World.drewN_drewN _ _ _⟩ | exact ⟨rfl, _, Eq.trans (World.drewN_drewN _ _ _) (congrArg (World.drewN _) (Nat.add_assoc _ _ _))⟩))))
          go_ret3
          exact ⟨by first | rfl | (simp; done) | (simp [*]; done), by repeat (first | exact Drawn0.refl _ | apply Drawn0.step)⟩
        ·rw [if_neg c9] at H
         exact absurd H (by simp)
       ·rw [if_neg c8] at H
        exact absurd H (by simp)
      ·rw [if_neg c7] at H
       have c7b0 : decide (x6_1 < 7) = false := decide_eq_false c7
       clear c7
       by_cases c14 : 7 < (a0.size : Int)
       ·rw [if_pos c14] at H
        have c14b0 : decide (7 < (a0.size : Int)) = true := decide_eq_true c14
        have c14b1 : decide (7 < a0.size) = true := decide_eq_true (by omega)
        clear c14
        by_cases c16 : 7 ≤ (a0.size : Int)
        ·rw [if_pos c16] at H
         have c16b0 := eq_true c16
         have c16b1 : decide (7 ≤ (a0.size : Int)) = true := decide_eq_true c16
         clear c16
         replace H := oB H
         obtain ⟨t303, A170, H⟩ := H
         replace H : (if (bt a0 7) = t303 then (if 0 < (a0.size : Int) then (some (bt a0 0, x5_1, 0)) else (none)) else (some (0, 0, 16))) = some (r1, r2, r3) := H
         have A17 := Aside0.mk A170
         clear A170
         by_cases c18 : (bt a0 7) = t303
         ·rw [if_pos c18] at H
          have c18b0 : ((bt a0 7) == t303) = true := beq_iff_eq.mpr c18
          have c18b1 : ((bt a0 7) != t303) = false := oD c18
          clear c18
          by_cases c19 : 0 < (a0.size : Int)
          ·rw [if_pos c19] at H
           have c19b0 : decide (0 < (a0.size : Int)) = true := decide_eq_true c19
           have c19b1 : decide (0 < a0.size) = true := decide_eq_true (by omega)
           clear c19
           simp only [Option.some.injEq, Prod.mk.injEq] at H
           obtain ⟨rfl, rfl, rfl⟩ := H
           have p15 : 0 ≤ (7 : Int) := (by omega)
           have q15 : 7 < a0.size := (by have : (7 : Int) < (a0.size : Int) := of_decide_eq_true (by first | (with_reducible assumption) | assumption); omega)
           have hx15 : ∀ h : 7 < a0.size, ((a0[7]'h).toNat : Int) = bt a0 7 := bt_at a0 7
           clear p15
           have qi15 : (7 < (a0.size : Int)) = True := eq_true (of_decide_eq_true (by first | (with_reducible assumption) | assumption))
           replace q15 := eq_true q15
           go_wp2_with (first | (go_at_call 51; (with_reducible refine (sawmillref02_Letter.calls k1 (a0.extract 0 7) t303 _ A17.out).mono ?_); rintro e w' ⟨rfl, ⟨nd, rfl⟩⟩; (try first | exact ⟨rfl, _, World.drewN_drewN _ _ _⟩ | exact ⟨rfl, _, Eq.trans (World.drewN_drewN _ _ _) (congrArg (World.drewN _) (Nat.add_assoc _ _ _))⟩); have p20 : 0 ≤ (0 : Int) := (by omega); have q20 : 0 < a0.size := (by have : (0 : Int) < (a0.size : Int) := of_decide_eq_true (by first | (with_reducible assumption) | assumption); omega); have hx20 : ∀ h : 0 < a0.size, ((a0[0]'h).toNat : Int) = bt a0 0 := bt_at a0 0; clear p20; have qi20 : (0 < (a0.size : Int)) = True := eq_true (of_decide_eq_true (by first | (with_reducible assumption) | assumption)); replace q20 := eq_true q20))
           repeat (go_quiet (first | (go_at_call 51; (with_reducible refine (sawmillref02_Letter.calls k1 (a0.extract 0 7) t303 _ A17.out).mono ?_); rintro e w' ⟨rfl, ⟨nd, rfl⟩⟩; (try first | exact ⟨rfl, _, World.drewN_drewN _ _ _⟩ | exact ⟨rfl, _, Eq.trans (World.drewN_drewN _ _ _) (congrArg (World.drewN _) (Nat.add_assoc _ _ _))⟩); have p20 : 0 ≤ (0 : Int) := (by omega); have q20 : 0 < a0.size := (by have : (0 : Int) < (a0.size : Int) := of_decide_eq_true (by first | (with_reducible assumption) | assumption); omega); have hx20 : ∀ h : 0 < a0.size, ((a0[0]'h).toNat : Int) = bt a0 0 := bt_at a0 0; clear p20; have qi20 : (0 < (a0.size : Int)) = True := eq_true (of_decide_eq_true (by first | (with_reducible assumption) | assumption)); replace q20 := eq_true q20)); try go_wp2_with (first | (go_at_call 51; (with_reducible refine (sawmillref02_Letter.calls k1 (a0.extract 0 7) t303 _ A17.out).mono ?_); rintro e w' ⟨rfl, ⟨nd, rfl⟩⟩; (try first | exact ⟨rfl, _, World.drewN_drewN _ _ _⟩ | exact ⟨rfl, _, Eq.trans (World.drewN_drewN _ _ _) (congrArg (World.drewN _) (Nat.add_assoc _ _ _))⟩); have p20 : 0 ≤ (0 : Int) := (by omega); have q20 : 0 < a0.size := (by have : (0 : Int) < (a0.size : Int) := of_decide_eq_true (by first | (with_reducible assumption) | assumption); omega); have hx20 : ∀ h : 0 < a0.size, ((a0[0]'h).toNat : Int) = bt a0 0 := bt_at a0 0; clear p20; have qi20 : (0 < (a0.size : Int)) = True := eq_true (of_decide_eq_true (by first | (with_reducible assumption) | assumption)); replace q20 := eq_true q20)))
           go_ret3
           exact ⟨by first | rfl | (simp; done) | (simp [*]; done), by repeat (first | exact Drawn0.refl _ | apply Drawn0.step)⟩
          ·rw [if_neg c19] at H
           exact absurd H (by simp)
         ·rw [if_neg c18] at H
          have c18b0 : ((bt a0 7) == t303) = false := oC c18
          have c18b1 : ((bt a0 7) != t303) = true := bne_iff_ne.mpr c18
          simp only [Option.some.injEq, Prod.mk.injEq] at H
          obtain ⟨rfl, rfl, rfl⟩ := H
          have p15 : 0 ≤ (7 : Int) := (by omega)
          have q15 : 7 < a0.size := (by have : (7 : Int) < (a0.size : Int) := of_decide_eq_true (by first | (with_reducible assumption) | assumption); omega)
          have hx15 : ∀ h : 7 < a0.size, ((a0[7]'h).toNat : Int) = bt a0 7 := bt_at a0 7
          clear p15
          have qi15 : (7 < (a0.size : Int)) = True := eq_true (of_decide_eq_true (by first | (with_reducible assumption) | assumption))
          replace q15 := eq_true q15
          go_wp2_with (first | (go_at_call 51; (with_reducible refine (sawmillref02_Letter.calls k1 (a0.extract 0 7) t303 _ A17.out).mono ?_); rintro e w' ⟨rfl, ⟨nd, rfl⟩⟩; (try first | exact ⟨rfl, _, World.drewN_drewN _ _ _⟩ | exact ⟨rfl, _, Eq.trans (World.drewN_drewN _ _ _) (congrArg (World.drewN _) (Nat.add_assoc _ _ _))⟩)))
          repeat (go_quiet (first | (go_at_call 51; (with_reducible refine (sawmillref02_Letter.calls k1 (a0.extract 0 7) t303 _ A17.out).mono ?_); rintro e w' ⟨rfl, ⟨nd, rfl⟩⟩; (try first | exact ⟨rfl, _, World.drewN_drewN _ _ _⟩ | exact ⟨rfl, _, Eq.trans (World.drewN_drewN _ _ _) (congrArg (World.drewN _) (Nat.add_assoc _ _ _))⟩))); try go_wp2_with (first | (go_at_call 51; (with_reducible refine (sawmillref02_Letter.calls k1 (a0.extract 0 7) t303 _ A17.out).mono ?_); rintro e w' ⟨rfl, ⟨nd, rfl⟩⟩; (try first | exact ⟨rfl, _, World.drewN_drewN _ _ _⟩ | exact ⟨rfl, _, Eq.trans (World.drewN_drewN _ _ _) (congrArg (World.drewN _) (Nat.add_assoc _ _ _))⟩))))
          go_ret3
          exact ⟨by first | rfl | (simp; done) | (simp [*]; done), by repeat (first | exact Drawn0.refl _ | apply Drawn0.step)⟩
        ·rw [if_neg c16] at H
         exact absurd H (by simp)
       ·rw [if_neg c14] at H
        exact absurd H (by simp)
   ·replace c6 := Bool.eq_false_iff.mpr c6
    subst c6
    have H1 : (some (0, 0, 10)) = some (r1, r2, r3) := by rw [if_neg (show ¬ (false = true) by decide)] at H; exact H
    clear H
    have H := H1
    clear H1
    simp only [Option.some.injEq, Prod.mk.injEq] at H
    obtain ⟨rfl, rfl, rfl⟩ := H
    have p4 : 0 ≤ (0 : Int) := (by omega)
    have q4 : 0 < a0.size := (by have : (0 : Int) < (a0.size : Int) := of_decide_eq_true (by first | (with_reducible assumption) | assumption); omega)
    have hx4 : ∀ h : 0 < a0.size, ((a0[0]'h).toNat : Int) = bt a0 0 := bt_at a0 0
    clear p4
    have qi4 : (0 < (a0.size : Int)) = True := eq_true (of_decide_eq_true (by first | (with_reducible assumption) | assumption))
    replace q4 := eq_true q4
    go_enter Tryd.func75, Tryd.ntmps75
    go_wp2_with (first | (go_at_call 50; (with_reducible refine (sawmillref02_capital.calls (bt a0 0) false _ A5.out).mono ?_); rintro e w' ⟨rfl, ⟨nd, rfl⟩⟩; (try first | exact ⟨rfl, _, World.drewN_drewN _ _ _⟩ | exact ⟨rfl, _, Eq.trans (World.drewN_drewN _ _ _) (congrArg (World.drewN _) (Nat.add_assoc _ _ _))⟩)))
    repeat (go_quiet (first | (go_at_call 50; (with_reducible refine (sawmillref02_capital.calls (bt a0 0) false _ A5.out).mono ?_); rintro e w' ⟨rfl, ⟨nd, rfl⟩⟩; (try first | exact ⟨rfl, _, World.drewN_drewN _ _ _⟩ | exact ⟨rfl, _, Eq.trans (World.drewN_drewN _ _ _) (congrArg (World.drewN _) (Nat.add_assoc _ _ _))⟩))); try go_wp2_with (first | (go_at_call 50; (with_reducible refine (sawmillref02_capital.calls (bt a0 0) false _ A5.out).mono ?_); rintro e w' ⟨rfl, ⟨nd, rfl⟩⟩; (try first | exact ⟨rfl, _, World.drewN_drewN _ _ _⟩ | exact ⟨rfl, _, Eq.trans (World.drewN_drewN _ _ _) (congrArg (World.drewN _) (Nat.add_assoc _ _ _))⟩))))
    go_ret3
    exact ⟨by first | rfl | (simp; done) | (simp [*]; done), by repeat (first | exact Drawn0.refl _ | apply Drawn0.step)⟩
  ·rw [if_neg c3] at H
   exact absurd H (by simp)
 ·rw [if_neg c2] at H
  have c2b0 : ((a0.size : Int) == 8) = false := oC c2
  have c2b1 : ((a0.size : Int) != 8) = true := bne_iff_ne.mpr c2
  simp only [Option.some.injEq, Prod.mk.injEq] at H
  obtain ⟨rfl, rfl, rfl⟩ := H
  go_enter Tryd.func75, Tryd.ntmps75
  go_wp2
  repeat (go_quiet (fail); try go_wp2)
  go_ret3
  exact ⟨by first | rfl | (simp; done) | (simp [*]; done), by repeat (first | exact Drawn0.refl _ | apply Drawn0.step)⟩
def sawmillref02_Is.f (k : Nat) (a0 : ByteArray) (a1 : Int) : Option (Bool) := (sawmillref02_Split.f k a0).bind fun bt304 => (if bt304.2.2 = 0 then (some (bt304.1 == a1)) else (some false))
set_option maxHeartbeats 8000000 in
set_option maxRecDepth 100000 in
theorem sawmillref02_Is.calls (k : Nat) (a0 : ByteArray) (a1 : Int) (r : Bool) (w : World) (h : sawmillref02_Is.f k a0 a1 = some r) :
  Calls Tryd.prog 53 #[.string a0, .int .u8 a1] w fun e w' => e = .returned (.bool r) ∧ Drawn0 w w' := by
 have H : ((sawmillref02_Split.f k a0).bind fun bt304 => (if bt304.2.2 = 0 then (some (bt304.1 == a1)) else (some false))) = some r := h
 clear h
 replace H := oB H
 obtain ⟨⟨t304, t305, t306⟩, A30, H⟩ := H
 replace H : (if t306 = 0 then (some (t304 == a1)) else (some false)) = some r := H
 have A3 := Aside0.mk A30
 clear A30
 by_cases c4 : t306 = 0
 ·rw [if_pos c4] at H
  have c4b0 : (t306 == 0) = true := beq_iff_eq.mpr c4
  have c4b1 : (t306 != 0) = false := oD c4
  clear c4
  obtain rfl := Option.some.inj H
  go_enter Tryd.func53, Tryd.ntmps53
  go_wp2_with (first | ((with_reducible refine gate_callee (f := 75) rfl ?_); refine goesL_ (some 10) rfl rfl Tryd.func75 (by kernel_rfl) rfl #[.string a0] rfl (by first | rfl | (simp only [List.map_toArray]; rfl)) ?_; (with_reducible refine (sawmillref02_Split.calls k a0 t304 t305 t306 _ A3.out).mono ?_); rintro e w' ⟨rfl, ⟨nd, rfl⟩⟩; refine ⟨_, rfl, ?_⟩))
  go_ret
  exact ⟨by first | rfl | (simp; done) | (simp [*]; done), by repeat (first | exact Drawn0.refl _ | apply Drawn0.step)⟩
 ·rw [if_neg c4] at H
  have c4b0 : (t306 == 0) = false := oC c4
  have c4b1 : (t306 != 0) = true := bne_iff_ne.mpr c4
  obtain rfl := Option.some.inj H
  go_enter Tryd.func53, Tryd.ntmps53
  go_wp2_with (first | ((with_reducible refine gate_callee (f := 75) rfl ?_); refine goesL_ (some 10) rfl rfl Tryd.func75 (by kernel_rfl) rfl #[.string a0] rfl (by first | rfl | (simp only [List.map_toArray]; rfl)) ?_; (with_reducible refine (sawmillref02_Split.calls k a0 t304 t305 t306 _ A3.out).mono ?_); rintro e w' ⟨rfl, ⟨nd, rfl⟩⟩; refine ⟨_, rfl, ?_⟩))
  go_ret
  exact ⟨by first | rfl | (simp; done) | (simp [*]; done), by repeat (first | exact Drawn0.refl _ | apply Drawn0.step)⟩
def sawmillref58_named.f (k : Nat) (a0 : ByteArray) (a1 : Int) : Option (Bool) := if a1 = 0 then (some (a0.toList == ([] : List UInt8))) else ((sawmillref02_Is.f k a0 a1).bind fun t307 => (some t307))
set_option maxHeartbeats 8000000 in
set_option maxRecDepth 100000 in
theorem sawmillref58_named.calls (k : Nat) (a0 : ByteArray) (a1 : Int) (r : Bool) (w : World) (h : sawmillref58_named.f k a0 a1 = some r) :
  Calls Tryd.prog 28 #[.string a0, .int .u8 a1] w fun e w' => e = .returned (.bool r) ∧ Drawn0 w w' := by
 have H : (if a1 = 0 then (some (a0.toList == ([] : List UInt8))) else ((sawmillref02_Is.f k a0 a1).bind fun t307 => (some t307))) = some r := h
 clear h
 by_cases c3 : a1 = 0
 ·rw [if_pos c3] at H
  have c3b0 : (a1 == 0) = true := beq_iff_eq.mpr c3
  have c3b1 : (a1 != 0) = false := oD c3
  clear c3
  obtain rfl := Option.some.inj H
  go_enter Tryd.func28, Tryd.ntmps28
  go_wp2
  go_ret
  exact ⟨by first | rfl | (simp; done) | (simp [*]; done), by repeat (first | exact Drawn0.refl _ | apply Drawn0.step)⟩
 ·rw [if_neg c3] at H
  have c3b0 : (a1 == 0) = false := oC c3
  have c3b1 : (a1 != 0) = true := bne_iff_ne.mpr c3
  replace H := oB H
  obtain ⟨t307, A40, H⟩ := H
  replace H : (some t307) = some r := H
  have A4 := Aside0.mk A40
  clear A40
  obtain rfl := Option.some.inj H
  go_enter Tryd.func28, Tryd.ntmps28
  go_wp2_with (first | ((with_reducible refine gate_callee (f := 53) rfl ?_); refine goesL_ (some 11) rfl rfl Tryd.func53 (by kernel_rfl) rfl #[.string a0, .int .u8 a1] rfl (by first | rfl | (simp only [List.map_toArray]; rfl)) ?_; (with_reducible refine (sawmillref02_Is.calls k a0 a1 t307 _ A4.out).mono ?_); rintro e w' ⟨rfl, ⟨nd, rfl⟩⟩; refine ⟨_, rfl, ?_⟩))
  go_ret
  exact ⟨by first | rfl | (simp; done) | (simp [*]; done), by repeat (first | exact Drawn0.refl _ | apply Drawn0.step)⟩
def sawmillref58_shaped.f (a0_0 : Int) (a0_1 : Int) (a0_2 : ByteArray) (a0_3 : ByteArray) (l0_4 : List Int) (a0_5 : ByteArray) : Option (Bool) := if a0_0 = 1 then (some ((l0_4.length : Int) == 3)) else (if a0_0 = 4 then (some (decide ((l0_4.length : Int) ≥ 2))) else (if a0_0 = 5 then (some true) else (if a0_0 = 6 then (if (l0_4.length : Int) ≥ 2 then (if 1 < (l0_4.length : Int) then (if (rd l0_4 1) ≥ 0 then (if (rd l0_4 1) ≤ (wrap64 ((l0_4.length : Int) - 2)) then (some ((Int.tmod (wrap64 ((wrap64 ((l0_4.length : Int) - 2)) - (rd l0_4 1))) 3) == 0)) else (some false)) else (some false)) else (none)) else (some false)) else (if a0_0 = 7 then (some ((l0_4.length : Int) == 1)) else (if a0_0 = 9 then (some (((l0_4.length : Int) % 2) == 0)) else (if a0_0 = 11 then (some ((l0_4.length : Int) == 2)) else (if a0_0 = 13 then (some (((l0_4.length : Int) % 2) == 1)) else (if a0_0 = 14 then (some (decide ((l0_4.length : Int) ≥ 1))) else (some ((l0_4.length : Int) == 0))))))))))
set_option maxHeartbeats 8000000 in
set_option maxRecDepth 100000 in
theorem sawmillref58_shaped.calls (a0_0 : Int) (a0_1 : Int) (a0_2 : ByteArray) (a0_3 : ByteArray) (A0_4 : Option Addr) (c0_4 : Nat) (l0_4 : List Int) (a0_5 : ByteArray) (r : Bool) (w : World) (hr0_4 : Kd.C (Kd.int .i64) w A0_4 l0_4.length l0_4) (hc0_4 : l0_4.length ≤ c0_4) (h : sawmillref58_shaped.f a0_0 a0_1 a0_2 a0_3 l0_4 a0_5 = some r) :
  Calls Tryd.prog 29 #[.agg #[.int .i64 a0_0, .int .i64 a0_1, .string a0_2, .string a0_3, .slice A0_4 l0_4.length c0_4, .string a0_5]] w fun e w' => e = .returned (.bool r) ∧ Below w.heap.size w w' := by
 have hu24 := Tryd.underlying24
 have HR0_4 := Aside0.mk hr0_4
 have HC0_4 := Aside0.mk hc0_4
 clear hr0_4 hc0_4
 have HB := q_ (Below.refl w.heap.size w)
 have H : (if a0_0 = 1 then (some ((l0_4.length : Int) == 3)) else (if a0_0 = 4 then (some (decide ((l0_4.length : Int) ≥ 2))) else (if a0_0 = 5 then (some true) else (if a0_0 = 6 then (if (l0_4.length : Int) ≥ 2 then (if 1 < (l0_4.length : Int) then (if (rd l0_4 1) ≥ 0 then (if (rd l0_4 1) ≤ (wrap64 ((l0_4.length : Int) - 2)) then (some ((Int.tmod (wrap64 ((wrap64 ((l0_4.length : Int) - 2)) - (rd l0_4 1))) 3) == 0)) else (some false)) else (some false)) else (none)) else (some false)) else (if a0_0 = 7 then (some ((l0_4.length : Int) == 1)) else (if a0_0 = 9 then (some (((l0_4.length : Int) % 2) == 0)) else (if a0_0 = 11 then (some ((l0_4.length : Int) == 2)) else (if a0_0 = 13 then (some (((l0_4.length : Int) % 2) == 1)) else (if a0_0 = 14 then (some (decide ((l0_4.length : Int) ≥ 1))) else (some ((l0_4.length : Int) == 0))))))))))) = some r := h
 clear h
 by_cases c2 : a0_0 = 1
 ·rw [if_pos c2] at H
  have c2b0 : (a0_0 == 1) = true := beq_iff_eq.mpr c2
  have c2b1 : (a0_0 != 1) = false := oD c2
  clear c2
  obtain rfl := Option.some.inj H
  go_enter Tryd.func29, Tryd.ntmps29
  go_wp2_with (first | ((with_reducible refine gate_dst (N := 1) rfl ?_); refine box_event ?hg (N := 1) ?hd (cs := #[.int .i64 a0_0, .int .i64 a0_1, .string a0_2, .string a0_3, .slice A0_4 l0_4.length c0_4, .string a0_5]) (t := 24) ?hr ?_; (case hd => rfl); (case hg => rfl); (case hr => first | (go_simp; done) | (go_simp; rfl)); intro gb308 hg w3 hbox hb; have n0_ := q_ (pT (by repeat (first | (with_reducible first | exact HB.out | apply pA | apply pN | apply p1) | exact HB.out)) hb); have n1_ := q_ (hbox); have n2_ := q_ ((by rw [hg]; exact (pZ (by repeat (first | (with_reducible first | exact HB.out | apply pA | apply pN | apply p1) | exact HB.out))) : w.heap.size ≤ gb308)); have n3_ := q_ ((by rw [hg]; exact (pZ (by repeat (first | (with_reducible first | exact HB.out | apply pA | apply pN | apply p1) | exact HB.out))) : w.heap.size ≤ gb308)); clear HB; have HB := n0_; have BK308 := n1_; have GW308 := n2_; have GE308 := n3_; clear n0_ n1_ n2_ n3_; clear hb hbox hg; have hcz4_0 : w3.cell? ⟨gb308, 0, none⟩ = some (.int .i64 a0_0) := (bC BK308.out 0).trans rfl; have hcz4_1 : w3.cell? ⟨gb308, 1, none⟩ = some (.int .i64 a0_1) := (bC BK308.out 1).trans rfl; have hcz4_2 : w3.cell? ⟨gb308, 2, none⟩ = some (.string a0_2) := (bC BK308.out 2).trans rfl; have hcz4_3 : w3.cell? ⟨gb308, 3, none⟩ = some (.string a0_3) := (bC BK308.out 3).trans rfl; have hcz4_4 : w3.cell? ⟨gb308, 4, none⟩ = some (.slice A0_4 l0_4.length c0_4) := (bC BK308.out 4).trans rfl; have hcz4_5 : w3.cell? ⟨gb308, 5, none⟩ = some (.string a0_5) := (bC BK308.out 5).trans rfl; have hfz4_0 := bF BK308.out 0; have hfz4_1 := bF BK308.out 1; have hfz4_2 := bF BK308.out 2; have hfz4_3 := bF BK308.out 3; have hfz4_4 := bF BK308.out 4; have hfz4_5 := bF BK308.out 5))
  go_ret
  exact ⟨by first | rfl | (simp [*] <;> rfl), by repeat (first | (with_reducible first | exact HB.out | apply pA | apply pN | apply p1 | refine pS ?_ GE308.out) | exact HB.out)⟩
 ·rw [if_neg c2] at H
  have c2b0 : (a0_0 == 1) = false := oC c2
  have c2b1 : (a0_0 != 1) = true := bne_iff_ne.mpr c2
  by_cases c5 : a0_0 = 4
  ·rw [if_pos c5] at H
   have c5b0 : (a0_0 == 4) = true := beq_iff_eq.mpr c5
   have c5b1 : (a0_0 != 4) = false := oD c5
   clear c5
   obtain rfl := Option.some.inj H
   go_enter Tryd.func29, Tryd.ntmps29
   go_wp2_with (first | ((with_reducible refine gate_dst (N := 1) rfl ?_); refine box_event ?hg (N := 1) ?hd (cs := #[.int .i64 a0_0, .int .i64 a0_1, .string a0_2, .string a0_3, .slice A0_4 l0_4.length c0_4, .string a0_5]) (t := 24) ?hr ?_; (case hd => rfl); (case hg => rfl); (case hr => first | (go_simp; done) | (go_simp; rfl)); intro gb308 hg w6 hbox hb; have n0_ := q_ (pT (by repeat (first | (with_reducible first | exact HB.out | apply pA | apply pN | apply p1) | exact HB.out)) hb); have n1_ := q_ (hbox); have n2_ := q_ ((by rw [hg]; exact (pZ (by repeat (first | (with_reducible first | exact HB.out | apply pA | apply pN | apply p1) | exact HB.out))) : w.heap.size ≤ gb308)); have n3_ := q_ ((by rw [hg]; exact (pZ (by repeat (first | (with_reducible first | exact HB.out | apply pA | apply pN | apply p1) | exact HB.out))) : w.heap.size ≤ gb308)); clear HB; have HB := n0_; have BK308 := n1_; have GW308 := n2_; have GE308 := n3_; clear n0_ n1_ n2_ n3_; clear hb hbox hg; have hcz7_0 : w6.cell? ⟨gb308, 0, none⟩ = some (.int .i64 a0_0) := (bC BK308.out 0).trans rfl; have hcz7_1 : w6.cell? ⟨gb308, 1, none⟩ = some (.int .i64 a0_1) := (bC BK308.out 1).trans rfl; have hcz7_2 : w6.cell? ⟨gb308, 2, none⟩ = some (.string a0_2) := (bC BK308.out 2).trans rfl; have hcz7_3 : w6.cell? ⟨gb308, 3, none⟩ = some (.string a0_3) := (bC BK308.out 3).trans rfl; have hcz7_4 : w6.cell? ⟨gb308, 4, none⟩ = some (.slice A0_4 l0_4.length c0_4) := (bC BK308.out 4).trans rfl; have hcz7_5 : w6.cell? ⟨gb308, 5, none⟩ = some (.string a0_5) := (bC BK308.out 5).trans rfl; have hfz7_0 := bF BK308.out 0; have hfz7_1 := bF BK308.out 1; have hfz7_2 := bF BK308.out 2; have hfz7_3 := bF BK308.out 3; have hfz7_4 := bF BK308.out 4; have hfz7_5 := bF BK308.out 5))
   go_ret
   exact ⟨by first | rfl | (simp [*] <;> rfl), by repeat (first | (with_reducible first | exact HB.out | apply pA | apply pN | apply p1 | refine pS ?_ GE308.out) | exact HB.out)⟩
  ·rw [if_neg c5] at H
   have c5b0 : (a0_0 == 4) = false := oC c5
   have c5b1 : (a0_0 != 4) = true := bne_iff_ne.mpr c5
   by_cases c8 : a0_0 = 5
   ·rw [if_pos c8] at H
    have c8b0 : (a0_0 == 5) = true := beq_iff_eq.mpr c8
    have c8b1 : (a0_0 != 5) = false := oD c8
    clear c8
    obtain rfl := Option.some.inj H
    go_enter Tryd.func29, Tryd.ntmps29
    go_wp2_with (first | ((with_reducible refine gate_dst (N := 1) rfl ?_); refine box_event ?hg (N := 1) ?hd (cs := #[.int .i64 a0_0, .int .i64 a0_1, .string a0_2, .string a0_3, .slice A0_4 l0_4.length c0_4, .string a0_5]) (t := 24) ?hr ?_; (case hd => rfl); (case hg => rfl); (case hr => first | (go_simp; done) | (go_simp; rfl)); intro gb308 hg w9 hbox hb; have n0_ := q_ (pT (by repeat (first | (with_reducible first | exact HB.out | apply pA | apply pN | apply p1) | exact HB.out)) hb); have n1_ := q_ (hbox); have n2_ := q_ ((by rw [hg]; exact (pZ (by repeat (first | (with_reducible first | exact HB.out | apply pA | apply pN | apply p1) | exact HB.out))) : w.heap.size ≤ gb308)); have n3_ := q_ ((by rw [hg]; exact (pZ (by repeat (first | (with_reducible first | exact HB.out | apply pA | apply pN | apply p1) | exact HB.out))) : w.heap.size ≤ gb308)); clear HB; have HB := n0_; have BK308 := n1_; have GW308 := n2_; have GE308 := n3_; clear n0_ n1_ n2_ n3_; clear hb hbox hg; have hcz10_0 : w9.cell? ⟨gb308, 0, none⟩ = some (.int .i64 a0_0) := (bC BK308.out 0).trans rfl; have hcz10_1 : w9.cell? ⟨gb308, 1, none⟩ = some (.int .i64 a0_1) := (bC BK308.out 1).trans rfl; have hcz10_2 : w9.cell? ⟨gb308, 2, none⟩ = some (.string a0_2) := (bC BK308.out 2).trans rfl; have hcz10_3 : w9.cell? ⟨gb308, 3, none⟩ = some (.string a0_3) := (bC BK308.out 3).trans rfl; have hcz10_4 : w9.cell? ⟨gb308, 4, none⟩ = some (.slice A0_4 l0_4.length c0_4) := (bC BK308.out 4).trans rfl; have hcz10_5 : w9.cell? ⟨gb308, 5, none⟩ = some (.string a0_5) := (bC BK308.out 5).trans rfl; have hfz10_0 := bF BK308.out 0; have hfz10_1 := bF BK308.out 1; have hfz10_2 := bF BK308.out 2; have hfz10_3 := bF BK308.out 3; have hfz10_4 := bF BK308.out 4; have hfz10_5 := bF BK308.out 5))
    go_ret
    exact ⟨by first | rfl | (simp [*] <;> rfl), by repeat (first | (with_reducible first | exact HB.out | apply pA | apply pN | apply p1 | refine pS ?_ GE308.out) | exact HB.out)⟩
   ·rw [if_neg c8] at H
    have c8b0 : (a0_0 == 5) = false := oC c8
    have c8b1 : (a0_0 != 5) = true := bne_iff_ne.mpr c8
    by_cases c11 : a0_0 = 6
    ·rw [if_pos c11] at H
     have c11b0 : (a0_0 == 6) = true := beq_iff_eq.mpr c11
     have c11b1 : (a0_0 != 6) = false := oD c11
     clear c11
     by_cases c12 : (l0_4.length : Int) ≥ 2
     ·rw [if_pos c12] at H
      have c12b0 : decide (2 ≤ (l0_4.length : Int)) = true := decide_eq_true c12
      have c12b1 : decide (2 ≤ l0_4.length) = true := decide_eq_true (by omega)
      clear c12
      by_cases c13 : 1 < (l0_4.length : Int)
      ·rw [if_pos c13] at H
       have c13b0 : decide (1 < (l0_4.length : Int)) = true := decide_eq_true c13
       have c13b1 : decide (1 < l0_4.length) = true := decide_eq_true (by omega)
       clear c13
       by_cases c14 : (rd l0_4 1) ≥ 0
       ·rw [if_pos c14] at H
        have c14b0 : decide (0 ≤ (rd l0_4 1)) = true := decide_eq_true c14
        clear c14
        by_cases c15 : (rd l0_4 1) ≤ (wrap64 ((l0_4.length : Int) - 2))
        ·rw [if_pos c15] at H
         have c15b0 : decide ((rd l0_4 1) ≤ (wrap64 ((l0_4.length : Int) - 2))) = true := decide_eq_true c15
         clear c15
         obtain rfl := Option.some.inj H
         go_enter Tryd.func29, Tryd.ntmps29
         go_wp2_with (first | ((with_reducible refine gate_dst (N := 1) rfl ?_); refine box_event ?hg (N := 1) ?hd (cs := #[.int .i64 a0_0, .int .i64 a0_1, .string a0_2, .string a0_3, .slice A0_4 l0_4.length c0_4, .string a0_5]) (t := 24) ?hr ?_; (case hd => rfl); (case hg => rfl); (case hr => first | (go_simp; done) | (go_simp; rfl)); intro gb308 hg w16 hbox hb; have n0_ := q_ (pT (by repeat (first | (with_reducible first | exact HB.out | apply pA | apply pN | apply p1) | exact HB.out)) hb); have n1_ := q_ (hbox); have n2_ := q_ ((by rw [hg]; exact (pZ (by repeat (first | (with_reducible first | exact HB.out | apply pA | apply pN | apply p1) | exact HB.out))) : w.heap.size ≤ gb308)); have n3_ := q_ ((by rw [hg]; exact (pZ (by repeat (first | (with_reducible first | exact HB.out | apply pA | apply pN | apply p1) | exact HB.out))) : w.heap.size ≤ gb308)); clear HB; have HB := n0_; have BK308 := n1_; have GW308 := n2_; have GE308 := n3_; clear n0_ n1_ n2_ n3_; clear hb hbox hg; have hcz17_0 : w16.cell? ⟨gb308, 0, none⟩ = some (.int .i64 a0_0) := (bC BK308.out 0).trans rfl; have hcz17_1 : w16.cell? ⟨gb308, 1, none⟩ = some (.int .i64 a0_1) := (bC BK308.out 1).trans rfl; have hcz17_2 : w16.cell? ⟨gb308, 2, none⟩ = some (.string a0_2) := (bC BK308.out 2).trans rfl; have hcz17_3 : w16.cell? ⟨gb308, 3, none⟩ = some (.string a0_3) := (bC BK308.out 3).trans rfl; have hcz17_4 : w16.cell? ⟨gb308, 4, none⟩ = some (.slice A0_4 l0_4.length c0_4) := (bC BK308.out 4).trans rfl; have hcz17_5 : w16.cell? ⟨gb308, 5, none⟩ = some (.string a0_5) := (bC BK308.out 5).trans rfl; have hfz17_0 := bF BK308.out 0; have hfz17_1 := bF BK308.out 1; have hfz17_2 := bF BK308.out 2; have hfz17_3 := bF BK308.out 3; have hfz17_4 := bF BK308.out 4; have hfz17_5 := bF BK308.out 5; have p309 : 0 ≤ (1 : Int) := (by omega); have q309 : 1 < (l0_4.length : Int) := of_decide_eq_true (by first | (with_reducible assumption) | assumption); obtain ⟨ad309, e309, hx309_0⟩ := Kd.at_int HR0_4.out 1 p309 q309; cases e309; (try simp only [show (1 : Int).toNat = 1 from rfl, Nat.reduceMul, Nat.reduceEqDiff, Go.Addr.add, ↓reduceIte] at hx309_0); have qi309 : (1 < l0_4.length) = True := eq_true (by omega); (try rw [show ((1 : Int)).toNat = 1 from rfl] at hx309_0); replace hx309_0 := (HB.out.cell (World.block_lt_of_cell? w _ hx309_0)).trans hx309_0; replace p309 := eq_true p309; replace q309 := eq_true q309; have p310 : 0 ≤ (1 : Int) := (by omega); have q310 : 1 < (l0_4.length : Int) := of_decide_eq_true (by first | (with_reducible assumption) | assumption); obtain ⟨ad310, e310, hx310_0⟩ := Kd.at_int HR0_4.out 1 p310 q310; obtain rfl : ad309 = ad310 := (by injection e310); (try simp only [show (1 : Int).toNat = 1 from rfl, Nat.reduceMul, Nat.reduceEqDiff, Go.Addr.add, ↓reduceIte] at hx310_0); have qi310 : (1 < l0_4.length) = True := eq_true (by omega); (try rw [show ((1 : Int)).toNat = 1 from rfl] at hx310_0); replace hx310_0 := (HB.out.cell (World.block_lt_of_cell? w _ hx310_0)).trans hx310_0; replace p310 := eq_true p310; replace q310 := eq_true q310; have p311 : 0 ≤ (1 : Int) := (by omega); have q311 : 1 < (l0_4.length : Int) := of_decide_eq_true (by first | (with_reducible assumption) | assumption); obtain ⟨ad311, e311, hx311_0⟩ := Kd.at_int HR0_4.out 1 p311 q311; obtain rfl : ad309 = ad311 := (by injection e311); (try simp only [show (1 : Int).toNat = 1 from rfl, Nat.reduceMul, Nat.reduceEqDiff, Go.Addr.add, ↓reduceIte] at hx311_0); have qi311 : (1 < l0_4.length) = True := eq_true (by omega); (try rw [show ((1 : Int)).toNat = 1 from rfl] at hx311_0); replace hx311_0 := (HB.out.cell (World.block_lt_of_cell? w _ hx311_0)).trans hx311_0; replace p311 := eq_true p311; replace q311 := eq_true q311))
         go_ret
         exact ⟨by first | rfl | (simp [*] <;> rfl), by repeat (first | (with_reducible first | exact HB.out | apply pA | apply pN | apply p1 | refine pS ?_ GE308.out) | exact HB.out)⟩
        ·rw [if_neg c15] at H
         have c15b0 : decide ((rd l0_4 1) ≤ (wrap64 ((l0_4.length : Int) - 2))) = false := decide_eq_false c15
         clear c15
         obtain rfl := Option.some.inj H
         go_enter Tryd.func29, Tryd.ntmps29
         go_wp2_with (first | ((with_reducible refine gate_dst (N := 1) rfl ?_); refine box_event ?hg (N := 1) ?hd (cs := #[.int .i64 a0_0, .int .i64 a0_1, .string a0_2, .string a0_3, .slice A0_4 l0_4.length c0_4, .string a0_5]) (t := 24) ?hr ?_; (case hd => rfl); (case hg => rfl); (case hr => first | (go_simp; done) | (go_simp; rfl)); intro gb308 hg w18 hbox hb; have n0_ := q_ (pT (by repeat (first | (with_reducible first | exact HB.out | apply pA | apply pN | apply p1) | exact HB.out)) hb); have n1_ := q_ (hbox); have n2_ := q_ ((by rw [hg]; exact (pZ (by repeat (first | (with_reducible first | exact HB.out | apply pA | apply pN | apply p1) | exact HB.out))) : w.heap.size ≤ gb308)); have n3_ := q_ ((by rw [hg]; exact (pZ (by repeat (first | (with_reducible first | exact HB.out | apply pA | apply pN | apply p1) | exact HB.out))) : w.heap.size ≤ gb308)); clear HB; have HB := n0_; have BK308 := n1_; have GW308 := n2_; have GE308 := n3_; clear n0_ n1_ n2_ n3_; clear hb hbox hg; have hcz19_0 : w18.cell? ⟨gb308, 0, none⟩ = some (.int .i64 a0_0) := (bC BK308.out 0).trans rfl; have hcz19_1 : w18.cell? ⟨gb308, 1, none⟩ = some (.int .i64 a0_1) := (bC BK308.out 1).trans rfl; have hcz19_2 : w18.cell? ⟨gb308, 2, none⟩ = some (.string a0_2) := (bC BK308.out 2).trans rfl; have hcz19_3 : w18.cell? ⟨gb308, 3, none⟩ = some (.string a0_3) := (bC BK308.out 3).trans rfl; have hcz19_4 : w18.cell? ⟨gb308, 4, none⟩ = some (.slice A0_4 l0_4.length c0_4) := (bC BK308.out 4).trans rfl; have hcz19_5 : w18.cell? ⟨gb308, 5, none⟩ = some (.string a0_5) := (bC BK308.out 5).trans rfl; have hfz19_0 := bF BK308.out 0; have hfz19_1 := bF BK308.out 1; have hfz19_2 := bF BK308.out 2; have hfz19_3 := bF BK308.out 3; have hfz19_4 := bF BK308.out 4; have hfz19_5 := bF BK308.out 5; have p309 : 0 ≤ (1 : Int) := (by omega); have q309 : 1 < (l0_4.length : Int) := of_decide_eq_true (by first | (with_reducible assumption) | assumption); obtain ⟨ad309, e309, hx309_0⟩ := Kd.at_int HR0_4.out 1 p309 q309; cases e309; (try simp only [show (1 : Int).toNat = 1 from rfl, Nat.reduceMul, Nat.reduceEqDiff, Go.Addr.add, ↓reduceIte] at hx309_0); have qi309 : (1 < l0_4.length) = True := eq_true (by omega); (try rw [show ((1 : Int)).toNat = 1 from rfl] at hx309_0); replace hx309_0 := (HB.out.cell (World.block_lt_of_cell? w _ hx309_0)).trans hx309_0; replace p309 := eq_true p309; replace q309 := eq_true q309; have p310 : 0 ≤ (1 : Int) := (by omega); have q310 : 1 < (l0_4.length : Int) := of_decide_eq_true (by first | (with_reducible assumption) | assumption); obtain ⟨ad310, e310, hx310_0⟩ := Kd.at_int HR0_4.out 1 p310 q310; obtain rfl : ad309 = ad310 := (by injection e310); (try simp only [show (1 : Int).toNat = 1 from rfl, Nat.reduceMul, Nat.reduceEqDiff, Go.Addr.add, ↓reduceIte] at hx310_0); have qi310 : (1 < l0_4.length) = True := eq_true (by omega); (try rw [show ((1 : Int)).toNat = 1 from rfl] at hx310_0); replace hx310_0 := (HB.out.cell (World.block_lt_of_cell? w _ hx310_0)).trans hx310_0; replace p310 := eq_true p310; replace q310 := eq_true q310))
         go_ret
         exact ⟨by first | rfl | (simp [*] <;> rfl), by repeat (first | (with_reducible first | exact HB.out | apply pA | apply pN | apply p1 | refine pS ?_ GE308.out) | exact HB.out)⟩
       ·rw [if_neg c14] at H
        have c14b0 : decide (0 ≤ (rd l0_4 1)) = false := decide_eq_false c14
        clear c14
        obtain rfl := Option.some.inj H
        go_enter Tryd.func29, Tryd.ntmps29
        go_wp2_with (first | ((with_reducible refine gate_dst (N := 1) rfl ?_); refine box_event ?hg (N := 1) ?hd (cs := #[.int .i64 a0_0, .int .i64 a0_1, .string a0_2, .string a0_3, .slice A0_4 l0_4.length c0_4, .string a0_5]) (t := 24) ?hr ?_; (case hd => rfl); (case hg => rfl); (case hr => first | (go_simp; done) | (go_simp; rfl)); intro gb308 hg w20 hbox hb; have n0_ := q_ (pT (by repeat (first | (with_reducible first | exact HB.out | apply pA | apply pN | apply p1) | exact HB.out)) hb); have n1_ := q_ (hbox); have n2_ := q_ ((by rw [hg]; exact (pZ (by repeat (first | (with_reducible first | exact HB.out | apply pA | apply pN | apply p1) | exact HB.out))) : w.heap.size ≤ gb308)); have n3_ := q_ ((by rw [hg]; exact (pZ (by repeat (first | (with_reducible first | exact HB.out | apply pA | apply pN | apply p1) | exact HB.out))) : w.heap.size ≤ gb308)); clear HB; have HB := n0_; have BK308 := n1_; have GW308 := n2_; have GE308 := n3_; clear n0_ n1_ n2_ n3_; clear hb hbox hg; have hcz21_0 : w20.cell? ⟨gb308, 0, none⟩ = some (.int .i64 a0_0) := (bC BK308.out 0).trans rfl; have hcz21_1 : w20.cell? ⟨gb308, 1, none⟩ = some (.int .i64 a0_1) := (bC BK308.out 1).trans rfl; have hcz21_2 : w20.cell? ⟨gb308, 2, none⟩ = some (.string a0_2) := (bC BK308.out 2).trans rfl; have hcz21_3 : w20.cell? ⟨gb308, 3, none⟩ = some (.string a0_3) := (bC BK308.out 3).trans rfl; have hcz21_4 : w20.cell? ⟨gb308, 4, none⟩ = some (.slice A0_4 l0_4.length c0_4) := (bC BK308.out 4).trans rfl; have hcz21_5 : w20.cell? ⟨gb308, 5, none⟩ = some (.string a0_5) := (bC BK308.out 5).trans rfl; have hfz21_0 := bF BK308.out 0; have hfz21_1 := bF BK308.out 1; have hfz21_2 := bF BK308.out 2; have hfz21_3 := bF BK308.out 3; have hfz21_4 := bF BK308.out 4; have hfz21_5 := bF BK308.out 5; have p309 : 0 ≤ (1 : Int) := (by omega); have q309 : 1 < (l0_4.length : Int) := of_decide_eq_true (by first | (with_reducible assumption) | assumption); obtain ⟨ad309, e309, hx309_0⟩ := Kd.at_int HR0_4.out 1 p309 q309; cases e309; (try simp only [show (1 : Int).toNat = 1 from rfl, Nat.reduceMul, Nat.reduceEqDiff, Go.Addr.add, ↓reduceIte] at hx309_0); have qi309 : (1 < l0_4.length) = True := eq_true (by omega); (try rw [show ((1 : Int)).toNat = 1 from rfl] at hx309_0); replace hx309_0 := (HB.out.cell (World.block_lt_of_cell? w _ hx309_0)).trans hx309_0; replace p309 := eq_true p309; replace q309 := eq_true q309))
        go_ret
        exact ⟨by first | rfl | (simp [*] <;> rfl), by repeat (first | (with_reducible first | exact HB.out | apply pA | apply pN | apply p1 | refine pS ?_ GE308.out) | exact HB.out)⟩
      ·rw [if_neg c13] at H
       exact absurd H (by simp)
     ·rw [if_neg c12] at H
      have c12b0 : decide (2 ≤ (l0_4.length : Int)) = false := decide_eq_false c12
      have c12b1 : decide (2 ≤ l0_4.length) = false := decide_eq_false (by omega)
      clear c12
      obtain rfl := Option.some.inj H
      go_enter Tryd.func29, Tryd.ntmps29
      go_wp2_with (first | ((with_reducible refine gate_dst (N := 1) rfl ?_); refine box_event ?hg (N := 1) ?hd (cs := #[.int .i64 a0_0, .int .i64 a0_1, .string a0_2, .string a0_3, .slice A0_4 l0_4.length c0_4, .string a0_5]) (t := 24) ?hr ?_; (case hd => rfl); (case hg => rfl); (case hr => first | (go_simp; done) | (go_simp; rfl)); intro gb308 hg w22 hbox hb; have n0_ := q_ (pT (by repeat (first | (with_reducible first | exact HB.out | apply pA | apply pN | apply p1) | exact HB.out)) hb); have n1_ := q_ (hbox); have n2_ := q_ ((by rw [hg]; exact (pZ (by repeat (first | (with_reducible first | exact HB.out | apply pA | apply pN | apply p1) | exact HB.out))) : w.heap.size ≤ gb308)); have n3_ := q_ ((by rw [hg]; exact (pZ (by repeat (first | (with_reducible first | exact HB.out | apply pA | apply pN | apply p1) | exact HB.out))) : w.heap.size ≤ gb308)); clear HB; have HB := n0_; have BK308 := n1_; have GW308 := n2_; have GE308 := n3_; clear n0_ n1_ n2_ n3_; clear hb hbox hg; have hcz23_0 : w22.cell? ⟨gb308, 0, none⟩ = some (.int .i64 a0_0) := (bC BK308.out 0).trans rfl; have hcz23_1 : w22.cell? ⟨gb308, 1, none⟩ = some (.int .i64 a0_1) := (bC BK308.out 1).trans rfl; have hcz23_2 : w22.cell? ⟨gb308, 2, none⟩ = some (.string a0_2) := (bC BK308.out 2).trans rfl; have hcz23_3 : w22.cell? ⟨gb308, 3, none⟩ = some (.string a0_3) := (bC BK308.out 3).trans rfl; have hcz23_4 : w22.cell? ⟨gb308, 4, none⟩ = some (.slice A0_4 l0_4.length c0_4) := (bC BK308.out 4).trans rfl; have hcz23_5 : w22.cell? ⟨gb308, 5, none⟩ = some (.string a0_5) := (bC BK308.out 5).trans rfl; have hfz23_0 := bF BK308.out 0; have hfz23_1 := bF BK308.out 1; have hfz23_2 := bF BK308.out 2; have hfz23_3 := bF BK308.out 3; have hfz23_4 := bF BK308.out 4; have hfz23_5 := bF BK308.out 5))
      go_ret
      exact ⟨by first | rfl | (simp [*] <;> rfl), by repeat (first | (with_reducible first | exact HB.out | apply pA | apply pN | apply p1 | refine pS ?_ GE308.out) | exact HB.out)⟩
    ·rw [if_neg c11] at H
     have c11b0 : (a0_0 == 6) = false := oC c11
     have c11b1 : (a0_0 != 6) = true := bne_iff_ne.mpr c11
     by_cases c24 : a0_0 = 7
     ·rw [if_pos c24] at H
      have c24b0 : (a0_0 == 7) = true := beq_iff_eq.mpr c24
      have c24b1 : (a0_0 != 7) = false := oD c24
      clear c24
      obtain rfl := Option.some.inj H
      go_enter Tryd.func29, Tryd.ntmps29
      go_wp2_with (first | ((with_reducible refine gate_dst (N := 1) rfl ?_); refine box_event ?hg (N := 1) ?hd (cs := #[.int .i64 a0_0, .int .i64 a0_1, .string a0_2, .string a0_3, .slice A0_4 l0_4.length c0_4, .string a0_5]) (t := 24) ?hr ?_; (case hd => rfl); (case hg => rfl); (case hr => first | (go_simp; done) | (go_simp; rfl)); intro gb308 hg w25 hbox hb; have n0_ := q_ (pT (by repeat (first | (with_reducible first | exact HB.out | apply pA | apply pN | apply p1) | exact HB.out)) hb); have n1_ := q_ (hbox); have n2_ := q_ ((by rw [hg]; exact (pZ (by repeat (first | (with_reducible first | exact HB.out | apply pA | apply pN | apply p1) | exact HB.out))) : w.heap.size ≤ gb308)); have n3_ := q_ ((by rw [hg]; exact (pZ (by repeat (first | (with_reducible first | exact HB.out | apply pA | apply pN | apply p1) | exact HB.out))) : w.heap.size ≤ gb308)); clear HB; have HB := n0_; have BK308 := n1_; have GW308 := n2_; have GE308 := n3_; clear n0_ n1_ n2_ n3_; clear hb hbox hg; have hcz26_0 : w25.cell? ⟨gb308, 0, none⟩ = some (.int .i64 a0_0) := (bC BK308.out 0).trans rfl; have hcz26_1 : w25.cell? ⟨gb308, 1, none⟩ = some (.int .i64 a0_1) := (bC BK308.out 1).trans rfl; have hcz26_2 : w25.cell? ⟨gb308, 2, none⟩ = some (.string a0_2) := (bC BK308.out 2).trans rfl; have hcz26_3 : w25.cell? ⟨gb308, 3, none⟩ = some (.string a0_3) := (bC BK308.out 3).trans rfl; have hcz26_4 : w25.cell? ⟨gb308, 4, none⟩ = some (.slice A0_4 l0_4.length c0_4) := (bC BK308.out 4).trans rfl; have hcz26_5 : w25.cell? ⟨gb308, 5, none⟩ = some (.string a0_5) := (bC BK308.out 5).trans rfl; have hfz26_0 := bF BK308.out 0; have hfz26_1 := bF BK308.out 1; have hfz26_2 := bF BK308.out 2; have hfz26_3 := bF BK308.out 3; have hfz26_4 := bF BK308.out 4; have hfz26_5 := bF BK308.out 5))
      go_ret
      exact ⟨by first | rfl | (simp [*] <;> rfl), by repeat (first | (with_reducible first | exact HB.out | apply pA | apply pN | apply p1 | refine pS ?_ GE308.out) | exact HB.out)⟩
     ·rw [if_neg c24] at H
      have c24b0 : (a0_0 == 7) = false := oC c24
      have c24b1 : (a0_0 != 7) = true := bne_iff_ne.mpr c24
      by_cases c27 : a0_0 = 9
      ·rw [if_pos c27] at H
       have c27b0 : (a0_0 == 9) = true := beq_iff_eq.mpr c27
       have c27b1 : (a0_0 != 9) = false := oD c27
       clear c27
       obtain rfl := Option.some.inj H
       go_enter Tryd.func29, Tryd.ntmps29
       go_wp2_with (first | ((with_reducible refine gate_dst (N := 1) rfl ?_); refine box_event ?hg (N := 1) ?hd (cs := #[.int .i64 a0_0, .int .i64 a0_1, .string a0_2, .string a0_3, .slice A0_4 l0_4.length c0_4, .string a0_5]) (t := 24) ?hr ?_; (case hd => rfl); (case hg => rfl); (case hr => first | (go_simp; done) | (go_simp; rfl)); intro gb308 hg w28 hbox hb; have n0_ := q_ (pT (by repeat (first | (with_reducible first | exact HB.out | apply pA | apply pN | apply p1) | exact HB.out)) hb); have n1_ := q_ (hbox); have n2_ := q_ ((by rw [hg]; exact (pZ (by repeat (first | (with_reducible first | exact HB.out | apply pA | apply pN | apply p1) | exact HB.out))) : w.heap.size ≤ gb308)); have n3_ := q_ ((by rw [hg]; exact (pZ (by repeat (first | (with_reducible first | exact HB.out | apply pA | apply pN | apply p1) | exact HB.out))) : w.heap.size ≤ gb308)); clear HB; have HB := n0_; have BK308 := n1_; have GW308 := n2_; have GE308 := n3_; clear n0_ n1_ n2_ n3_; clear hb hbox hg; have hcz29_0 : w28.cell? ⟨gb308, 0, none⟩ = some (.int .i64 a0_0) := (bC BK308.out 0).trans rfl; have hcz29_1 : w28.cell? ⟨gb308, 1, none⟩ = some (.int .i64 a0_1) := (bC BK308.out 1).trans rfl; have hcz29_2 : w28.cell? ⟨gb308, 2, none⟩ = some (.string a0_2) := (bC BK308.out 2).trans rfl; have hcz29_3 : w28.cell? ⟨gb308, 3, none⟩ = some (.string a0_3) := (bC BK308.out 3).trans rfl; have hcz29_4 : w28.cell? ⟨gb308, 4, none⟩ = some (.slice A0_4 l0_4.length c0_4) := (bC BK308.out 4).trans rfl; have hcz29_5 : w28.cell? ⟨gb308, 5, none⟩ = some (.string a0_5) := (bC BK308.out 5).trans rfl; have hfz29_0 := bF BK308.out 0; have hfz29_1 := bF BK308.out 1; have hfz29_2 := bF BK308.out 2; have hfz29_3 := bF BK308.out 3; have hfz29_4 := bF BK308.out 4; have hfz29_5 := bF BK308.out 5))
       go_ret
       exact ⟨by first | rfl | (simp [*] <;> rfl), by repeat (first | (with_reducible first | exact HB.out | apply pA | apply pN | apply p1 | refine pS ?_ GE308.out) | exact HB.out)⟩
      ·rw [if_neg c27] at H
       have c27b0 : (a0_0 == 9) = false := oC c27
       have c27b1 : (a0_0 != 9) = true := bne_iff_ne.mpr c27
       by_cases c30 : a0_0 = 11
       ·rw [if_pos c30] at H
        have c30b0 : (a0_0 == 11) = true := beq_iff_eq.mpr c30
        have c30b1 : (a0_0 != 11) = false := oD c30
        clear c30
        obtain rfl := Option.some.inj H
        go_enter Tryd.func29, Tryd.ntmps29
        go_wp2_with (first | ((with_reducible refine gate_dst (N := 1) rfl ?_); refine box_event ?hg (N := 1) ?hd (cs := #[.int .i64 a0_0, .int .i64 a0_1, .string a0_2, .string a0_3, .slice A0_4 l0_4.length c0_4, .string a0_5]) (t := 24) ?hr ?_; (case hd => rfl); (case hg => rfl); (case hr => first | (go_simp; done) | (go_simp; rfl)); intro gb308 hg w31 hbox hb; have n0_ := q_ (pT (by repeat (first | (with_reducible first | exact HB.out | apply pA | apply pN | apply p1) | exact HB.out)) hb); have n1_ := q_ (hbox); have n2_ := q_ ((by rw [hg]; exact (pZ (by repeat (first | (with_reducible first | exact HB.out | apply pA | apply pN | apply p1) | exact HB.out))) : w.heap.size ≤ gb308)); have n3_ := q_ ((by rw [hg]; exact (pZ (by repeat (first | (with_reducible first | exact HB.out | apply pA | apply pN | apply p1) | exact HB.out))) : w.heap.size ≤ gb308)); clear HB; have HB := n0_; have BK308 := n1_; have GW308 := n2_; have GE308 := n3_; clear n0_ n1_ n2_ n3_; clear hb hbox hg; have hcz32_0 : w31.cell? ⟨gb308, 0, none⟩ = some (.int .i64 a0_0) := (bC BK308.out 0).trans rfl; have hcz32_1 : w31.cell? ⟨gb308, 1, none⟩ = some (.int .i64 a0_1) := (bC BK308.out 1).trans rfl; have hcz32_2 : w31.cell? ⟨gb308, 2, none⟩ = some (.string a0_2) := (bC BK308.out 2).trans rfl; have hcz32_3 : w31.cell? ⟨gb308, 3, none⟩ = some (.string a0_3) := (bC BK308.out 3).trans rfl; have hcz32_4 : w31.cell? ⟨gb308, 4, none⟩ = some (.slice A0_4 l0_4.length c0_4) := (bC BK308.out 4).trans rfl; have hcz32_5 : w31.cell? ⟨gb308, 5, none⟩ = some (.string a0_5) := (bC BK308.out 5).trans rfl; have hfz32_0 := bF BK308.out 0; have hfz32_1 := bF BK308.out 1; have hfz32_2 := bF BK308.out 2; have hfz32_3 := bF BK308.out 3; have hfz32_4 := bF BK308.out 4; have hfz32_5 := bF BK308.out 5))
        go_ret
        exact ⟨by first | rfl | (simp [*] <;> rfl), by repeat (first | (with_reducible first | exact HB.out | apply pA | apply pN | apply p1 | refine pS ?_ GE308.out) | exact HB.out)⟩
       ·rw [if_neg c30] at H
        have c30b0 : (a0_0 == 11) = false := oC c30
        have c30b1 : (a0_0 != 11) = true := bne_iff_ne.mpr c30
        by_cases c33 : a0_0 = 13
        ·rw [if_pos c33] at H
         have c33b0 : (a0_0 == 13) = true := beq_iff_eq.mpr c33
         have c33b1 : (a0_0 != 13) = false := oD c33
         clear c33
         obtain rfl := Option.some.inj H
         go_enter Tryd.func29, Tryd.ntmps29
         go_wp2_with (first | ((with_reducible refine gate_dst (N := 1) rfl ?_); refine box_event ?hg (N := 1) ?hd (cs := #[.int .i64 a0_0, .int .i64 a0_1, .string a0_2, .string a0_3, .slice A0_4 l0_4.length c0_4, .string a0_5]) (t := 24) ?hr ?_; (case hd => rfl); (case hg => rfl); (case hr => first | (go_simp; done) | (go_simp; rfl)); intro gb308 hg w34 hbox hb; have n0_ := q_ (pT (by repeat (first | (with_reducible first | exact HB.out | apply pA | apply pN | apply p1) | exact HB.out)) hb); have n1_ := q_ (hbox); have n2_ := q_ ((by rw [hg]; exact (pZ (by repeat (first | (with_reducible first | exact HB.out | apply pA | apply pN | apply p1) | exact HB.out))) : w.heap.size ≤ gb308)); have n3_ := q_ ((by rw [hg]; exact (pZ (by repeat (first | (with_reducible first | exact HB.out | apply pA | apply pN | apply p1) | exact HB.out))) : w.heap.size ≤ gb308)); clear HB; have HB := n0_; have BK308 := n1_; have GW308 := n2_; have GE308 := n3_; clear n0_ n1_ n2_ n3_; clear hb hbox hg; have hcz35_0 : w34.cell? ⟨gb308, 0, none⟩ = some (.int .i64 a0_0) := (bC BK308.out 0).trans rfl; have hcz35_1 : w34.cell? ⟨gb308, 1, none⟩ = some (.int .i64 a0_1) := (bC BK308.out 1).trans rfl; have hcz35_2 : w34.cell? ⟨gb308, 2, none⟩ = some (.string a0_2) := (bC BK308.out 2).trans rfl; have hcz35_3 : w34.cell? ⟨gb308, 3, none⟩ = some (.string a0_3) := (bC BK308.out 3).trans rfl; have hcz35_4 : w34.cell? ⟨gb308, 4, none⟩ = some (.slice A0_4 l0_4.length c0_4) := (bC BK308.out 4).trans rfl; have hcz35_5 : w34.cell? ⟨gb308, 5, none⟩ = some (.string a0_5) := (bC BK308.out 5).trans rfl; have hfz35_0 := bF BK308.out 0; have hfz35_1 := bF BK308.out 1; have hfz35_2 := bF BK308.out 2; have hfz35_3 := bF BK308.out 3; have hfz35_4 := bF BK308.out 4; have hfz35_5 := bF BK308.out 5))
         go_ret
         exact ⟨by first | rfl | (simp [*] <;> rfl), by repeat (first | (with_reducible first | exact HB.out | apply pA | apply pN | apply p1 | refine pS ?_ GE308.out) | exact HB.out)⟩
        ·rw [if_neg c33] at H
         have c33b0 : (a0_0 == 13) = false := oC c33
         have c33b1 : (a0_0 != 13) = true := bne_iff_ne.mpr c33
         by_cases c36 : a0_0 = 14
         ·rw [if_pos c36] at H
          have c36b0 : (a0_0 == 14) = true := beq_iff_eq.mpr c36
          have c36b1 : (a0_0 != 14) = false := oD c36
          clear c36
          obtain rfl := Option.some.inj H
          go_enter Tryd.func29, Tryd.ntmps29
          go_wp2_with (first | ((with_reducible refine gate_dst (N := 1) rfl ?_); refine box_event ?hg (N := 1) ?hd (cs := #[.int .i64 a0_0, .int .i64 a0_1, .string a0_2, .string a0_3, .slice A0_4 l0_4.length c0_4, .string a0_5]) (t := 24) ?hr ?_; (case hd => rfl); (case hg => rfl); (case hr => first | (go_simp; done) | (go_simp; rfl)); intro gb308 hg w37 hbox hb; have n0_ := q_ (pT (by repeat (first | (with_reducible first | exact HB.out | apply pA | apply pN | apply p1) | exact HB.out)) hb); have n1_ := q_ (hbox); have n2_ := q_ ((by rw [hg]; exact (pZ (by repeat (first | (with_reducible first | exact HB.out | apply pA | apply pN | apply p1) | exact HB.out))) : w.heap.size ≤ gb308)); have n3_ := q_ ((by rw [hg]; exact (pZ (by repeat (first | (with_reducible first | exact HB.out | apply pA | apply pN | apply p1) | exact HB.out))) : w.heap.size ≤ gb308)); clear HB; have HB := n0_; have BK308 := n1_; have GW308 := n2_; have GE308 := n3_; clear n0_ n1_ n2_ n3_; clear hb hbox hg; have hcz38_0 : w37.cell? ⟨gb308, 0, none⟩ = some (.int .i64 a0_0) := (bC BK308.out 0).trans rfl; have hcz38_1 : w37.cell? ⟨gb308, 1, none⟩ = some (.int .i64 a0_1) := (bC BK308.out 1).trans rfl; have hcz38_2 : w37.cell? ⟨gb308, 2, none⟩ = some (.string a0_2) := (bC BK308.out 2).trans rfl; have hcz38_3 : w37.cell? ⟨gb308, 3, none⟩ = some (.string a0_3) := (bC BK308.out 3).trans rfl; have hcz38_4 : w37.cell? ⟨gb308, 4, none⟩ = some (.slice A0_4 l0_4.length c0_4) := (bC BK308.out 4).trans rfl; have hcz38_5 : w37.cell? ⟨gb308, 5, none⟩ = some (.string a0_5) := (bC BK308.out 5).trans rfl; have hfz38_0 := bF BK308.out 0; have hfz38_1 := bF BK308.out 1; have hfz38_2 := bF BK308.out 2; have hfz38_3 := bF BK308.out 3; have hfz38_4 := bF BK308.out 4; have hfz38_5 := bF BK308.out 5))
          go_ret
          exact ⟨by first | rfl | (simp [*] <;> rfl), by repeat (first | (with_reducible first | exact HB.out | apply pA | apply pN | apply p1 | refine pS ?_ GE308.out) | exact HB.out)⟩
         ·rw [if_neg c36] at H
          have c36b0 : (a0_0 == 14) = false := oC c36
          have c36b1 : (a0_0 != 14) = true := bne_iff_ne.mpr c36
          obtain rfl := Option.some.inj H
          go_enter Tryd.func29, Tryd.ntmps29
          go_wp2_with (first | ((with_reducible refine gate_dst (N := 1) rfl ?_); refine box_event ?hg (N := 1) ?hd (cs := #[.int .i64 a0_0, .int .i64 a0_1, .string a0_2, .string a0_3, .slice A0_4 l0_4.length c0_4, .string a0_5]) (t := 24) ?hr ?_; (case hd => rfl); (case hg => rfl); (case hr => first | (go_simp; done) | (go_simp; rfl)); intro gb308 hg w39 hbox hb; have n0_ := q_ (pT (by repeat (first | (with_reducible first | exact HB.out | apply pA | apply pN | apply p1) | exact HB.out)) hb); have n1_ := q_ (hbox); have n2_ := q_ ((by rw [hg]; exact (pZ (by repeat (first | (with_reducible first | exact HB.out | apply pA | apply pN | apply p1) | exact HB.out))) : w.heap.size ≤ gb308)); have n3_ := q_ ((by rw [hg]; exact (pZ (by repeat (first | (with_reducible first | exact HB.out | apply pA | apply pN | apply p1) | exact HB.out))) : w.heap.size ≤ gb308)); clear HB; have HB := n0_; have BK308 := n1_; have GW308 := n2_; have GE308 := n3_; clear n0_ n1_ n2_ n3_; clear hb hbox hg; have hcz40_0 : w39.cell? ⟨gb308, 0, none⟩ = some (.int .i64 a0_0) := (bC BK308.out 0).trans rfl; have hcz40_1 : w39.cell? ⟨gb308, 1, none⟩ = some (.int .i64 a0_1) := (bC BK308.out 1).trans rfl; have hcz40_2 : w39.cell? ⟨gb308, 2, none⟩ = some (.string a0_2) := (bC BK308.out 2).trans rfl; have hcz40_3 : w39.cell? ⟨gb308, 3, none⟩ = some (.string a0_3) := (bC BK308.out 3).trans rfl; have hcz40_4 : w39.cell? ⟨gb308, 4, none⟩ = some (.slice A0_4 l0_4.length c0_4) := (bC BK308.out 4).trans rfl; have hcz40_5 : w39.cell? ⟨gb308, 5, none⟩ = some (.string a0_5) := (bC BK308.out 5).trans rfl; have hfz40_0 := bF BK308.out 0; have hfz40_1 := bF BK308.out 1; have hfz40_2 := bF BK308.out 2; have hfz40_3 := bF BK308.out 3; have hfz40_4 := bF BK308.out 4; have hfz40_5 := bF BK308.out 5))
          go_ret
          exact ⟨by first | rfl | (simp [*] <;> rfl), by repeat (first | (with_reducible first | exact HB.out | apply pA | apply pN | apply p1 | refine pS ?_ GE308.out) | exact HB.out)⟩
end Go.Proofs.YtbahagcidhmojaaDoor.PA
