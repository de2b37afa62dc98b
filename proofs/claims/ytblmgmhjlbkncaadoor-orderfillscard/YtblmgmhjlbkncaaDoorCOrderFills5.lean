/- Each Go function that the law reaches as a Lean function, and that its call comes to that function's answer. -/
import Derived.Test.YtblmgmhjlbkncaaDoorCOrderFills4
import Derived.Test.YtblmgmhjlbkncaaDoorVOrderFills
import Derived.Test.YtblmgmhjlbkncaaDoorProg
import Derived.Test.YtblmgmhjlbkncaaDoorShelf
import Derived.Below
import Derived.Deep.Draws
import Derived.Deep.AppendLies
import Derived.Maps.AppendAt
import Derived.OwnWalk
import Derived.Laws.BytesArg
import Derived.Laws.MakeOwn
import Derived.Laws.OwnMore
import Derived.Deep.OwnRows
import Derived.Tactics
import Derived.Lib.ConvBytes
import Derived.Laws.Slices
import Derived.WalkKit
import Derived.KernelRfl
import Derived.RowKit3
import Derived.Deep.LoopGhost
import Derived.Deep.QuietTactic
import Derived.BigQuiet
import Derived.WideLaws
import Derived.Deep.DeepCutAuto
import Derived.Deep.CutBlock
import Derived.Deep.RegionHeld3
import Derived.Laws.Rows
import Derived.Lib.AppendStr
import Derived.ArgAppend
import Derived.Laws.IdiomCopy
import Derived.OrdersHeld
import Derived.Laws.BitsLemmas
import Derived.RowKit
import Derived.LoopN
import Derived.Laws.EntriesVeiled
import Derived.LaidSub
import Derived.MakeChecks
import Derived.Lib.LaidTab
import Derived.Maps.OwnOps
import Derived.Maps.Views
import Derived.Maps.Keyed
import Derived.Shelf.SlicesQ.Load
import Derived.Laws.Tables
namespace Go.Proofs.YtblmgmhjlbkncaaDoor.PA
open Go.RowKit Go.Proofs.YtblmgmhjlbkncaaDoorW.PrintWords Go.Proofs.YtblmgmhjlbkncaaDoorW.PrintLast Go.Proofs.YtblmgmhjlbkncaaDoorW.PrintMore
attribute [local go_sem] max2_int min2_int max_two min_two max_three min_three max_four min_four
set_option linter.unusedVariables false
set_option linter.unusedSimpArgs false
def sawmillref30_within.f (a0_0 : Int) (a0_1 : Int) (a1 : Int) (a2 : Int) : Option (Bool) := if a0_0 ≥ a1 then (if a0_0 ≤ a2 then (if a0_1 ≥ a1 then (some (decide (a0_1 ≤ a2))) else (some false)) else (some false)) else (some false)
set_option maxHeartbeats 8000000 in
set_option maxRecDepth 100000 in
theorem sawmillref30_within.calls (a0_0 : Int) (a0_1 : Int) (a1 : Int) (a2 : Int) (r : Bool) (w : World) (h : sawmillref30_within.f a0_0 a0_1 a1 a2 = some r) :
  Calls Tryd.prog 71 #[.agg #[.int .i64 a0_0, .int .i64 a0_1], .int .i64 a1, .int .i64 a2] w fun e w' => e = .returned (.bool r) ∧ Below w.heap.size w w' := by
 have hu31 := Tryd.underlying31
 have HB := q_ (Below.refl w.heap.size w)
 have H : (if a0_0 ≥ a1 then (if a0_0 ≤ a2 then (if a0_1 ≥ a1 then (some (decide (a0_1 ≤ a2))) else (some false)) else (some false)) else (some false)) = some r := h
 clear h
 by_cases c4 : a0_0 ≥ a1
 ·rw [if_pos c4] at H
  have c4b0 : decide (a1 ≤ a0_0) = true := decide_eq_true c4
  clear c4
  by_cases c5 : a0_0 ≤ a2
  ·rw [if_pos c5] at H
   have c5b0 : decide (a0_0 ≤ a2) = true := decide_eq_true c5
   clear c5
   by_cases c6 : a0_1 ≥ a1
   ·rw [if_pos c6] at H
    have c6b0 : decide (a1 ≤ a0_1) = true := decide_eq_true c6
    clear c6
    obtain rfl := Option.some.inj H
    go_enter Tryd.func71, Tryd.ntmps71
    go_wp2_with (first | ((with_reducible refine gate_dst (N := 3) rfl ?_); refine box_event ?hg (N := 3) ?hd (cs := #[.int .i64 a0_0, .int .i64 a0_1]) (t := 31) ?hr ?_; (case hd => rfl); (case hg => rfl); (case hr => first | (go_simp; done) | (go_simp; rfl)); intro gb317 hg w7 hbox hb; have n0_ := q_ (pT (by repeat (first | (with_reducible first | exact HB.out | apply pA | apply pN | apply p1) | exact HB.out)) hb); have n1_ := q_ (hbox); have n2_ := q_ ((by rw [hg]; exact (pZ (by repeat (first | (with_reducible first | exact HB.out | apply pA | apply pN | apply p1) | exact HB.out))) : w.heap.size ≤ gb317)); have n3_ := n2_; clear HB; have HB := n0_; have BK317 := n1_; have GW317 := n2_; have GE317 := n3_; clear n0_ n1_ n2_ n3_; clear hb hbox hg; have hcz8_0 : w7.cell? ⟨gb317, 0, none⟩ = some (.int .i64 a0_0) := (bC BK317.out 0).trans rfl; have hcz8_1 : w7.cell? ⟨gb317, 1, none⟩ = some (.int .i64 a0_1) := (bC BK317.out 1).trans rfl; have hfz8_0 := bF BK317.out 0; have hfz8_1 := bF BK317.out 1))
    go_ret
    exact ⟨by first | rfl | (simp [*] <;> rfl), by repeat (first | (with_reducible first | exact HB.out | apply pA | apply pN | apply p1 | refine pS ?_ GE317.out) | exact HB.out)⟩
   ·rw [if_neg c6] at H
    have c6b0 : decide (a1 ≤ a0_1) = false := decide_eq_false c6
    clear c6
    obtain rfl := Option.some.inj H
    go_enter Tryd.func71, Tryd.ntmps71
    go_wp2_with (first | ((with_reducible refine gate_dst (N := 3) rfl ?_); refine box_event ?hg (N := 3) ?hd (cs := #[.int .i64 a0_0, .int .i64 a0_1]) (t := 31) ?hr ?_; (case hd => rfl); (case hg => rfl); (case hr => first | (go_simp; done) | (go_simp; rfl)); intro gb317 hg w9 hbox hb; have n0_ := q_ (pT (by repeat (first | (with_reducible first | exact HB.out | apply pA | apply pN | apply p1) | exact HB.out)) hb); have n1_ := q_ (hbox); have n2_ := q_ ((by rw [hg]; exact (pZ (by repeat (first | (with_reducible first | exact HB.out | apply pA | apply pN | apply p1) | exact HB.out))) : w.heap.size ≤ gb317)); have n3_ := n2_; clear HB; have HB := n0_; have BK317 := n1_; have GW317 := n2_; have GE317 := n3_; clear n0_ n1_ n2_ n3_; clear hb hbox hg; have hcz10_0 : w9.cell? ⟨gb317, 0, none⟩ = some (.int .i64 a0_0) := (bC BK317.out 0).trans rfl; have hcz10_1 : w9.cell? ⟨gb317, 1, none⟩ = some (.int .i64 a0_1) := (bC BK317.out 1).trans rfl; have hfz10_0 := bF BK317.out 0; have hfz10_1 := bF BK317.out 1))
    go_ret
    exact ⟨by first | rfl | (simp [*] <;> rfl), by repeat (first | (with_reducible first | exact HB.out | apply pA | apply pN | apply p1 | refine pS ?_ GE317.out) | exact HB.out)⟩
  ·rw [if_neg c5] at H
   have c5b0 : decide (a0_0 ≤ a2) = false := decide_eq_false c5
   clear c5
   obtain rfl := Option.some.inj H
   go_enter Tryd.func71, Tryd.ntmps71
   go_wp2_with (first | ((with_reducible refine gate_dst (N := 3) rfl ?_); refine box_event ?hg (N := 3) ?hd (cs := #[.int .i64 a0_0, .int .i64 a0_1]) (t := 31) ?hr ?_; (case hd => rfl); (case hg => rfl); (case hr => first | (go_simp; done) | (go_simp; rfl)); intro gb317 hg w11 hbox hb; have n0_ := q_ (pT (by repeat (first | (with_reducible first | exact HB.out | apply pA | apply pN | apply p1) | exact HB.out)) hb); have n1_ := q_ (hbox); have n2_ := q_ ((by rw [hg]; exact (pZ (by repeat (first | (with_reducible first | exact HB.out | apply pA | apply pN | apply p1) | exact HB.out))) : w.heap.size ≤ gb317)); have n3_ := n2_; clear HB; have HB := n0_; have BK317 := n1_; have GW317 := n2_; have GE317 := n3_; clear n0_ n1_ n2_ n3_; clear hb hbox hg; have hcz12_0 : w11.cell? ⟨gb317, 0, none⟩ = some (.int .i64 a0_0) := (bC BK317.out 0).trans rfl; have hcz12_1 : w11.cell? ⟨gb317, 1, none⟩ = some (.int .i64 a0_1) := (bC BK317.out 1).trans rfl; have hfz12_0 := bF BK317.out 0; have hfz12_1 := bF BK317.out 1))
   go_ret
   exact ⟨by first | rfl | (simp [*] <;> rfl), by repeat (first | (with_reducible first | exact HB.out | apply pA | apply pN | apply p1 | refine pS ?_ GE317.out) | exact HB.out)⟩
 ·rw [if_neg c4] at H
  have c4b0 : decide (a1 ≤ a0_0) = false := decide_eq_false c4
  clear c4
  obtain rfl := Option.some.inj H
  go_enter Tryd.func71, Tryd.ntmps71
  go_wp2_with (first | ((with_reducible refine gate_dst (N := 3) rfl ?_); refine box_event ?hg (N := 3) ?hd (cs := #[.int .i64 a0_0, .int .i64 a0_1]) (t := 31) ?hr ?_; (case hd => rfl); (case hg => rfl); (case hr => first | (go_simp; done) | (go_simp; rfl)); intro gb317 hg w13 hbox hb; have n0_ := q_ (pT (by repeat (first | (with_reducible first | exact HB.out | apply pA | apply pN | apply p1) | exact HB.out)) hb); have n1_ := q_ (hbox); have n2_ := q_ ((by rw [hg]; exact (pZ (by repeat (first | (with_reducible first | exact HB.out | apply pA | apply pN | apply p1) | exact HB.out))) : w.heap.size ≤ gb317)); have n3_ := n2_; clear HB; have HB := n0_; have BK317 := n1_; have GW317 := n2_; have GE317 := n3_; clear n0_ n1_ n2_ n3_; clear hb hbox hg; have hcz14_0 : w13.cell? ⟨gb317, 0, none⟩ = some (.int .i64 a0_0) := (bC BK317.out 0).trans rfl; have hcz14_1 : w13.cell? ⟨gb317, 1, none⟩ = some (.int .i64 a0_1) := (bC BK317.out 1).trans rfl; have hfz14_0 := bF BK317.out 0; have hfz14_1 := bF BK317.out 1))
  go_ret
  exact ⟨by first | rfl | (simp [*] <;> rfl), by repeat (first | (with_reducible first | exact HB.out | apply pA | apply pN | apply p1 | refine pS ?_ GE317.out) | exact HB.out)⟩
def sawmillref30_length.f (a0_0 : Int) (a0_1 : Int) : Option (Int) := some (wrap64 (a0_1 - a0_0))
set_option maxHeartbeats 8000000 in
set_option maxRecDepth 100000 in
theorem sawmillref30_length.calls (a0_0 : Int) (a0_1 : Int) (r : Int) (w : World) (h : sawmillref30_length.f a0_0 a0_1 = some r) :
  Calls Tryd.prog 72 #[.agg #[.int .i64 a0_0, .int .i64 a0_1]] w fun e w' => e = .returned (.int .i64 r) ∧ Below w.heap.size w w' := by
 have hu31 := Tryd.underlying31
 have HB := q_ (Below.refl w.heap.size w)
 have H : (some (wrap64 (a0_1 - a0_0))) = some r := h
 clear h
 obtain rfl := Option.some.inj H
 go_enter Tryd.func72, Tryd.ntmps72
 go_wp2_with (first | ((with_reducible refine gate_dst (N := 1) rfl ?_); refine box_event ?hg (N := 1) ?hd (cs := #[.int .i64 a0_0, .int .i64 a0_1]) (t := 31) ?hr ?_; (case hd => rfl); (case hg => rfl); (case hr => first | (go_simp; done) | (go_simp; rfl)); intro gb318 hg w2 hbox hb; have n0_ := q_ (pT (by repeat (first | (with_reducible first | exact HB.out | apply pA | apply pN | apply p1) | exact HB.out)) hb); have n1_ := q_ (hbox); have n2_ := q_ ((by rw [hg]; exact (pZ (by repeat (first | (with_reducible first | exact HB.out | apply pA | apply pN | apply p1) | exact HB.out))) : w.heap.size ≤ gb318)); have n3_ := n2_; clear HB; have HB := n0_; have BK318 := n1_; have GW318 := n2_; have GE318 := n3_; clear n0_ n1_ n2_ n3_; clear hb hbox hg; have hcz3_0 : w2.cell? ⟨gb318, 0, none⟩ = some (.int .i64 a0_0) := (bC BK318.out 0).trans rfl; have hcz3_1 : w2.cell? ⟨gb318, 1, none⟩ = some (.int .i64 a0_1) := (bC BK318.out 1).trans rfl; have hfz3_0 := bF BK318.out 0; have hfz3_1 := bF BK318.out 1))
 go_ret
 exact ⟨by first | rfl | (simp [*] <;> rfl), by repeat (first | (with_reducible first | exact HB.out | apply pA | apply pN | apply p1 | refine pS ?_ GE318.out) | exact HB.out)⟩
def sawmillref30_Length.f (a0_0 : ByteArray) (a0_1 : ByteArray) (a0_2 : ByteArray) (a0_3 : Int) (a0_4 : Int) (a0_5 : Int) (a0_6 : Int) (a0_7 : Int) (a0_8 : Int) (a0_9 : Int) (a0_10 : Int) (l0_11 : List (S176)) (a0_12 : Int) (a0_13 : Int) (a0_14 : Int) (a0_15 : Int) (a0_16 : Bool) (a0_17 : Int) : Option (Int) := (sawmillref30_within.f a0_8 a0_9 0 20000).bind fun t320 => (if t320 = true then ((sawmillref30_length.f a0_8 a0_9).bind fun t321 => (some (mx 0 t321))) else (some 0))
set_option maxHeartbeats 8000000 in
set_option maxRecDepth 100000 in
theorem sawmillref30_Length.calls (a0_0 : ByteArray) (a0_1 : ByteArray) (a0_2 : ByteArray) (a0_3 : Int) (a0_4 : Int) (a0_5 : Int) (a0_6 : Int) (a0_7 : Int) (a0_8 : Int) (a0_9 : Int) (a0_10 : Int) (A0_11 : Option Addr) (c0_11 : Nat) (l0_11 : List (S176)) (a0_12 : Int) (a0_13 : Int) (a0_14 : Int) (a0_15 : Int) (a0_16 : Bool) (a0_17 : Int) (r : Int) (w : World) (hr0_11 : Kd.C k176 w A0_11 l0_11.length l0_11) (hc0_11 : l0_11.length ≤ c0_11) (h : sawmillref30_Length.f a0_0 a0_1 a0_2 a0_3 a0_4 a0_5 a0_6 a0_7 a0_8 a0_9 a0_10 l0_11 a0_12 a0_13 a0_14 a0_15 a0_16 a0_17 = some r) :
  Calls Tryd.prog 39 #[.agg #[.string a0_0, .string a0_1, .string a0_2, .int .i64 a0_3, .int .i64 a0_4, .int .i64 a0_5, .int .i64 a0_6, .int .i64 a0_7, .int .i64 a0_8, .int .i64 a0_9, .int .i64 a0_10, .slice A0_11 l0_11.length c0_11, .int .i64 a0_12, .int .i64 a0_13, .int .i64 a0_14, .int .i64 a0_15, .bool a0_16, .int .i64 a0_17]] w fun e w' => e = .returned (.int .i64 r) ∧ Below w.heap.size w w' := by
 have hu38 := Tryd.underlying38
 have hu31 := Tryd.underlying31
 have HR0_11 := Aside0.mk hr0_11
 have HC0_11 := Aside0.mk hc0_11
 clear hr0_11 hc0_11
 have HB := q_ (Below.refl w.heap.size w)
 have H : ((sawmillref30_within.f a0_8 a0_9 0 20000).bind fun t320 => (if t320 = true then ((sawmillref30_length.f a0_8 a0_9).bind fun t321 => (some (mx 0 t321))) else (some 0))) = some r := h
 clear h
 replace H := oB H
 obtain ⟨t320, A20, H⟩ := H
 replace H : (if t320 = true then ((sawmillref30_length.f a0_8 a0_9).bind fun t321 => (some (mx 0 t321))) else (some 0)) = some r := H
 have A2 := Aside0.mk A20
 clear A20
 by_cases c3 : t320 = true
 ·subst c3
  have H1 : ((sawmillref30_length.f a0_8 a0_9).bind fun t321 => (some (mx 0 t321))) = some r := by rw [if_pos rfl] at H; exact H
  clear H
  have H := H1
  clear H1
  replace H := oB H
  obtain ⟨t321, A40, H⟩ := H
  replace H : (some (mx 0 t321)) = some r := H
  have A4 := Aside0.mk A40
  clear A40
  obtain ⟨ji5, hji5⟩ : ∃ j_ : Int, (mx 0 t321) = j_ := ⟨_, rfl⟩
  replace H : (some ji5) = some r := by first | (rw [hji5] at H; exact H) | (simp only [hji5] at H ⊢; exact H)
  (try rw [hji5] at A2)
  (try rw [hji5] at A4)
  (try (have hji5l : 0 ≤ ji5 := by (rw [← hji5]; unfold mx; (repeat' split) <;> omega)))
  (try (have hji5m : 0 ≤ ji5 := by omega))
  have hji5_ : (if 0 < t321 then t321 else 0) = ji5 := hji5
  obtain rfl := Option.some.inj H
  go_enter Tryd.func39, Tryd.ntmps39
  go_wp2_with (first | (refine wpList_load_cells (by rfl) 38 _ (by exact rfl) ⟨gb319, 0, none⟩ (by rfl) _ _ (cells_of_blk (by (with_reducible repeat (first | refine bN ?_ _ | refine bW ?_ | refine bA ?_ _)); exact BK319.out)) Tryd.underlying38 rfl (by kernel_rfl) ?_) | ((with_reducible refine gate_dst (N := 1) rfl ?_); refine box_event ?hg (N := 1) ?hd (cs := #[.string a0_0, .string a0_1, .string a0_2, .int .i64 a0_3, .int .i64 a0_4, .int .i64 a0_5, .int .i64 a0_6, .int .i64 a0_7, .int .i64 a0_8, .int .i64 a0_9, .int .i64 a0_10, .slice A0_11 l0_11.length c0_11, .int .i64 a0_12, .int .i64 a0_13, .int .i64 a0_14, .int .i64 a0_15, .bool a0_16, .int .i64 a0_17]) (t := 38) ?hr ?_; (case hd => rfl); (case hg => rfl); (case hr => first | (go_simp; done) | (go_simp; rfl)); intro gb319 hg w6 hbox hb; have n0_ := q_ (pT (by repeat (first | (with_reducible first | exact HB.out | apply pA | apply pN | apply p1) | exact HB.out)) hb); have n1_ := q_ (hbox); have n2_ := q_ ((by rw [hg]; exact (pZ (by repeat (first | (with_reducible first | exact HB.out | apply pA | apply pN | apply p1) | exact HB.out))) : w.heap.size ≤ gb319)); have n3_ := n2_; clear HB; have HB := n0_; have BK319 := n1_; have GW319 := n2_; have GE319 := n3_; clear n0_ n1_ n2_ n3_; clear hb hbox hg; have hcz7 := blk_all BK319.out; simp only [CellsAt, List.toList_toArray, Nat.reduceAdd, and_true] at hcz7; have hfz7 := bF BK319.out) | ((with_reducible refine gate_callee (f := 71) rfl ?_); refine goesL_ (some 6) rfl rfl Tryd.func71 (by kernel_rfl) rfl #[.agg #[.int .i64 a0_8, .int .i64 a0_9], .int .i64 0, .int .i64 20000] rfl (by first | rfl | (simp only [List.map_toArray]; rfl)) ?_; (with_reducible refine (sawmillref30_within.calls a0_8 a0_9 0 20000 true _ A2.out).mono ?_); rintro e w8 ⟨rfl, hb⟩; refine ⟨_, rfl, ?_⟩; have n0_ := q_ (bB (g := gb319) (by (with_reducible repeat (first | refine bN ?_ _ | refine bW ?_ | refine bA ?_ _)); exact BK319.out) hb); have n1_ := q_ (pT (by repeat (first | (with_reducible first | exact HB.out | apply pA | apply pN | apply p1 | refine pS ?_ GE319.out) | exact HB.out)) hb); clear BK319; clear HB; have BK319 := n0_; have HB := n1_; clear n0_ n1_; (try clear hb); (try clear hb2); (try clear hk); (try clear hi); have hcz9 := blk_all BK319.out; simp only [CellsAt, List.toList_toArray, Nat.reduceAdd, and_true] at hcz9; have hfz9 := bF BK319.out) | ((with_reducible refine gate_callee (f := 72) rfl ?_); refine goesL_ (some 11) rfl rfl Tryd.func72 (by kernel_rfl) rfl #[.agg #[.int .i64 a0_8, .int .i64 a0_9]] rfl (by first | rfl | (simp only [List.map_toArray]; rfl)) ?_; (with_reducible refine (sawmillref30_length.calls a0_8 a0_9 t321 _ A4.out).mono ?_); rintro e w10 ⟨rfl, hb⟩; refine ⟨_, rfl, ?_⟩; have n0_ := q_ (bB (g := gb319) (by (with_reducible repeat (first | refine bN ?_ _ | refine bW ?_ | refine bA ?_ _)); exact BK319.out) hb); have n1_ := q_ (pT (by repeat (first | (with_reducible first | exact HB.out | apply pA | apply pN | apply p1 | refine pS ?_ GE319.out) | exact HB.out)) hb); clear BK319; clear HB; have BK319 := n0_; have HB := n1_; clear n0_ n1_; (try clear hb); (try clear hb2); (try clear hk); (try clear hi)))
  go_ret
  exact ⟨by first | rfl | (simp [errW_none, errW_some] <;> rfl) | (simp only [← hji5]; first | rfl | (simp [errW_none, errW_some] <;> rfl)) | (simp [*, errW_none, errW_some] <;> rfl), by repeat (first | (with_reducible first | exact HB.out | apply pA | apply pN | apply p1 | refine pS ?_ GE319.out) | exact HB.out)⟩
 ·replace c3 := Bool.eq_false_iff.mpr c3
  subst c3
  have H1 : (some 0) = some r := by rw [if_neg (show ¬ (false = true) by decide)] at H; exact H
  clear H
  have H := H1
  clear H1
  obtain rfl := Option.some.inj H
  go_enter Tryd.func39, Tryd.ntmps39
  go_wp2_with (first | (refine wpList_load_cells (by rfl) 38 _ (by exact rfl) ⟨gb319, 0, none⟩ (by rfl) _ _ (cells_of_blk (by (with_reducible repeat (first | refine bN ?_ _ | refine bW ?_ | refine bA ?_ _)); exact BK319.out)) Tryd.underlying38 rfl (by kernel_rfl) ?_) | ((with_reducible refine gate_dst (N := 1) rfl ?_); refine box_event ?hg (N := 1) ?hd (cs := #[.string a0_0, .string a0_1, .string a0_2, .int .i64 a0_3, .int .i64 a0_4, .int .i64 a0_5, .int .i64 a0_6, .int .i64 a0_7, .int .i64 a0_8, .int .i64 a0_9, .int .i64 a0_10, .slice A0_11 l0_11.length c0_11, .int .i64 a0_12, .int .i64 a0_13, .int .i64 a0_14, .int .i64 a0_15, .bool a0_16, .int .i64 a0_17]) (t := 38) ?hr ?_; (case hd => rfl); (case hg => rfl); (case hr => first | (go_simp; done) | (go_simp; rfl)); intro gb319 hg w11 hbox hb; have n0_ := q_ (pT (by repeat (first | (with_reducible first | exact HB.out | apply pA | apply pN | apply p1) | exact HB.out)) hb); have n1_ := q_ (hbox); have n2_ := q_ ((by rw [hg]; exact (pZ (by repeat (first | (with_reducible first | exact HB.out | apply pA | apply pN | apply p1) | exact HB.out))) : w.heap.size ≤ gb319)); have n3_ := n2_; clear HB; have HB := n0_; have BK319 := n1_; have GW319 := n2_; have GE319 := n3_; clear n0_ n1_ n2_ n3_; clear hb hbox hg; have hcz12 := blk_all BK319.out; simp only [CellsAt, List.toList_toArray, Nat.reduceAdd, and_true] at hcz12; have hfz12 := bF BK319.out) | ((with_reducible refine gate_callee (f := 71) rfl ?_); refine goesL_ (some 6) rfl rfl Tryd.func71 (by kernel_rfl) rfl #[.agg #[.int .i64 a0_8, .int .i64 a0_9], .int .i64 0, .int .i64 20000] rfl (by first | rfl | (simp only [List.map_toArray]; rfl)) ?_; (with_reducible refine (sawmillref30_within.calls a0_8 a0_9 0 20000 false _ A2.out).mono ?_); rintro e w13 ⟨rfl, hb⟩; refine ⟨_, rfl, ?_⟩; have n0_ := q_ (bB (g := gb319) (by (with_reducible repeat (first | refine bN ?_ _ | refine bW ?_ | refine bA ?_ _)); exact BK319.out) hb); have n1_ := q_ (pT (by repeat (first | (with_reducible first | exact HB.out | apply pA | apply pN | apply p1 | refine pS ?_ GE319.out) | exact HB.out)) hb); clear BK319; clear HB; have BK319 := n0_; have HB := n1_; clear n0_ n1_; (try clear hb); (try clear hb2); (try clear hk); (try clear hi)))
  go_ret
  exact ⟨by first | rfl | (simp [*] <;> rfl), by repeat (first | (with_reducible first | exact HB.out | apply pA | apply pN | apply p1 | refine pS ?_ GE319.out) | exact HB.out)⟩
def sawmillref36_Check.j0 : Nat → Bool → Int → Int → Int → Option (Int)
 | 0, _, _, _, _ => none
 | k + 1, x20, x323000, x323001, x323002 => if x20 = true then (some 25) else (if x323002 < 0 then (some 9) else (if x323002 > 1099511627776 then (some 9) else (some 0)))
def sawmillref36_Check.f (k : Nat) (a0_0 : Int) (a0_1 : Int) (a0_2 : Int) : Option (Int) := if a0_0 < 0 then (sawmillref36_Check.j0 k true a0_0 a0_1 a0_2) else (if a0_0 > 20000 then (sawmillref36_Check.j0 k true a0_0 a0_1 a0_2) else (if a0_1 < 0 then (sawmillref36_Check.j0 k true a0_0 a0_1 a0_2) else (sawmillref36_Check.j0 k (decide (a0_1 > 20000)) a0_0 a0_1 a0_2)))
theorem sawmillref36_Check.mono_l : ∀ k, (∀ y0 y1 y2 y3, LeO (sawmillref36_Check.j0 k y0 y1 y2 y3) (sawmillref36_Check.j0 (k + 1) y0 y1 y2 y3))
 | 0 => fun _ _ _ _ r h => by simp [sawmillref36_Check.j0] at h
 | k + 1 => by
  have ih0 := sawmillref36_Check.mono_l k
  ·intro y0 y1 y2 y3
   unfold sawmillref36_Check.j0
   repeat' first
   | (with_reducible exact ih0 _ _ _ _)
   | (with_reducible exact LeO.refl _)
   | (with_reducible exact LeO.none _)
   | (with_reducible refine LeO.ite ?_ ?_)
   | (with_reducible refine LeO.bind ?_ (fun _ => ?_))
   | exact ih0 _ _ _ _
   | exact LeO.none _
   | refine LeO.ite ?_ ?_
   | refine LeO.bind ?_ (fun _ => ?_)
theorem sawmillref36_Check.mono : ∀ a0 a1 a2 k, LeO (sawmillref36_Check.f k a0 a1 a2) (sawmillref36_Check.f (k + 1) a0 a1 a2) := by
 intro a0 a1 a2 k
 have ih0 := sawmillref36_Check.mono_l k
 unfold sawmillref36_Check.f
 repeat' first
   | (with_reducible exact ih0 _ _ _ _)
   | (with_reducible exact LeO.refl _)
   | (with_reducible exact LeO.none _)
   | (with_reducible refine LeO.ite ?_ ?_)
   | (with_reducible refine LeO.bind ?_ (fun _ => ?_))
   | exact ih0 _ _ _ _
   | exact LeO.none _
   | refine LeO.ite ?_ ?_
   | refine LeO.bind ?_ (fun _ => ?_)
set_option maxHeartbeats 8000000 in
set_option maxRecDepth 100000 in
theorem sawmillref36_Check.calls (k : Nat) (a0_0 : Int) (a0_1 : Int) (a0_2 : Int) (r : Int) (w : World) (h : sawmillref36_Check.f k a0_0 a0_1 a0_2 = some r) :
  Calls Tryd.prog 73 #[.agg #[.int .i64 a0_0, .int .i64 a0_1, .int .i64 a0_2]] w fun e w' => e = .returned (.int .i64 r) ∧ Below w.heap.size w w' := by
 have hu36 := Tryd.underlying36
 have HB := q_ (Below.refl w.heap.size w)
 have H : (if a0_0 < 0 then (sawmillref36_Check.j0 k true a0_0 a0_1 a0_2) else (if a0_0 > 20000 then (sawmillref36_Check.j0 k true a0_0 a0_1 a0_2) else (if a0_1 < 0 then (sawmillref36_Check.j0 k true a0_0 a0_1 a0_2) else (sawmillref36_Check.j0 k (decide (a0_1 > 20000)) a0_0 a0_1 a0_2)))) = some r := h
 clear h
 have HC2 := Aside0.mk H
 clear H
 go_enter Tryd.func73, Tryd.ntmps73
 go_upto_region 1 with (first | ((with_reducible refine gate_dst (N := 1) rfl ?_); refine box_event ?hg (N := 1) ?hd (cs := #[.int .i64 a0_0, .int .i64 a0_1, .int .i64 a0_2]) (t := 36) ?hr ?_; (case hd => rfl); (case hg => rfl); (case hr => first | (go_simp; done) | (go_simp; rfl)); intro gb322 hg w3 hbox hb; have n0_ := q_ (pT (by repeat (first | (with_reducible first | exact HB.out | apply pA | apply pN | apply p1) | exact HB.out)) hb); have n1_ := q_ (hbox); have n2_ := q_ ((by rw [hg]; exact (pZ (by repeat (first | (with_reducible first | exact HB.out | apply pA | apply pN | apply p1) | exact HB.out))) : w.heap.size ≤ gb322)); have n3_ := n2_; clear HB; have HB := n0_; have BK322 := n1_; have GW322 := n2_; have GE322 := n3_; clear n0_ n1_ n2_ n3_; clear hb hbox hg))
 (try simp only [Act.put, List.setIfInBounds_toArray, List.set_cons_zero, List.set_cons_succ])
 go_cut [20] (fun v20 wc => ∃ (kq : Nat) (x20_1 : Bool), v20 = .bool x20_1 ∧ Aside0 (sawmillref36_Check.j0 kq x20_1 a0_0 a0_1 a0_2 = some r) ∧ Aside0 (kq ≤ k) ∧ Aside0 (wc.heap[gb322]? = some (.cells #[.int .i64 a0_0, .int .i64 a0_1, .int .i64 a0_2] 36 (0, 0))) ∧ Aside0 (Below w.heap.size w wc))
 case first =>
  have H := HC2.out
  clear HC2
  by_cases c4 : a0_0 < 0
  ·rw [if_pos c4] at H
   have c4b0 : decide (a0_0 < 0) = true := decide_eq_true c4
   clear c4
   (first | rw [c4b0] | (simp only [i64_w, i32_w]; rw [c4b0]) | skip)
   have H' := Aside0.mk H
   clear H
   have hcz5_0 : w3.cell? ⟨gb322, 0, none⟩ = some (.int .i64 a0_0) := (bC BK322.out 0).trans rfl
   have hcz5_1 : w3.cell? ⟨gb322, 1, none⟩ = some (.int .i64 a0_1) := (bC BK322.out 1).trans rfl
   have hcz5_2 : w3.cell? ⟨gb322, 2, none⟩ = some (.int .i64 a0_2) := (bC BK322.out 2).trans rfl
   have hfz5_0 := bF BK322.out 0
   have hfz5_1 := bF BK322.out 1
   have hfz5_2 := bF BK322.out 2
   go_wp2
   go_meet
   case rel => exact ⟨_, (true), (by first | rfl | (simp; done) | (simp [*]; done)), H', ⟨by first | omega | exact Nat.le_refl _⟩, ⟨by (with_reducible repeat (first | refine bN ?_ _ | refine bW ?_ | refine bA ?_ _)); exact BK322.out⟩, ⟨by repeat (first | (with_reducible first | exact HB.out | apply pA | apply pN | apply p1 | refine pS ?_ GE322.out) | exact HB.out)⟩⟩
  ·rw [if_neg c4] at H
   have c4b0 : decide (a0_0 < 0) = false := decide_eq_false c4
   clear c4
   (first | rw [c4b0] | (simp only [i64_w, i32_w]; rw [c4b0]) | skip)
   by_cases c6 : a0_0 > 20000
   ·rw [if_pos c6] at H
    have c6b0 : decide (20000 < a0_0) = true := decide_eq_true c6
    clear c6
    have H' := Aside0.mk H
    clear H
    have hcz7_0 : w3.cell? ⟨gb322, 0, none⟩ = some (.int .i64 a0_0) := (bC BK322.out 0).trans rfl
    have hcz7_1 : w3.cell? ⟨gb322, 1, none⟩ = some (.int .i64 a0_1) := (bC BK322.out 1).trans rfl
    have hcz7_2 : w3.cell? ⟨gb322, 2, none⟩ = some (.int .i64 a0_2) := (bC BK322.out 2).trans rfl
    have hfz7_0 := bF BK322.out 0
    have hfz7_1 := bF BK322.out 1
    have hfz7_2 := bF BK322.out 2
    go_wp2
    go_meet
    case rel => exact ⟨_, (true), (by first | rfl | (simp; done) | (simp [*]; done)), H', ⟨by first | omega | exact Nat.le_refl _⟩, ⟨by (with_reducible repeat (first | refine bN ?_ _ | refine bW ?_ | refine bA ?_ _)); exact BK322.out⟩, ⟨by repeat (first | (with_reducible first | exact HB.out | apply pA | apply pN | apply p1 | refine pS ?_ GE322.out) | exact HB.out)⟩⟩
   ·rw [if_neg c6] at H
    have c6b0 : decide (20000 < a0_0) = false := decide_eq_false c6
    clear c6
    by_cases c8 : a0_1 < 0
    ·rw [if_pos c8] at H
     have c8b0 : decide (a0_1 < 0) = true := decide_eq_true c8
     clear c8
     have H' := Aside0.mk H
     clear H
     have hcz9_0 : w3.cell? ⟨gb322, 0, none⟩ = some (.int .i64 a0_0) := (bC BK322.out 0).trans rfl
     have hcz9_1 : w3.cell? ⟨gb322, 1, none⟩ = some (.int .i64 a0_1) := (bC BK322.out 1).trans rfl
     have hcz9_2 : w3.cell? ⟨gb322, 2, none⟩ = some (.int .i64 a0_2) := (bC BK322.out 2).trans rfl
     have hfz9_0 := bF BK322.out 0
     have hfz9_1 := bF BK322.out 1
     have hfz9_2 := bF BK322.out 2
     go_wp2
     go_meet
     case rel => exact ⟨_, (true), (by first | rfl | (simp; done) | (simp [*]; done)), H', ⟨by first | omega | exact Nat.le_refl _⟩, ⟨by (with_reducible repeat (first | refine bN ?_ _ | refine bW ?_ | refine bA ?_ _)); exact BK322.out⟩, ⟨by repeat (first | (with_reducible first | exact HB.out | apply pA | apply pN | apply p1 | refine pS ?_ GE322.out) | exact HB.out)⟩⟩
    ·rw [if_neg c8] at H
     have c8b0 : decide (a0_1 < 0) = false := decide_eq_false c8
     clear c8
     have H' := Aside0.mk H
     clear H
     have hcz10_0 : w3.cell? ⟨gb322, 0, none⟩ = some (.int .i64 a0_0) := (bC BK322.out 0).trans rfl
     have hcz10_1 : w3.cell? ⟨gb322, 1, none⟩ = some (.int .i64 a0_1) := (bC BK322.out 1).trans rfl
     have hcz10_2 : w3.cell? ⟨gb322, 2, none⟩ = some (.int .i64 a0_2) := (bC BK322.out 2).trans rfl
     have hfz10_0 := bF BK322.out 0
     have hfz10_1 := bF BK322.out 1
     have hfz10_2 := bF BK322.out 2
     go_wp2
     go_meet
     case rel => exact ⟨_, (decide (a0_1 > 20000)), (by first | rfl | (simp; done) | (simp [*]; done)), H', ⟨by first | omega | exact Nat.le_refl _⟩, ⟨by (with_reducible repeat (first | refine bN ?_ _ | refine bW ?_ | refine bA ?_ _)); exact BK322.out⟩, ⟨by repeat (first | (with_reducible first | exact HB.out | apply pA | apply pN | apply p1 | refine pS ?_ GE322.out) | exact HB.out)⟩⟩
 case rest =>
  clear HC2
  try clear p2
  try clear c4
  try clear c4b0
  try clear c6
  try clear c6b0
  try clear c7
  try clear c8
  try clear c8b0
  try clear hcz10_0
  try clear hcz10_1
  try clear hcz10_2
  try clear hcz5_0
  try clear hcz5_1
  try clear hcz5_2
  try clear hcz7_0
  try clear hcz7_1
  try clear hcz7_2
  try clear hcz9_0
  try clear hcz9_1
  try clear hcz9_2
  try clear hfz10_0
  try clear hfz10_1
  try clear hfz10_2
  try clear hfz5_0
  try clear hfz5_1
  try clear hfz5_2
  try clear hfz7_0
  try clear hfz7_1
  try clear hfz7_2
  try clear hfz9_0
  try clear hfz9_1
  try clear hfz9_2
  obtain ⟨kq, x20_1, rfl, HA, HJ1, BK322, HB⟩ := hcut
  cases kq with
  | zero => exact absurd HA.out (by simp [sawmillref36_Check.j0])
  | succ kj1 =>
   have H := HA.out
   clear HA
   simp only [sawmillref36_Check.j0] at H
   by_cases c11 : x20_1 = true
   ·subst c11
    have H1 : (some 25) = some r := by rw [if_pos rfl] at H; exact H
    clear H
    have H := H1
    clear H1
    obtain rfl := Option.some.inj H
    go_wp2
    go_ret
    exact ⟨by first | rfl | (simp [*] <;> rfl), by repeat (first | (with_reducible first | exact HB.out | apply pA | apply pN | apply p1 | refine pS ?_ GE322.out) | exact HB.out)⟩
   ·replace c11 := Bool.eq_false_iff.mpr c11
    subst c11
    have H1 : (if a0_2 < 0 then (some 9) else (if a0_2 > 1099511627776 then (some 9) else (some 0))) = some r := by rw [if_neg (show ¬ (false = true) by decide)] at H; exact H
    clear H
    have H := H1
    clear H1
    by_cases c12 : a0_2 < 0
    ·rw [if_pos c12] at H
     have c12b0 : decide (a0_2 < 0) = true := decide_eq_true c12
     clear c12
     obtain rfl := Option.some.inj H
     have hcz13_0 : wc.cell? ⟨gb322, 0, none⟩ = some (.int .i64 a0_0) := (bC BK322.out 0).trans rfl
     have hcz13_1 : wc.cell? ⟨gb322, 1, none⟩ = some (.int .i64 a0_1) := (bC BK322.out 1).trans rfl
     have hcz13_2 : wc.cell? ⟨gb322, 2, none⟩ = some (.int .i64 a0_2) := (bC BK322.out 2).trans rfl
     have hfz13_0 := bF BK322.out 0
     have hfz13_1 := bF BK322.out 1
     have hfz13_2 := bF BK322.out 2
     go_wp2
     go_ret
     exact ⟨by first | rfl | (simp [*] <;> rfl), by repeat (first | (with_reducible first | exact HB.out | apply pA | apply pN | apply p1 | refine pS ?_ GE322.out) | exact HB.out)⟩
    ·rw [if_neg c12] at H
     have c12b0 : decide (a0_2 < 0) = false := decide_eq_false c12
     clear c12
     by_cases c14 : a0_2 > 1099511627776
     ·rw [if_pos c14] at H
      have c14b0 : decide (1099511627776 < a0_2) = true := decide_eq_true c14
      clear c14
      obtain rfl := Option.some.inj H
      have hcz15_0 : wc.cell? ⟨gb322, 0, none⟩ = some (.int .i64 a0_0) := (bC BK322.out 0).trans rfl
      have hcz15_1 : wc.cell? ⟨gb322, 1, none⟩ = some (.int .i64 a0_1) := (bC BK322.out 1).trans rfl
      have hcz15_2 : wc.cell? ⟨gb322, 2, none⟩ = some (.int .i64 a0_2) := (bC BK322.out 2).trans rfl
      have hfz15_0 := bF BK322.out 0
      have hfz15_1 := bF BK322.out 1
      have hfz15_2 := bF BK322.out 2
      go_wp2
      go_ret
      exact ⟨by first | rfl | (simp [*] <;> rfl), by repeat (first | (with_reducible first | exact HB.out | apply pA | apply pN | apply p1 | refine pS ?_ GE322.out) | exact HB.out)⟩
     ·rw [if_neg c14] at H
      have c14b0 : decide (1099511627776 < a0_2) = false := decide_eq_false c14
      clear c14
      obtain rfl := Option.some.inj H
      have hcz16_0 : wc.cell? ⟨gb322, 0, none⟩ = some (.int .i64 a0_0) := (bC BK322.out 0).trans rfl
      have hcz16_1 : wc.cell? ⟨gb322, 1, none⟩ = some (.int .i64 a0_1) := (bC BK322.out 1).trans rfl
      have hcz16_2 : wc.cell? ⟨gb322, 2, none⟩ = some (.int .i64 a0_2) := (bC BK322.out 2).trans rfl
      have hfz16_0 := bF BK322.out 0
      have hfz16_1 := bF BK322.out 1
      have hfz16_2 := bF BK322.out 2
      go_wp2
      go_ret
      exact ⟨by first | rfl | (simp [*] <;> rfl), by repeat (first | (with_reducible first | exact HB.out | apply pA | apply pN | apply p1 | refine pS ?_ GE322.out) | exact HB.out)⟩
def sawmillref36_Mean.f (k : Nat) (a0_0 : Int) (a0_1 : Int) (a0_2 : Int) : Option (Int) := (sawmillref36_Check.f k a0_0 a0_1 a0_2).bind fun t324 => (if t324 = 0 then (some (wrap64 (Int.tdiv (wrap64 (a0_0 + (wrap64 (2 * a0_1)))) 3))) else (some 0))
theorem sawmillref36_Mean.mono : ∀ a0 a1 a2 k, LeO (sawmillref36_Mean.f k a0 a1 a2) (sawmillref36_Mean.f (k + 1) a0 a1 a2) := by
 intro a0 a1 a2 k
 unfold sawmillref36_Mean.f
 repeat' first
   | (with_reducible exact sawmillref36_Check.mono _ _ _ _)
   | (with_reducible exact LeO.refl _)
   | (with_reducible exact LeO.none _)
   | (with_reducible refine LeO.ite ?_ ?_)
   | (with_reducible refine LeO.bind ?_ (fun _ => ?_))
   | exact sawmillref36_Check.mono _ _ _ _
   | exact LeO.none _
   | refine LeO.ite ?_ ?_
   | refine LeO.bind ?_ (fun _ => ?_)
set_option maxHeartbeats 8000000 in
set_option maxRecDepth 100000 in
theorem sawmillref36_Mean.calls (k : Nat) (a0_0 : Int) (a0_1 : Int) (a0_2 : Int) (r : Int) (w : World) (h : sawmillref36_Mean.f k a0_0 a0_1 a0_2 = some r) :
  Calls Tryd.prog 40 #[.agg #[.int .i64 a0_0, .int .i64 a0_1, .int .i64 a0_2]] w fun e w' => e = .returned (.int .i64 r) ∧ Below w.heap.size w w' := by
 have hu36 := Tryd.underlying36
 have HB := q_ (Below.refl w.heap.size w)
 have H : ((sawmillref36_Check.f k a0_0 a0_1 a0_2).bind fun t324 => (if t324 = 0 then (some (wrap64 (Int.tdiv (wrap64 (a0_0 + (wrap64 (2 * a0_1)))) 3))) else (some 0))) = some r := h
 clear h
 replace H := oB H
 obtain ⟨t324, A20, H⟩ := H
 replace H : (if t324 = 0 then (some (wrap64 (Int.tdiv (wrap64 (a0_0 + (wrap64 (2 * a0_1)))) 3))) else (some 0)) = some r := H
 have A2 := Aside0.mk A20
 clear A20
 by_cases c3 : t324 = 0
 ·rw [if_pos c3] at H
  have c3b0 : (t324 == 0) = true := beq_iff_eq.mpr c3
  have c3b1 : (t324 != 0) = false := oD c3
  clear c3
  obtain rfl := Option.some.inj H
  go_enter Tryd.func40, Tryd.ntmps40
  go_wp2_with (first | ((with_reducible refine gate_dst (N := 1) rfl ?_); refine box_event ?hg (N := 1) ?hd (cs := #[.int .i64 a0_0, .int .i64 a0_1, .int .i64 a0_2]) (t := 36) ?hr ?_; (case hd => rfl); (case hg => rfl); (case hr => first | (go_simp; done) | (go_simp; rfl)); intro gb323 hg w4 hbox hb; have n0_ := q_ (pT (by repeat (first | (with_reducible first | exact HB.out | apply pA | apply pN | apply p1) | exact HB.out)) hb); have n1_ := q_ (hbox); have n2_ := q_ ((by rw [hg]; exact (pZ (by repeat (first | (with_reducible first | exact HB.out | apply pA | apply pN | apply p1) | exact HB.out))) : w.heap.size ≤ gb323)); have n3_ := n2_; clear HB; have HB := n0_; have BK323 := n1_; have GW323 := n2_; have GE323 := n3_; clear n0_ n1_ n2_ n3_; clear hb hbox hg; have hcz5_0 : w4.cell? ⟨gb323, 0, none⟩ = some (.int .i64 a0_0) := (bC BK323.out 0).trans rfl; have hcz5_1 : w4.cell? ⟨gb323, 1, none⟩ = some (.int .i64 a0_1) := (bC BK323.out 1).trans rfl; have hcz5_2 : w4.cell? ⟨gb323, 2, none⟩ = some (.int .i64 a0_2) := (bC BK323.out 2).trans rfl; have hfz5_0 := bF BK323.out 0; have hfz5_1 := bF BK323.out 1; have hfz5_2 := bF BK323.out 2) | ((with_reducible refine gate_callee (f := 73) rfl ?_); refine goesL_ (some 4) rfl rfl Tryd.func73 (by kernel_rfl) rfl #[.agg #[.int .i64 a0_0, .int .i64 a0_1, .int .i64 a0_2]] rfl (by first | rfl | (simp only [List.map_toArray]; rfl)) ?_; (with_reducible refine (sawmillref36_Check.calls k a0_0 a0_1 a0_2 t324 _ A2.out).mono ?_); rintro e w6 ⟨rfl, hb⟩; refine ⟨_, rfl, ?_⟩; have n0_ := q_ (bB (g := gb323) (by (with_reducible repeat (first | refine bN ?_ _ | refine bW ?_ | refine bA ?_ _)); exact BK323.out) hb); have n1_ := q_ (pT (by repeat (first | (with_reducible first | exact HB.out | apply pA | apply pN | apply p1 | refine pS ?_ GE323.out) | exact HB.out)) hb); clear BK323; clear HB; have BK323 := n0_; have HB := n1_; clear n0_ n1_; (try clear hb); (try clear hb2); (try clear hk); (try clear hi); have hcz7_0 : w6.cell? ⟨gb323, 0, none⟩ = some (.int .i64 a0_0) := (bC BK323.out 0).trans rfl; have hcz7_1 : w6.cell? ⟨gb323, 1, none⟩ = some (.int .i64 a0_1) := (bC BK323.out 1).trans rfl; have hcz7_2 : w6.cell? ⟨gb323, 2, none⟩ = some (.int .i64 a0_2) := (bC BK323.out 2).trans rfl; have hfz7_0 := bF BK323.out 0; have hfz7_1 := bF BK323.out 1; have hfz7_2 := bF BK323.out 2))
  go_ret
  exact ⟨by first | rfl | (simp [*] <;> rfl), by repeat (first | (with_reducible first | exact HB.out | apply pA | apply pN | apply p1 | refine pS ?_ GE323.out) | exact HB.out)⟩
 ·rw [if_neg c3] at H
  have c3b0 : (t324 == 0) = false := oC c3
  have c3b1 : (t324 != 0) = true := bne_iff_ne.mpr c3
  obtain rfl := Option.some.inj H
  go_enter Tryd.func40, Tryd.ntmps40
  go_wp2_with (first | ((with_reducible refine gate_dst (N := 1) rfl ?_); refine box_event ?hg (N := 1) ?hd (cs := #[.int .i64 a0_0, .int .i64 a0_1, .int .i64 a0_2]) (t := 36) ?hr ?_; (case hd => rfl); (case hg => rfl); (case hr => first | (go_simp; done) | (go_simp; rfl)); intro gb323 hg w8 hbox hb; have n0_ := q_ (pT (by repeat (first | (with_reducible first | exact HB.out | apply pA | apply pN | apply p1) | exact HB.out)) hb); have n1_ := q_ (hbox); have n2_ := q_ ((by rw [hg]; exact (pZ (by repeat (first | (with_reducible first | exact HB.out | apply pA | apply pN | apply p1) | exact HB.out))) : w.heap.size ≤ gb323)); have n3_ := n2_; clear HB; have HB := n0_; have BK323 := n1_; have GW323 := n2_; have GE323 := n3_; clear n0_ n1_ n2_ n3_; clear hb hbox hg; have hcz9_0 : w8.cell? ⟨gb323, 0, none⟩ = some (.int .i64 a0_0) := (bC BK323.out 0).trans rfl; have hcz9_1 : w8.cell? ⟨gb323, 1, none⟩ = some (.int .i64 a0_1) := (bC BK323.out 1).trans rfl; have hcz9_2 : w8.cell? ⟨gb323, 2, none⟩ = some (.int .i64 a0_2) := (bC BK323.out 2).trans rfl; have hfz9_0 := bF BK323.out 0; have hfz9_1 := bF BK323.out 1; have hfz9_2 := bF BK323.out 2) | ((with_reducible refine gate_callee (f := 73) rfl ?_); refine goesL_ (some 4) rfl rfl Tryd.func73 (by kernel_rfl) rfl #[.agg #[.int .i64 a0_0, .int .i64 a0_1, .int .i64 a0_2]] rfl (by first | rfl | (simp only [List.map_toArray]; rfl)) ?_; (with_reducible refine (sawmillref36_Check.calls k a0_0 a0_1 a0_2 t324 _ A2.out).mono ?_); rintro e w10 ⟨rfl, hb⟩; refine ⟨_, rfl, ?_⟩; have n0_ := q_ (bB (g := gb323) (by (with_reducible repeat (first | refine bN ?_ _ | refine bW ?_ | refine bA ?_ _)); exact BK323.out) hb); have n1_ := q_ (pT (by repeat (first | (with_reducible first | exact HB.out | apply pA | apply pN | apply p1 | refine pS ?_ GE323.out) | exact HB.out)) hb); clear BK323; clear HB; have BK323 := n0_; have HB := n1_; clear n0_ n1_; (try clear hb); (try clear hb2); (try clear hk); (try clear hi)))
  go_ret
  exact ⟨by first | rfl | (simp [*] <;> rfl), by repeat (first | (with_reducible first | exact HB.out | apply pA | apply pN | apply p1 | refine pS ?_ GE323.out) | exact HB.out)⟩
end Go.Proofs.YtblmgmhjlbkncaaDoor.PA
namespace Go.Proofs.YtblmgmhjlbkncaaDoor.PA
open Go.RowKit Go.Proofs.YtblmgmhjlbkncaaDoorW.PrintWords Go.Proofs.YtblmgmhjlbkncaaDoorW.PrintLast Go.Proofs.YtblmgmhjlbkncaaDoorW.PrintMore
attribute [local go_sem] max2_int min2_int max_two min_two max_three min_three max_four min_four
set_option linter.unusedVariables false
set_option linter.unusedSimpArgs false
def sawmillref46_Fits.f (k : Nat) (a0_0 : ByteArray) (a0_1 : ByteArray) (a0_2 : Int) (a0_3 : Int) (a0_4 : Int) (a0_5 : Int) (a0_6 : Int) (a0_7 : Int) (a0_8 : Int) (a0_9 : Int) (a0_10 : Int) (a1_0 : ByteArray) (a1_1 : ByteArray) (a1_2 : ByteArray) (a1_3 : Int) (a1_4 : Int) (a1_5 : Int) (a1_6 : Int) (a1_7 : Int) (a1_8 : Int) (a1_9 : Int) (a1_10 : Int) (l1_11 : List (S176)) (a1_12 : Int) (a1_13 : Int) (a1_14 : Int) (a1_15 : Int) (a1_16 : Bool) (a1_17 : Int) : Option (Int) := if a1_2.toList = a0_1.toList then (if a1_3 = a0_2 then ((sawmillref30_Length.f a1_0 a1_1 a1_2 a1_3 a1_4 a1_5 a1_6 a1_7 a1_8 a1_9 a1_10 l1_11 a1_12 a1_13 a1_14 a1_15 a1_16 a1_17).bind fun t327 => (if t327 = a0_3 then (if a1_16 = true then ((sawmillref36_Mean.f k a1_13 a1_14 a1_15).bind fun t328 => (if t328 > a0_5 then (some 25) else (if a1_17 < 1 then (some 26) else (if a1_17 > a0_4 then (some 26) else (some 0))))) else (some 14)) else (some 20))) else (some 8)) else (some 24)
theorem sawmillref46_Fits.mono : ∀ a0 a1 a2 a3 a4 a5 a6 a7 a8 a9 a10 a11 a12 a13 a14 a15 a16 a17 a18 a19 a20 a21 a22 a23 a24 a25 a26 a27 a28 k, LeO (sawmillref46_Fits.f k a0 a1 a2 a3 a4 a5 a6 a7 a8 a9 a10 a11 a12 a13 a14 a15 a16 a17 a18 a19 a20 a21 a22 a23 a24 a25 a26 a27 a28) (sawmillref46_Fits.f (k + 1) a0 a1 a2 a3 a4 a5 a6 a7 a8 a9 a10 a11 a12 a13 a14 a15 a16 a17 a18 a19 a20 a21 a22 a23 a24 a25 a26 a27 a28) := by
 intro a0 a1 a2 a3 a4 a5 a6 a7 a8 a9 a10 a11 a12 a13 a14 a15 a16 a17 a18 a19 a20 a21 a22 a23 a24 a25 a26 a27 a28 k
 unfold sawmillref46_Fits.f
 repeat' first
   | (with_reducible exact sawmillref36_Mean.mono _ _ _ _)
   | (with_reducible exact LeO.refl _)
   | (with_reducible exact LeO.none _)
   | (with_reducible refine LeO.ite ?_ ?_)
   | (with_reducible refine LeO.bind ?_ (fun _ => ?_))
   | exact sawmillref36_Mean.mono _ _ _ _
   | exact LeO.none _
   | refine LeO.ite ?_ ?_
   | refine LeO.bind ?_ (fun _ => ?_)
set_option maxHeartbeats 8000000 in
set_option maxRecDepth 100000 in
theorem sawmillref46_Fits.calls (k : Nat) (a0_0 : ByteArray) (a0_1 : ByteArray) (a0_2 : Int) (a0_3 : Int) (a0_4 : Int) (a0_5 : Int) (a0_6 : Int) (a0_7 : Int) (a0_8 : Int) (a0_9 : Int) (a0_10 : Int) (a1_0 : ByteArray) (a1_1 : ByteArray) (a1_2 : ByteArray) (a1_3 : Int) (a1_4 : Int) (a1_5 : Int) (a1_6 : Int) (a1_7 : Int) (a1_8 : Int) (a1_9 : Int) (a1_10 : Int) (A1_11 : Option Addr) (c1_11 : Nat) (l1_11 : List (S176)) (a1_12 : Int) (a1_13 : Int) (a1_14 : Int) (a1_15 : Int) (a1_16 : Bool) (a1_17 : Int) (r : Int) (w : World) (hr1_11 : Kd.C k176 w A1_11 l1_11.length l1_11) (hc1_11 : l1_11.length ≤ c1_11) (h : sawmillref46_Fits.f k a0_0 a0_1 a0_2 a0_3 a0_4 a0_5 a0_6 a0_7 a0_8 a0_9 a0_10 a1_0 a1_1 a1_2 a1_3 a1_4 a1_5 a1_6 a1_7 a1_8 a1_9 a1_10 l1_11 a1_12 a1_13 a1_14 a1_15 a1_16 a1_17 = some r) :
  Calls Tryd.prog 15 #[.agg #[.string a0_0, .string a0_1, .int .i64 a0_2, .int .i64 a0_3, .int .i64 a0_4, .int .i64 a0_5, .int .i64 a0_6, .int .i64 a0_7, .int .i64 a0_8, .int .i64 a0_9, .int .i64 a0_10], .agg #[.string a1_0, .string a1_1, .string a1_2, .int .i64 a1_3, .int .i64 a1_4, .int .i64 a1_5, .int .i64 a1_6, .int .i64 a1_7, .int .i64 a1_8, .int .i64 a1_9, .int .i64 a1_10, .slice A1_11 l1_11.length c1_11, .int .i64 a1_12, .int .i64 a1_13, .int .i64 a1_14, .int .i64 a1_15, .bool a1_16, .int .i64 a1_17]] w fun e w' => e = .returned (.int .i64 r) ∧ Below w.heap.size w w' := by
 have hu23 := Tryd.underlying23
 have hu38 := Tryd.underlying38
 have hu36 := Tryd.underlying36
 have HB := q_ (Below.refl w.heap.size w)
 have HR := Aside0.mk hr1_11
 have HL := Aside0.mk hc1_11
 clear hr1_11 hc1_11
 unfold sawmillref46_Fits.f at h
 go_enter Tryd.func15, Tryd.ntmps15
 go_upto_region 1 with (first | ((with_reducible refine gate_dst (N := 2) rfl ?_); refine box_event ?hg (N := 2) ?hd (cs := #[.string a0_0, .string a0_1, .int .i64 a0_2, .int .i64 a0_3, .int .i64 a0_4, .int .i64 a0_5, .int .i64 a0_6, .int .i64 a0_7, .int .i64 a0_8, .int .i64 a0_9, .int .i64 a0_10]) (t := 23) ?hr ?_; (case hd => rfl); (case hg => rfl); (case hr => first | (go_simp; done) | (go_simp; rfl)); intro go hg w1 hbox hb; have BKo := Aside0.mk hbox; replace HB := q_ (pT HB.out hb); clear hb hbox hg) | ((with_reducible refine gate_dst (N := 3) rfl ?_); refine box_event ?hg (N := 3) ?hd (cs := #[.string a1_0, .string a1_1, .string a1_2, .int .i64 a1_3, .int .i64 a1_4, .int .i64 a1_5, .int .i64 a1_6, .int .i64 a1_7, .int .i64 a1_8, .int .i64 a1_9, .int .i64 a1_10, .slice A1_11 l1_11.length c1_11, .int .i64 a1_12, .int .i64 a1_13, .int .i64 a1_14, .int .i64 a1_15, .bool a1_16, .int .i64 a1_17]) (t := 38) ?hr ?_; (case hd => rfl); (case hg => rfl); (case hr => first | (go_simp; done) | (go_simp; rfl)); intro gb hg w2 hbox hb; replace BKo := q_ (bB BKo.out hb); have BKb := Aside0.mk hbox; replace HB := q_ (pT HB.out hb); clear hb hbox hg))
 try simp only [Act.put, List.setIfInBounds_toArray, List.set_cons_zero, List.set_cons_succ]
 have czo := blk_all BKo.out
 simp only [CellsAt, List.toList_toArray, Nat.reduceAdd, and_true] at czo
 have fzo := bF BKo.out
 have czb := blk_all BKb.out
 simp only [CellsAt, List.toList_toArray, Nat.reduceAdd, and_true] at czb
 have fzb := bF BKb.out
 by_cases c1 : a1_2.toList = a0_1.toList
 case neg =>
  rw [if_neg c1] at h
  have c1a : (a1_2.toList == a0_1.toList) = false := oC c1
  have c1b : (a1_2.toList != a0_1.toList) = true := bne_iff_ne.mpr c1
  obtain rfl := Option.some.inj h
  go_wp2
  go_ret
  exact ⟨rfl, HB.out⟩
 rw [if_pos c1] at h
 have c1a : (a1_2.toList == a0_1.toList) = true := beq_iff_eq.mpr c1
 have c1b : (a1_2.toList != a0_1.toList) = false := oD c1
 clear c1
 by_cases c2 : a1_3 = a0_2
 case neg =>
  rw [if_neg c2] at h
  have c2a : (a1_3 == a0_2) = false := oC c2
  have c2b : (a1_3 != a0_2) = true := bne_iff_ne.mpr c2
  obtain rfl := Option.some.inj h
  go_wp2
  go_ret
  exact ⟨rfl, HB.out⟩
 rw [if_pos c2] at h
 have c2a : (a1_3 == a0_2) = true := beq_iff_eq.mpr c2
 have c2b : (a1_3 != a0_2) = false := oD c2
 clear c2
 replace h := oB h
 obtain ⟨t1, hl_, h⟩ := h
 have HT1 := Aside0.mk hl_
 clear hl_
 replace h : (if t1 = a0_3 then _ else _) = some r := h
 have h' := Aside0.mk h
 clear h
 go_wp2
 clear c1a c1b c2a c2b
 clear czo fzo czb fzb
 replace BKo := q_ (bW BKo.out)
 replace BKb := q_ (bW BKb.out)
 replace HB := q_ (p1 HB.out)
 try simp only [Act.put, List.setIfInBounds_toArray, List.set_cons_zero, List.set_cons_succ]
 refine start_ (n := 5) (S := fun w' => w'.heap[go]? = some (.cells #[.string a0_0, .string a0_1, .int .i64 a0_2, .int .i64 a0_3, .int .i64 a0_4, .int .i64 a0_5, .int .i64 a0_6, .int .i64 a0_7, .int .i64 a0_8, .int .i64 a0_9, .int .i64 a0_10] 23 (0, 0)) ∧ w'.heap[gb]? = some (.cells #[.string a1_0, .string a1_1, .string a1_2, .int .i64 a1_3, .int .i64 a1_4, .int .i64 a1_5, .int .i64 a1_6, .int .i64 a1_7, .int .i64 a1_8, .int .i64 a1_9, .int .i64 a1_10, .slice A1_11 l1_11.length c1_11, .int .i64 a1_12, .int .i64 a1_13, .int .i64 a1_14, .int .i64 a1_15, .bool a1_16, .int .i64 a1_17] 38 (0, 0))) (ds := []) #[false, false, false, false, false] (by kernel_rfl) rfl rfl ⟨BKo.out, BKb.out⟩ (fun hHeld => ?_)
 clear hHeld
 generalize w2.drew = w3 at BKo BKb HB ⊢
 refine pure_ (i := 2) (N := some 17) (v := ?_) (a' := ?_) #[false, false, true, false, false] rfl rfl (by kernel_rfl) (fun _ _ _ h => h) (Or.inl ⟨by rfl, ?_⟩) ?_ ?_
 rotate_left
 ·intro w'
  go_simp
  with_reducible rfl
 rotate_left
 ·simp only [Act.put, List.setIfInBounds_toArray, List.set_cons_zero, List.set_cons_succ, i64_w, i32_w]
  rfl
 refine take_ (i := 0) (N := some 15) (v := ?_) (a' := ?_) #[true, false, true, false, false] rfl rfl (by kernel_rfl) (fun _ _ _ h => h) (Or.inl ⟨by rfl, ?_⟩) ⟨BKo.out, BKb.out⟩ ?_ ?_
 rotate_left
 ·rintro w' ⟨s0, s1⟩
  refine exec_load_blk 38 (.tmp 3) ?_ gb ?_ s1 hu38 rfl ?_
  ·exact rfl
  ·exact rfl
  ·kernel_rfl
 rotate_left
 ·simp only [Act.put, List.setIfInBounds_toArray, List.set_cons_zero, List.set_cons_succ, i64_w, i32_w]
  rfl
 refine take_ (i := 3) (N := some 18) (v := ?_) (a' := ?_) #[true, false, true, true, false] rfl rfl (by kernel_rfl) (fun _ _ _ h => h) (Or.inl ⟨by rfl, ?_⟩) ⟨BKo.out, BKb.out⟩ ?_ ?_
 rotate_left
 ·rintro w' ⟨s0, s1⟩
  have hz := blk_all s0
  simp only [CellsAt, List.toList_toArray, Nat.reduceAdd, and_true] at hz
  go_simp
  with_reducible rfl
 rotate_left
 ·simp only [Act.put, List.setIfInBounds_toArray, List.set_cons_zero, List.set_cons_succ, i64_w, i32_w]
  rfl
 refine one_ (i := 1) (N := some 16) #[true, true, true, true, false] rfl rfl (by kernel_rfl) (by decide) (fun K hK => ?_)
 refine goes_ Tryd.func39 (by kernel_rfl) rfl #[.agg #[.string a1_0, .string a1_1, .string a1_2, .int .i64 a1_3, .int .i64 a1_4, .int .i64 a1_5, .int .i64 a1_6, .int .i64 a1_7, .int .i64 a1_8, .int .i64 a1_9, .int .i64 a1_10, .slice A1_11 l1_11.length c1_11, .int .i64 a1_12, .int .i64 a1_13, .int .i64 a1_14, .int .i64 a1_15, .bool a1_16, .int .i64 a1_17]] (by rfl) rfl rfl (by first | rfl | (simp only [List.map_toArray, List.map_cons, List.map_nil]; rfl)) ?_
 refine (sawmillref30_Length.calls a1_0 a1_1 a1_2 a1_3 a1_4 a1_5 a1_6 a1_7 a1_8 a1_9 a1_10 A1_11 c1_11 l1_11 a1_12 a1_13 a1_14 a1_15 a1_16 a1_17 t1 _ ?_ ?_ HT1.out).mono ?_
 ·exact Kd.C_below HR.out HB.out
 ·exact HL.out
 rintro e w4 ⟨rfl, hb⟩
 refine ⟨_, rfl, ?_⟩
 replace HB := q_ (pT HB.out hb)
 replace BKo := q_ (bB BKo.out hb)
 replace BKb := q_ (bB BKb.out hb)
 clear hb
 refine hK.out _ _ ⟨BKo.out, BKb.out⟩ (fun hHeld => ?_)
 clear hK K hHeld
 refine norm_ (a' := ?_) ?_ ?_
 rotate_left
 ·show Act.put _ (some 16) _ = _
  simp only [Act.put, List.setIfInBounds_toArray, List.set_cons_zero, List.set_cons_succ, i64_w, i32_w]
  rfl
 refine pure_ (i := 4) (N := some 19) (v := ?_) (a' := ?_) #[true, true, true, true, true] rfl rfl (by kernel_rfl) (fun _ _ _ h => h) (Or.inl ⟨by rfl, ?_⟩) ?_ ?_
 rotate_left
 ·intro w'
  go_simp
  with_reducible rfl
 rotate_left
 ·simp only [Act.put, List.setIfInBounds_toArray, List.set_cons_zero, List.set_cons_succ, i64_w, i32_w]
  rfl
 refine done_ (by kernel_rfl) ?_
 have czo := blk_all BKo.out
 simp only [CellsAt, List.toList_toArray, Nat.reduceAdd, and_true] at czo
 have fzo := bF BKo.out
 have czb := blk_all BKb.out
 simp only [CellsAt, List.toList_toArray, Nat.reduceAdd, and_true] at czb
 have fzb := bF BKb.out
 by_cases c3 : t1 = a0_3
 case neg =>
  have h := h'.out
  clear h'
  rw [if_neg c3] at h
  have c3a : (t1 == a0_3) = false := oC c3
  have c3b : (t1 != a0_3) = true := bne_iff_ne.mpr c3
  obtain rfl := Option.some.inj h
  go_wp2
  go_ret
  exact ⟨rfl, HB.out⟩
 have h := h'.out
 clear h'
 rw [if_pos c3] at h
 have c3a : (t1 == a0_3) = true := beq_iff_eq.mpr c3
 have c3b : (t1 != a0_3) = false := oD c3
 clear c3
 cases a1_16 with
 | false =>
  rw [if_neg (by decide)] at h
  obtain rfl := Option.some.inj h
  go_wp2
  go_ret
  exact ⟨rfl, HB.out⟩
 | true =>
  rw [if_pos rfl] at h
  replace h := oB h
  obtain ⟨t2, hl_, h⟩ := h
  have HT2 := Aside0.mk hl_
  clear hl_
  replace h : (if t2 > a0_5 then _ else _) = some r := h
  have h' := Aside0.mk h
  clear h
  go_wp2
  clear c3a c3b
  clear czo fzo czb fzb
  replace BKo := q_ (bW BKo.out)
  replace BKb := q_ (bW BKb.out)
  replace HB := q_ (p1 HB.out)
  try simp only [Act.put, List.setIfInBounds_toArray, List.set_cons_zero, List.set_cons_succ]
  refine start_ (n := 6) (S := fun w' => w'.heap[go]? = some (.cells #[.string a0_0, .string a0_1, .int .i64 a0_2, .int .i64 a0_3, .int .i64 a0_4, .int .i64 a0_5, .int .i64 a0_6, .int .i64 a0_7, .int .i64 a0_8, .int .i64 a0_9, .int .i64 a0_10] 23 (0, 0)) ∧ w'.heap[gb]? = some (.cells #[.string a1_0, .string a1_1, .string a1_2, .int .i64 a1_3, .int .i64 a1_4, .int .i64 a1_5, .int .i64 a1_6, .int .i64 a1_7, .int .i64 a1_8, .int .i64 a1_9, .int .i64 a1_10, .slice A1_11 l1_11.length c1_11, .int .i64 a1_12, .int .i64 a1_13, .int .i64 a1_14, .int .i64 a1_15, .bool true, .int .i64 a1_17] 38 (0, 0))) (ds := []) #[false, false, false, false, false, false] (by kernel_rfl) rfl rfl ⟨BKo.out, BKb.out⟩ (fun hHeld => ?_)
  clear hHeld
  generalize w4.drew = w5 at BKo BKb HB ⊢
  refine pure_ (i := 0) (N := some 23) (v := ?_) (a' := ?_) #[true, false, false, false, false, false] rfl rfl (by kernel_rfl) (fun _ _ _ h => h) (Or.inl ⟨by rfl, ?_⟩) ?_ ?_
  rotate_left
  ·intro w'
   go_simp
   with_reducible rfl
  rotate_left
  ·simp only [Act.put, List.setIfInBounds_toArray, List.set_cons_zero, List.set_cons_succ, i64_w, i32_w]
   rfl
  refine pure_ (i := 3) (N := some 26) (v := ?_) (a' := ?_) #[true, false, false, true, false, false] rfl rfl (by kernel_rfl) (fun _ _ _ h => h) (Or.inl ⟨by rfl, ?_⟩) ?_ ?_
  rotate_left
  ·intro w'
   go_simp
   with_reducible rfl
  rotate_left
  ·simp only [Act.put, List.setIfInBounds_toArray, List.set_cons_zero, List.set_cons_succ, i64_w, i32_w]
   rfl
  refine take_ (i := 1) (N := some 24) (v := ?_) (a' := ?_) #[true, true, false, true, false, false] rfl rfl (by kernel_rfl) (fun _ _ _ h => h) (Or.inl ⟨by rfl, ?_⟩) ⟨BKo.out, BKb.out⟩ ?_ ?_
  rotate_left
  ·rintro w' ⟨s0, s1⟩
   have hz := blk_all s1
   simp only [CellsAt, List.toList_toArray, Nat.reduceAdd, and_true] at hz
   go_simp
   with_reducible rfl
  rotate_left
  ·simp only [Act.put, List.setIfInBounds_toArray, List.set_cons_zero, List.set_cons_succ, i64_w, i32_w]
   rfl
  refine take_ (i := 4) (N := some 27) (v := ?_) (a' := ?_) #[true, true, false, true, true, false] rfl rfl (by kernel_rfl) (fun _ _ _ h => h) (Or.inl ⟨by rfl, ?_⟩) ⟨BKo.out, BKb.out⟩ ?_ ?_
  rotate_left
  ·rintro w' ⟨s0, s1⟩
   have hz := blk_all s0
   simp only [CellsAt, List.toList_toArray, Nat.reduceAdd, and_true] at hz
   go_simp
   with_reducible rfl
  rotate_left
  ·simp only [Act.put, List.setIfInBounds_toArray, List.set_cons_zero, List.set_cons_succ, i64_w, i32_w]
   rfl
  refine one_ (i := 2) (N := some 25) #[true, true, true, true, true, false] rfl rfl (by kernel_rfl) (by decide) (fun K hK => ?_)
  refine goes_ Tryd.func40 (by kernel_rfl) rfl #[.agg #[.int .i64 a1_13, .int .i64 a1_14, .int .i64 a1_15]] (by rfl) rfl rfl (by first | rfl | (simp only [List.map_toArray, List.map_cons, List.map_nil]; rfl)) ?_
  refine (sawmillref36_Mean.calls k a1_13 a1_14 a1_15 t2 _ HT2.out).mono ?_
  rintro e w6 ⟨rfl, hb⟩
  refine ⟨_, rfl, ?_⟩
  replace HB := q_ (pT HB.out hb)
  replace BKo := q_ (bB BKo.out hb)
  replace BKb := q_ (bB BKb.out hb)
  clear hb
  refine hK.out _ _ ⟨BKo.out, BKb.out⟩ (fun hHeld => ?_)
  clear hK K hHeld
  refine norm_ (a' := ?_) ?_ ?_
  rotate_left
  ·show Act.put _ (some 25) _ = _
   simp only [Act.put, List.setIfInBounds_toArray, List.set_cons_zero, List.set_cons_succ, i64_w, i32_w]
   rfl
  refine pure_ (i := 5) (N := some 28) (v := ?_) (a' := ?_) #[true, true, true, true, true, true] rfl rfl (by kernel_rfl) (fun _ _ _ h => h) (Or.inl ⟨by rfl, ?_⟩) ?_ ?_
  rotate_left
  ·intro w'
   go_simp
   with_reducible rfl
  rotate_left
  ·simp only [Act.put, List.setIfInBounds_toArray, List.set_cons_zero, List.set_cons_succ, i64_w, i32_w]
   rfl
  refine done_ (by kernel_rfl) ?_
  have czo := blk_all BKo.out
  simp only [CellsAt, List.toList_toArray, Nat.reduceAdd, and_true] at czo
  have fzo := bF BKo.out
  have czb := blk_all BKb.out
  simp only [CellsAt, List.toList_toArray, Nat.reduceAdd, and_true] at czb
  have fzb := bF BKb.out
  have h := h'.out
  clear h'
  by_cases c5 : t2 > a0_5
  case pos =>
   rw [if_pos c5] at h
   have c5a : decide (t2 > a0_5) = true := decide_eq_true c5
   obtain rfl := Option.some.inj h
   go_wp2
   go_ret
   exact ⟨rfl, HB.out⟩
  rw [if_neg c5] at h
  have c5a : decide (t2 > a0_5) = false := decide_eq_false c5
  have c5b : (a0_5 < t2) = False := eq_false c5
  by_cases c6 : a1_17 < 1
  case pos =>
   rw [if_pos c6] at h
   have c6a : decide (a1_17 < 1) = true := decide_eq_true c6
   obtain rfl := Option.some.inj h
   go_wp2
   go_ret
   exact ⟨rfl, HB.out⟩
  rw [if_neg c6] at h
  have c6a : decide (a1_17 < 1) = false := decide_eq_false c6
  by_cases c7 : a1_17 > a0_4
  case pos =>
   rw [if_pos c7] at h
   have c7a : decide (a1_17 > a0_4) = true := decide_eq_true c7
   obtain rfl := Option.some.inj h
   go_wp2
   go_ret
   exact ⟨rfl, HB.out⟩
  rw [if_neg c7] at h
  have c7a : decide (a1_17 > a0_4) = false := decide_eq_false c7
  obtain rfl := Option.some.inj h
  go_wp2
  go_ret
  exact ⟨rfl, HB.out⟩
end Go.Proofs.YtblmgmhjlbkncaaDoor.PA
namespace Go.Proofs.YtblmgmhjlbkncaaDoor.PA
open Go.RowKit Go.Proofs.YtblmgmhjlbkncaaDoorW.PrintWords Go.Proofs.YtblmgmhjlbkncaaDoorW.PrintLast Go.Proofs.YtblmgmhjlbkncaaDoorW.PrintMore
attribute [local go_sem] max2_int min2_int max_two min_two max_three min_three max_four min_four
set_option linter.unusedVariables false
set_option linter.unusedSimpArgs false
def sawmillref46_Least.f (a0_0 : ByteArray) (a0_1 : ByteArray) (a0_2 : Int) (a0_3 : Int) (a0_4 : Int) (a0_5 : Int) (a0_6 : Int) (a0_7 : Int) (a0_8 : Int) (a0_9 : Int) (a0_10 : Int) : Option (Int) := (sawmillref46_Sound.f a0_0 a0_1 a0_2 a0_3 a0_4 a0_5 a0_6 a0_7 a0_8 a0_9 a0_10).bind fun t330 => (if t330 = true then (some (wrap64 (a0_6 - a0_7))) else (some 0))
set_option maxHeartbeats 8000000 in
set_option maxRecDepth 100000 in
theorem sawmillref46_Least.calls (a0_0 : ByteArray) (a0_1 : ByteArray) (a0_2 : Int) (a0_3 : Int) (a0_4 : Int) (a0_5 : Int) (a0_6 : Int) (a0_7 : Int) (a0_8 : Int) (a0_9 : Int) (a0_10 : Int) (r : Int) (w : World) (h : sawmillref46_Least.f a0_0 a0_1 a0_2 a0_3 a0_4 a0_5 a0_6 a0_7 a0_8 a0_9 a0_10 = some r) :
  Calls Tryd.prog 17 #[.agg #[.string a0_0, .string a0_1, .int .i64 a0_2, .int .i64 a0_3, .int .i64 a0_4, .int .i64 a0_5, .int .i64 a0_6, .int .i64 a0_7, .int .i64 a0_8, .int .i64 a0_9, .int .i64 a0_10]] w fun e w' => e = .returned (.int .i64 r) ∧ Below w.heap.size w w' := by
 have hu23 := Tryd.underlying23
 have HB := q_ (Below.refl w.heap.size w)
 have H : ((sawmillref46_Sound.f a0_0 a0_1 a0_2 a0_3 a0_4 a0_5 a0_6 a0_7 a0_8 a0_9 a0_10).bind fun t330 => (if t330 = true then (some (wrap64 (a0_6 - a0_7))) else (some 0))) = some r := h
 clear h
 replace H := oB H
 obtain ⟨t330, A20, H⟩ := H
 replace H : (if t330 = true then (some (wrap64 (a0_6 - a0_7))) else (some 0)) = some r := H
 have A2 := Aside0.mk A20
 clear A20
 by_cases c3 : t330 = true
 ·subst c3
  have H1 : (some (wrap64 (a0_6 - a0_7))) = some r := by rw [if_pos rfl] at H; exact H
  clear H
  have H := H1
  clear H1
  obtain rfl := Option.some.inj H
  go_enter Tryd.func17, Tryd.ntmps17
  go_wp2_with (first | (refine wpList_load_cells (by rfl) 23 _ (by exact rfl) ⟨gb329, 0, none⟩ (by rfl) _ _ (cells_of_blk (by (with_reducible repeat (first | refine bN ?_ _ | refine bW ?_ | refine bA ?_ _)); exact BK329.out)) Tryd.underlying23 rfl (by kernel_rfl) ?_) | ((with_reducible refine gate_dst (N := 1) rfl ?_); refine box_event ?hg (N := 1) ?hd (cs := #[.string a0_0, .string a0_1, .int .i64 a0_2, .int .i64 a0_3, .int .i64 a0_4, .int .i64 a0_5, .int .i64 a0_6, .int .i64 a0_7, .int .i64 a0_8, .int .i64 a0_9, .int .i64 a0_10]) (t := 23) ?hr ?_; (case hd => rfl); (case hg => rfl); (case hr => first | (go_simp; done) | (go_simp; rfl)); intro gb329 hg w4 hbox hb; have n0_ := q_ (pT (by repeat (first | (with_reducible first | exact HB.out | apply pA | apply pN | apply p1) | exact HB.out)) hb); have n1_ := q_ (hbox); have n2_ := q_ ((by rw [hg]; exact (pZ (by repeat (first | (with_reducible first | exact HB.out | apply pA | apply pN | apply p1) | exact HB.out))) : w.heap.size ≤ gb329)); have n3_ := n2_; clear HB; have HB := n0_; have BK329 := n1_; have GW329 := n2_; have GE329 := n3_; clear n0_ n1_ n2_ n3_; clear hb hbox hg; have hcz5 := blk_all BK329.out; simp only [CellsAt, List.toList_toArray, Nat.reduceAdd, and_true] at hcz5; have hfz5 := bF BK329.out) | ((with_reducible refine gate_callee (f := 36) rfl ?_); refine goesL_ (some 4) rfl rfl Tryd.func36 (by kernel_rfl) rfl #[.agg #[.string a0_0, .string a0_1, .int .i64 a0_2, .int .i64 a0_3, .int .i64 a0_4, .int .i64 a0_5, .int .i64 a0_6, .int .i64 a0_7, .int .i64 a0_8, .int .i64 a0_9, .int .i64 a0_10]] rfl (by first | rfl | (simp only [List.map_toArray]; rfl)) ?_; (with_reducible refine (sawmillref46_Sound.calls a0_0 a0_1 a0_2 a0_3 a0_4 a0_5 a0_6 a0_7 a0_8 a0_9 a0_10 true _ A2.out).mono ?_); rintro e w6 ⟨rfl, hb⟩; refine ⟨_, rfl, ?_⟩; have n0_ := q_ (bB (g := gb329) (by (with_reducible repeat (first | refine bN ?_ _ | refine bW ?_ | refine bA ?_ _)); exact BK329.out) hb); have n1_ := q_ (pT (by repeat (first | (with_reducible first | exact HB.out | apply pA | apply pN | apply p1 | refine pS ?_ GE329.out) | exact HB.out)) hb); clear BK329; clear HB; have BK329 := n0_; have HB := n1_; clear n0_ n1_; (try clear hb); (try clear hb2); (try clear hk); (try clear hi); have hcz7 := blk_all BK329.out; simp only [CellsAt, List.toList_toArray, Nat.reduceAdd, and_true] at hcz7; have hfz7 := bF BK329.out))
  go_ret
  exact ⟨by first | rfl | (simp [*] <;> rfl), by repeat (first | (with_reducible first | exact HB.out | apply pA | apply pN | apply p1 | refine pS ?_ GE329.out) | exact HB.out)⟩
 ·replace c3 := Bool.eq_false_iff.mpr c3
  subst c3
  have H1 : (some 0) = some r := by rw [if_neg (show ¬ (false = true) by decide)] at H; exact H
  clear H
  have H := H1
  clear H1
  obtain rfl := Option.some.inj H
  go_enter Tryd.func17, Tryd.ntmps17
  go_wp2_with (first | (refine wpList_load_cells (by rfl) 23 _ (by exact rfl) ⟨gb329, 0, none⟩ (by rfl) _ _ (cells_of_blk (by (with_reducible repeat (first | refine bN ?_ _ | refine bW ?_ | refine bA ?_ _)); exact BK329.out)) Tryd.underlying23 rfl (by kernel_rfl) ?_) | ((with_reducible refine gate_dst (N := 1) rfl ?_); refine box_event ?hg (N := 1) ?hd (cs := #[.string a0_0, .string a0_1, .int .i64 a0_2, .int .i64 a0_3, .int .i64 a0_4, .int .i64 a0_5, .int .i64 a0_6, .int .i64 a0_7, .int .i64 a0_8, .int .i64 a0_9, .int .i64 a0_10]) (t := 23) ?hr ?_; (case hd => rfl); (case hg => rfl); (case hr => first | (go_simp; done) | (go_simp; rfl)); intro gb329 hg w8 hbox hb; have n0_ := q_ (pT (by repeat (first | (with_reducible first | exact HB.out | apply pA | apply pN | apply p1) | exact HB.out)) hb); have n1_ := q_ (hbox); have n2_ := q_ ((by rw [hg]; exact (pZ (by repeat (first | (with_reducible first | exact HB.out | apply pA | apply pN | apply p1) | exact HB.out))) : w.heap.size ≤ gb329)); have n3_ := n2_; clear HB; have HB := n0_; have BK329 := n1_; have GW329 := n2_; have GE329 := n3_; clear n0_ n1_ n2_ n3_; clear hb hbox hg; have hcz9 := blk_all BK329.out; simp only [CellsAt, List.toList_toArray, Nat.reduceAdd, and_true] at hcz9; have hfz9 := bF BK329.out) | ((with_reducible refine gate_callee (f := 36) rfl ?_); refine goesL_ (some 4) rfl rfl Tryd.func36 (by kernel_rfl) rfl #[.agg #[.string a0_0, .string a0_1, .int .i64 a0_2, .int .i64 a0_3, .int .i64 a0_4, .int .i64 a0_5, .int .i64 a0_6, .int .i64 a0_7, .int .i64 a0_8, .int .i64 a0_9, .int .i64 a0_10]] rfl (by first | rfl | (simp only [List.map_toArray]; rfl)) ?_; (with_reducible refine (sawmillref46_Sound.calls a0_0 a0_1 a0_2 a0_3 a0_4 a0_5 a0_6 a0_7 a0_8 a0_9 a0_10 false _ A2.out).mono ?_); rintro e w10 ⟨rfl, hb⟩; refine ⟨_, rfl, ?_⟩; have n0_ := q_ (bB (g := gb329) (by (with_reducible repeat (first | refine bN ?_ _ | refine bW ?_ | refine bA ?_ _)); exact BK329.out) hb); have n1_ := q_ (pT (by repeat (first | (with_reducible first | exact HB.out | apply pA | apply pN | apply p1 | refine pS ?_ GE329.out) | exact HB.out)) hb); clear BK329; clear HB; have BK329 := n0_; have HB := n1_; clear n0_ n1_; (try clear hb); (try clear hb2); (try clear hk); (try clear hi)))
  go_ret
  exact ⟨by first | rfl | (simp [*] <;> rfl), by repeat (first | (with_reducible first | exact HB.out | apply pA | apply pN | apply p1 | refine pS ?_ GE329.out) | exact HB.out)⟩
def sawmillref46_Most.f (a0_0 : ByteArray) (a0_1 : ByteArray) (a0_2 : Int) (a0_3 : Int) (a0_4 : Int) (a0_5 : Int) (a0_6 : Int) (a0_7 : Int) (a0_8 : Int) (a0_9 : Int) (a0_10 : Int) : Option (Int) := (sawmillref46_Sound.f a0_0 a0_1 a0_2 a0_3 a0_4 a0_5 a0_6 a0_7 a0_8 a0_9 a0_10).bind fun t332 => (if t332 = true then (some (wrap64 (a0_6 + a0_8))) else (some 0))
set_option maxHeartbeats 8000000 in
set_option maxRecDepth 100000 in
theorem sawmillref46_Most.calls (a0_0 : ByteArray) (a0_1 : ByteArray) (a0_2 : Int) (a0_3 : Int) (a0_4 : Int) (a0_5 : Int) (a0_6 : Int) (a0_7 : Int) (a0_8 : Int) (a0_9 : Int) (a0_10 : Int) (r : Int) (w : World) (h : sawmillref46_Most.f a0_0 a0_1 a0_2 a0_3 a0_4 a0_5 a0_6 a0_7 a0_8 a0_9 a0_10 = some r) :
  Calls Tryd.prog 19 #[.agg #[.string a0_0, .string a0_1, .int .i64 a0_2, .int .i64 a0_3, .int .i64 a0_4, .int .i64 a0_5, .int .i64 a0_6, .int .i64 a0_7, .int .i64 a0_8, .int .i64 a0_9, .int .i64 a0_10]] w fun e w' => e = .returned (.int .i64 r) ∧ Below w.heap.size w w' := by
 have hu23 := Tryd.underlying23
 have HB := q_ (Below.refl w.heap.size w)
 have H : ((sawmillref46_Sound.f a0_0 a0_1 a0_2 a0_3 a0_4 a0_5 a0_6 a0_7 a0_8 a0_9 a0_10).bind fun t332 => (if t332 = true then (some (wrap64 (a0_6 + a0_8))) else (some 0))) = some r := h
 clear h
 replace H := oB H
 obtain ⟨t332, A20, H⟩ := H
 replace H : (if t332 = true then (some (wrap64 (a0_6 + a0_8))) else (some 0)) = some r := H
 have A2 := Aside0.mk A20
 clear A20
 by_cases c3 : t332 = true
 ·subst c3
  have H1 : (some (wrap64 (a0_6 + a0_8))) = some r := by rw [if_pos rfl] at H; exact H
  clear H
  have H := H1
  clear H1
  obtain rfl := Option.some.inj H
  go_enter Tryd.func19, Tryd.ntmps19
  go_wp2_with (first | (refine wpList_load_cells (by rfl) 23 _ (by exact rfl) ⟨gb331, 0, none⟩ (by rfl) _ _ (cells_of_blk (by (with_reducible repeat (first | refine bN ?_ _ | refine bW ?_ | refine bA ?_ _)); exact BK331.out)) Tryd.underlying23 rfl (by kernel_rfl) ?_) | ((with_reducible refine gate_dst (N := 1) rfl ?_); refine box_event ?hg (N := 1) ?hd (cs := #[.string a0_0, .string a0_1, .int .i64 a0_2, .int .i64 a0_3, .int .i64 a0_4, .int .i64 a0_5, .int .i64 a0_6, .int .i64 a0_7, .int .i64 a0_8, .int .i64 a0_9, .int .i64 a0_10]) (t := 23) ?hr ?_; (case hd => rfl); (case hg => rfl); (case hr => first | (go_simp; done) | (go_simp; rfl)); intro gb331 hg w4 hbox hb; have n0_ := q_ (pT (by repeat (first | (with_reducible first | exact HB.out | apply pA | apply pN | apply p1) | exact HB.out)) hb); have n1_ := q_ (hbox); have n2_ := q_ ((by rw [hg]; exact (pZ (by repeat (first | (with_reducible first | exact HB.out | apply pA | apply pN | apply p1) | exact HB.out))) : w.heap.size ≤ gb331)); have n3_ := n2_; clear HB; have HB := n0_; have BK331 := n1_; have GW331 := n2_; have GE331 := n3_; clear n0_ n1_ n2_ n3_; clear hb hbox hg; have hcz5 := blk_all BK331.out; simp only [CellsAt, List.toList_toArray, Nat.reduceAdd, and_true] at hcz5; have hfz5 := bF BK331.out) | ((with_reducible refine gate_callee (f := 36) rfl ?_); refine goesL_ (some 4) rfl rfl Tryd.func36 (by kernel_rfl) rfl #[.agg #[.string a0_0, .string a0_1, .int .i64 a0_2, .int .i64 a0_3, .int .i64 a0_4, .int .i64 a0_5, .int .i64 a0_6, .int .i64 a0_7, .int .i64 a0_8, .int .i64 a0_9, .int .i64 a0_10]] rfl (by first | rfl | (simp only [List.map_toArray]; rfl)) ?_; (with_reducible refine (sawmillref46_Sound.calls a0_0 a0_1 a0_2 a0_3 a0_4 a0_5 a0_6 a0_7 a0_8 a0_9 a0_10 true _ A2.out).mono ?_); rintro e w6 ⟨rfl, hb⟩; refine ⟨_, rfl, ?_⟩; have n0_ := q_ (bB (g := gb331) (by (with_reducible repeat (first | refine bN ?_ _ | refine bW ?_ | refine bA ?_ _)); exact BK331.out) hb); have n1_ := q_ (pT (by repeat (first | (with_reducible first | exact HB.out | apply pA | apply pN | apply p1 | refine pS ?_ GE331.out) | exact HB.out)) hb); clear BK331; clear HB; have BK331 := n0_; have HB := n1_; clear n0_ n1_; (try clear hb); (try clear hb2); (try clear hk); (try clear hi); have hcz7 := blk_all BK331.out; simp only [CellsAt, List.toList_toArray, Nat.reduceAdd, and_true] at hcz7; have hfz7 := bF BK331.out))
  go_ret
  exact ⟨by first | rfl | (simp [*] <;> rfl), by repeat (first | (with_reducible first | exact HB.out | apply pA | apply pN | apply p1 | refine pS ?_ GE331.out) | exact HB.out)⟩
 ·replace c3 := Bool.eq_false_iff.mpr c3
  subst c3
  have H1 : (some 0) = some r := by rw [if_neg (show ¬ (false = true) by decide)] at H; exact H
  clear H
  have H := H1
  clear H1
  obtain rfl := Option.some.inj H
  go_enter Tryd.func19, Tryd.ntmps19
  go_wp2_with (first | (refine wpList_load_cells (by rfl) 23 _ (by exact rfl) ⟨gb331, 0, none⟩ (by rfl) _ _ (cells_of_blk (by (with_reducible repeat (first | refine bN ?_ _ | refine bW ?_ | refine bA ?_ _)); exact BK331.out)) Tryd.underlying23 rfl (by kernel_rfl) ?_) | ((with_reducible refine gate_dst (N := 1) rfl ?_); refine box_event ?hg (N := 1) ?hd (cs := #[.string a0_0, .string a0_1, .int .i64 a0_2, .int .i64 a0_3, .int .i64 a0_4, .int .i64 a0_5, .int .i64 a0_6, .int .i64 a0_7, .int .i64 a0_8, .int .i64 a0_9, .int .i64 a0_10]) (t := 23) ?hr ?_; (case hd => rfl); (case hg => rfl); (case hr => first | (go_simp; done) | (go_simp; rfl)); intro gb331 hg w8 hbox hb; have n0_ := q_ (pT (by repeat (first | (with_reducible first | exact HB.out | apply pA | apply pN | apply p1) | exact HB.out)) hb); have n1_ := q_ (hbox); have n2_ := q_ ((by rw [hg]; exact (pZ (by repeat (first | (with_reducible first | exact HB.out | apply pA | apply pN | apply p1) | exact HB.out))) : w.heap.size ≤ gb331)); have n3_ := n2_; clear HB; have HB := n0_; have BK331 := n1_; have GW331 := n2_; have GE331 := n3_; clear n0_ n1_ n2_ n3_; clear hb hbox hg; have hcz9 := blk_all BK331.out; simp only [CellsAt, List.toList_toArray, Nat.reduceAdd, and_true] at hcz9; have hfz9 := bF BK331.out) | ((with_reducible refine gate_callee (f := 36) rfl ?_); refine goesL_ (some 4) rfl rfl Tryd.func36 (by kernel_rfl) rfl #[.agg #[.string a0_0, .string a0_1, .int .i64 a0_2, .int .i64 a0_3, .int .i64 a0_4, .int .i64 a0_5, .int .i64 a0_6, .int .i64 a0_7, .int .i64 a0_8, .int .i64 a0_9, .int .i64 a0_10]] rfl (by first | rfl | (simp only [List.map_toArray]; rfl)) ?_; (with_reducible refine (sawmillref46_Sound.calls a0_0 a0_1 a0_2 a0_3 a0_4 a0_5 a0_6 a0_7 a0_8 a0_9 a0_10 false _ A2.out).mono ?_); rintro e w10 ⟨rfl, hb⟩; refine ⟨_, rfl, ?_⟩; have n0_ := q_ (bB (g := gb331) (by (with_reducible repeat (first | refine bN ?_ _ | refine bW ?_ | refine bA ?_ _)); exact BK331.out) hb); have n1_ := q_ (pT (by repeat (first | (with_reducible first | exact HB.out | apply pA | apply pN | apply p1 | refine pS ?_ GE331.out) | exact HB.out)) hb); clear BK331; clear HB; have BK331 := n0_; have HB := n1_; clear n0_ n1_; (try clear hb); (try clear hb2); (try clear hk); (try clear hi)))
  go_ret
  exact ⟨by first | rfl | (simp [*] <;> rfl), by repeat (first | (with_reducible first | exact HB.out | apply pA | apply pN | apply p1 | refine pS ?_ GE331.out) | exact HB.out)⟩
end Go.Proofs.YtblmgmhjlbkncaaDoor.PA
namespace Go.Proofs.YtblmgmhjlbkncaaDoor.PA
open Go.RowKit Go.Proofs.YtblmgmhjlbkncaaDoorW.PrintWords Go.Proofs.YtblmgmhjlbkncaaDoorW.PrintLast Go.Proofs.YtblmgmhjlbkncaaDoorW.PrintMore
attribute [local go_sem] max2_int min2_int max_two min_two max_three min_three max_four min_four
set_option linter.unusedVariables false
set_option linter.unusedSimpArgs false
mutual
def sawmillref46_Filled.j0 : Nat → List (S38) → Bool → ByteArray → ByteArray → Int → Int → Int → Int → Int → Int → Int → Int → Int → Option (Bool)
 | 0, _, _, _, _, _, _, _, _, _, _, _, _, _ => none
 | k + 1, x1, x23, x343000, x343001, x343002, x343003, x343004, x343005, x343006, x343007, x343008, x343009, x343010 => if x23 = true then (some false) else (sawmillref46_Filled.l0 k x1 0 x343000 x343001 x343002 x343003 x343004 x343005 x343006 x343007 x343008 x343009 x343010)
def sawmillref46_Filled.l0 : Nat → List (S38) → Int → ByteArray → ByteArray → Int → Int → Int → Int → Int → Int → Int → Int → Int → Option (Bool)
 | 0, _, _, _, _, _, _, _, _, _, _, _, _, _ => none
 | k + 1, x1, x5, x343000, x343001, x343002, x343003, x343004, x343005, x343006, x343007, x343008, x343009, x343010 => if x5 < (x1.length : Int) then (if 0 ≤ x5 then ((sawmillref46_Fits.f k x343000 x343001 x343002 x343003 x343004 x343005 x343006 x343007 x343008 x343009 x343010 ((rd_T38 x1 x5).f0) ((rd_T38 x1 x5).f1) ((rd_T38 x1 x5).f2) ((rd_T38 x1 x5).f3) ((rd_T38 x1 x5).f4.f0.f0) ((rd_T38 x1 x5).f4.f0.f1) ((rd_T38 x1 x5).f4.f1.f0) ((rd_T38 x1 x5).f4.f1.f1) ((rd_T38 x1 x5).f4.f2.f0) ((rd_T38 x1 x5).f4.f2.f1) ((rd_T38 x1 x5).f5) ((rd_T38 x1 x5).f6) ((rd_T38 x1 x5).f7) ((rd_T38 x1 x5).f8.f0) ((rd_T38 x1 x5).f8.f1) ((rd_T38 x1 x5).f8.f2) ((rd_T38 x1 x5).f9) ((rd_T38 x1 x5).f10)).bind fun t347 => (if t347 = 0 then (sawmillref46_Filled.l1 k x1 x5 0 x343000 x343001 x343002 x343003 x343004 x343005 x343006 x343007 x343008 x343009 x343010) else (some false))) else (none)) else (some true)
def sawmillref46_Filled.l1 : Nat → List (S38) → Int → Int → ByteArray → ByteArray → Int → Int → Int → Int → Int → Int → Int → Int → Int → Option (Bool)
 | 0, _, _, _, _, _, _, _, _, _, _, _, _, _, _ => none
 | k + 1, x1, x5, x6, x343000, x343001, x343002, x343003, x343004, x343005, x343006, x343007, x343008, x343009, x343010 => if x6 < x5 then (if 0 ≤ x6 then (if x6 < (x1.length : Int) then (if 0 ≤ x5 then (if x5 < (x1.length : Int) then (if ((rd_T38 x1 x6).f0).toList = ((rd_T38 x1 x5).f0).toList then (some false) else (sawmillref46_Filled.l1 k x1 x5 (wrap64 (x6 + 1)) x343000 x343001 x343002 x343003 x343004 x343005 x343006 x343007 x343008 x343009 x343010)) else (none)) else (none)) else (none)) else (none)) else (sawmillref46_Filled.l0 k x1 (wrap64 (x5 + 1)) x343000 x343001 x343002 x343003 x343004 x343005 x343006 x343007 x343008 x343009 x343010)
end
def sawmillref46_Filled.f (k : Nat) (a0_0 : ByteArray) (a0_1 : ByteArray) (a0_2 : Int) (a0_3 : Int) (a0_4 : Int) (a0_5 : Int) (a0_6 : Int) (a0_7 : Int) (a0_8 : Int) (a0_9 : Int) (a0_10 : Int) (l1 : List (S38)) : Option (Bool) := (sawmillref46_Sound.f a0_0 a0_1 a0_2 a0_3 a0_4 a0_5 a0_6 a0_7 a0_8 a0_9 a0_10).bind fun t343 => (if t343 = true then ((sawmillref46_Least.f a0_0 a0_1 a0_2 a0_3 a0_4 a0_5 a0_6 a0_7 a0_8 a0_9 a0_10).bind fun t344 => (if (l1.length : Int) < t344 then (sawmillref46_Filled.j0 k l1 true a0_0 a0_1 a0_2 a0_3 a0_4 a0_5 a0_6 a0_7 a0_8 a0_9 a0_10) else ((sawmillref46_Most.f a0_0 a0_1 a0_2 a0_3 a0_4 a0_5 a0_6 a0_7 a0_8 a0_9 a0_10).bind fun t345 => (sawmillref46_Filled.j0 k l1 (decide ((l1.length : Int) > t345)) a0_0 a0_1 a0_2 a0_3 a0_4 a0_5 a0_6 a0_7 a0_8 a0_9 a0_10)))) else (sawmillref46_Filled.j0 k l1 true a0_0 a0_1 a0_2 a0_3 a0_4 a0_5 a0_6 a0_7 a0_8 a0_9 a0_10))
def sawmillref46_Filled.T11 : Bool × List (List Nat × List Nat) := (true, [([], []), ([], []), ([0, 1], [0, 1]), ([2], [2]), ([3], [3]), ([], []), ([], []), ([5, 6], [5, 6]), ([7], [7]), ([8], [8]), ([4, 9], [4, 9])])
def sawmillref46_Filled.B11 : List Nat := [0, 0, 3, 7, 15, 0, 0, 96, 224, 480, 1023]
theorem sawmillref46_Filled.tab11 : rtab .any (opsOf Tryd.f21 11) = sawmillref46_Filled.T11 := by kernel_rfl
theorem sawmillref46_Filled.bits11 : waitsOk sawmillref46_Filled.T11.2 sawmillref46_Filled.B11 = true := by kernel_rfl
set_option maxHeartbeats 8000000 in
set_option maxRecDepth 100000 in
theorem sawmillref46_Filled.calls (k : Nat) (a0_0 : ByteArray) (a0_1 : ByteArray) (a0_2 : Int) (a0_3 : Int) (a0_4 : Int) (a0_5 : Int) (a0_6 : Int) (a0_7 : Int) (a0_8 : Int) (a0_9 : Int) (a0_10 : Int) (A1 : Option Addr) (c1 : Nat) (l1 : List (S38)) (r : Bool) (w : World) (hr1 : Kd.C k38 w A1 l1.length l1) (hc1 : l1.length ≤ c1) (h : sawmillref46_Filled.f k a0_0 a0_1 a0_2 a0_3 a0_4 a0_5 a0_6 a0_7 a0_8 a0_9 a0_10 l1 = some r) :
  Calls Tryd.prog 21 #[.agg #[.string a0_0, .string a0_1, .int .i64 a0_2, .int .i64 a0_3, .int .i64 a0_4, .int .i64 a0_5, .int .i64 a0_6, .int .i64 a0_7, .int .i64 a0_8, .int .i64 a0_9, .int .i64 a0_10], .slice A1 l1.length c1] w fun e w' => e = .returned (.bool r) ∧ Below w.heap.size w w' := by
 have hu23 := Tryd.underlying23
 have hu38 := Tryd.underlying38
 have HR1 := Aside0.mk hr1
 have HC1 := Aside0.mk hc1
 clear hr1 hc1
 have HB := q_ (Below.refl w.heap.size w)
 have H : ((sawmillref46_Sound.f a0_0 a0_1 a0_2 a0_3 a0_4 a0_5 a0_6 a0_7 a0_8 a0_9 a0_10).bind fun t343 => (if t343 = true then ((sawmillref46_Least.f a0_0 a0_1 a0_2 a0_3 a0_4 a0_5 a0_6 a0_7 a0_8 a0_9 a0_10).bind fun t344 => (if (l1.length : Int) < t344 then (sawmillref46_Filled.j0 k l1 true a0_0 a0_1 a0_2 a0_3 a0_4 a0_5 a0_6 a0_7 a0_8 a0_9 a0_10) else ((sawmillref46_Most.f a0_0 a0_1 a0_2 a0_3 a0_4 a0_5 a0_6 a0_7 a0_8 a0_9 a0_10).bind fun t345 => (sawmillref46_Filled.j0 k l1 (decide ((l1.length : Int) > t345)) a0_0 a0_1 a0_2 a0_3 a0_4 a0_5 a0_6 a0_7 a0_8 a0_9 a0_10)))) else (sawmillref46_Filled.j0 k l1 true a0_0 a0_1 a0_2 a0_3 a0_4 a0_5 a0_6 a0_7 a0_8 a0_9 a0_10))) = some r := h
 clear h
 have HC3 := Aside0.mk H
 clear H
 go_enter Tryd.func21, Tryd.ntmps21
 go_upto_region 1 with (first | ((with_reducible refine gate_dst (N := 2) rfl ?_); (try (refine gate_guard (by rfl) ?_; dsimp only)); refine box_event ?hg (N := 2) ?hd (cs := #[.string a0_0, .string a0_1, .int .i64 a0_2, .int .i64 a0_3, .int .i64 a0_4, .int .i64 a0_5, .int .i64 a0_6, .int .i64 a0_7, .int .i64 a0_8, .int .i64 a0_9, .int .i64 a0_10]) (t := 23) ?hr ?_; (case hd => rfl); (case hg => rfl); (case hr => first | (go_simp; done) | (go_simp; rfl)); intro gb342 hg w4 hbox hb; have n0_ := q_ (pT (by repeat (first | (with_reducible first | exact HB.out | apply pA | apply pN | apply p1) | exact HB.out)) hb); have n1_ := q_ (hbox); have n2_ := q_ ((by rw [hg]; exact (pZ (by repeat (first | (with_reducible first | exact HB.out | apply pA | apply pN | apply p1) | exact HB.out))) : w.heap.size ≤ gb342)); have n3_ := n2_; clear HB; have HB := n0_; have BK342 := n1_; have GW342 := n2_; have GE342 := n3_; clear n0_ n1_ n2_ n3_; clear hb hbox hg))
 (try simp only [Act.put, List.setIfInBounds_toArray, List.set_cons_zero, List.set_cons_succ])
 go_cut [23] (fun v23 wc => ∃ (kq : Nat) (x23_2 : Bool), v23 = .bool x23_2 ∧ Aside0 (sawmillref46_Filled.j0 kq l1 x23_2 a0_0 a0_1 a0_2 a0_3 a0_4 a0_5 a0_6 a0_7 a0_8 a0_9 a0_10 = some r) ∧ Aside0 (kq ≤ k) ∧ Aside0 (wc.heap[gb342]? = some (.cells #[.string a0_0, .string a0_1, .int .i64 a0_2, .int .i64 a0_3, .int .i64 a0_4, .int .i64 a0_5, .int .i64 a0_6, .int .i64 a0_7, .int .i64 a0_8, .int .i64 a0_9, .int .i64 a0_10] 23 (0, 0))) ∧ Aside0 (Below w.heap.size w wc))
 case first =>
  have H := HC3.out
  clear HC3
  replace H := oB H
  obtain ⟨t343, A50, H⟩ := H
  replace H : (if t343 = true then ((sawmillref46_Least.f a0_0 a0_1 a0_2 a0_3 a0_4 a0_5 a0_6 a0_7 a0_8 a0_9 a0_10).bind fun t344 => (if (l1.length : Int) < t344 then (sawmillref46_Filled.j0 k l1 true a0_0 a0_1 a0_2 a0_3 a0_4 a0_5 a0_6 a0_7 a0_8 a0_9 a0_10) else ((sawmillref46_Most.f a0_0 a0_1 a0_2 a0_3 a0_4 a0_5 a0_6 a0_7 a0_8 a0_9 a0_10).bind fun t345 => (sawmillref46_Filled.j0 k l1 (decide ((l1.length : Int) > t345)) a0_0 a0_1 a0_2 a0_3 a0_4 a0_5 a0_6 a0_7 a0_8 a0_9 a0_10)))) else (sawmillref46_Filled.j0 k l1 true a0_0 a0_1 a0_2 a0_3 a0_4 a0_5 a0_6 a0_7 a0_8 a0_9 a0_10)) = some r := H
  have A5 := Aside0.mk A50
  clear A50
  by_cases c6 : t343 = true
  ·subst c6
   have H1 : ((sawmillref46_Least.f a0_0 a0_1 a0_2 a0_3 a0_4 a0_5 a0_6 a0_7 a0_8 a0_9 a0_10).bind fun t344 => (if (l1.length : Int) < t344 then (sawmillref46_Filled.j0 k l1 true a0_0 a0_1 a0_2 a0_3 a0_4 a0_5 a0_6 a0_7 a0_8 a0_9 a0_10) else ((sawmillref46_Most.f a0_0 a0_1 a0_2 a0_3 a0_4 a0_5 a0_6 a0_7 a0_8 a0_9 a0_10).bind fun t345 => (sawmillref46_Filled.j0 k l1 (decide ((l1.length : Int) > t345)) a0_0 a0_1 a0_2 a0_3 a0_4 a0_5 a0_6 a0_7 a0_8 a0_9 a0_10)))) = some r := by rw [if_pos rfl] at H; exact H
   clear H
   have H := H1
   clear H1
   replace H := oB H
   obtain ⟨t344, A70, H⟩ := H
   replace H : (if (l1.length : Int) < t344 then (sawmillref46_Filled.j0 k l1 true a0_0 a0_1 a0_2 a0_3 a0_4 a0_5 a0_6 a0_7 a0_8 a0_9 a0_10) else ((sawmillref46_Most.f a0_0 a0_1 a0_2 a0_3 a0_4 a0_5 a0_6 a0_7 a0_8 a0_9 a0_10).bind fun t345 => (sawmillref46_Filled.j0 k l1 (decide ((l1.length : Int) > t345)) a0_0 a0_1 a0_2 a0_3 a0_4 a0_5 a0_6 a0_7 a0_8 a0_9 a0_10))) = some r := H
   have A7 := Aside0.mk A70
   clear A70
   by_cases c8 : (l1.length : Int) < t344
   ·rw [if_pos c8] at H
    have c8b0 : decide ((l1.length : Int) < t344) = true := decide_eq_true c8
    clear c8
    (first | rw [c8b0] | (simp only [i64_w, i32_w]; rw [c8b0]) | skip)
    have H' := Aside0.mk H
    clear H
    have hcz9 := blk_all BK342.out
    simp only [CellsAt, List.toList_toArray, Nat.reduceAdd, and_true] at hcz9
    have hfz9 := bF BK342.out
    go_wp2_with (first | ((with_reducible refine gate_callee (f := 36) rfl ?_); refine goesL_ (some 8) rfl rfl Tryd.func36 (by kernel_rfl) rfl #[.agg #[.string a0_0, .string a0_1, .int .i64 a0_2, .int .i64 a0_3, .int .i64 a0_4, .int .i64 a0_5, .int .i64 a0_6, .int .i64 a0_7, .int .i64 a0_8, .int .i64 a0_9, .int .i64 a0_10]] rfl (by first | rfl | (simp only [List.map_toArray]; rfl)) ?_; (with_reducible refine (sawmillref46_Sound.calls a0_0 a0_1 a0_2 a0_3 a0_4 a0_5 a0_6 a0_7 a0_8 a0_9 a0_10 true _ A5.out).mono ?_); rintro e w10 ⟨rfl, hb⟩; refine ⟨_, rfl, ?_⟩; have n0_ := q_ (bB (g := gb342) (by (with_reducible repeat (first | refine bN ?_ _ | refine bW ?_ | refine bA ?_ _)); exact BK342.out) hb); have n1_ := q_ (pT (by repeat (first | (with_reducible first | exact HB.out | apply pA | apply pN | apply p1 | refine pS ?_ GE342.out) | exact HB.out)) hb); clear BK342; clear HB; have BK342 := n0_; have HB := n1_; clear n0_ n1_; (try clear hb); (try clear hb2); (try clear hk); (try clear hi); have hcz11 := blk_all BK342.out; simp only [CellsAt, List.toList_toArray, Nat.reduceAdd, and_true] at hcz11; have hfz11 := bF BK342.out) | (go_at_call 17; (with_reducible refine (sawmillref46_Least.calls a0_0 a0_1 a0_2 a0_3 a0_4 a0_5 a0_6 a0_7 a0_8 a0_9 a0_10 t344 _ A7.out).mono ?_); rintro e w12 ⟨rfl, hb⟩; have n0_ := q_ (bB (g := gb342) (by (with_reducible repeat (first | refine bN ?_ _ | refine bW ?_ | refine bA ?_ _)); exact BK342.out) hb); have n1_ := q_ (pT (by repeat (first | (with_reducible first | exact HB.out | apply pA | apply pN | apply p1 | refine pS ?_ GE342.out) | exact HB.out)) hb); clear BK342; clear HB; have BK342 := n0_; have HB := n1_; clear n0_ n1_; (try clear hb); (try clear hb2); (try clear hk); (try clear hi)))
    go_meet
    case rel => exact ⟨_, (true), (by first | rfl | (simp; done) | (simp [*]; done)), H', ⟨by first | omega | exact Nat.le_refl _⟩, ⟨by (with_reducible repeat (first | refine bN ?_ _ | refine bW ?_ | refine bA ?_ _)); exact BK342.out⟩, ⟨by repeat (first | (with_reducible first | exact HB.out | apply pA | apply pN | apply p1 | refine pS ?_ GE342.out) | exact HB.out)⟩⟩
   ·rw [if_neg c8] at H
    have c8b0 : decide ((l1.length : Int) < t344) = false := decide_eq_false c8
    clear c8
    (first | rw [c8b0] | (simp only [i64_w, i32_w]; rw [c8b0]) | skip)
    replace H := oB H
    obtain ⟨t345, A130, H⟩ := H
    replace H : (sawmillref46_Filled.j0 k l1 (decide ((l1.length : Int) > t345)) a0_0 a0_1 a0_2 a0_3 a0_4 a0_5 a0_6 a0_7 a0_8 a0_9 a0_10) = some r := H
    have A13 := Aside0.mk A130
    clear A130
    have H' := Aside0.mk H
    clear H
    have hcz14 := blk_all BK342.out
    simp only [CellsAt, List.toList_toArray, Nat.reduceAdd, and_true] at hcz14
    have hfz14 := bF BK342.out
    go_wp2_with (first | ((with_reducible refine gate_callee (f := 36) rfl ?_); refine goesL_ (some 8) rfl rfl Tryd.func36 (by kernel_rfl) rfl #[.agg #[.string a0_0, .string a0_1, .int .i64 a0_2, .int .i64 a0_3, .int .i64 a0_4, .int .i64 a0_5, .int .i64 a0_6, .int .i64 a0_7, .int .i64 a0_8, .int .i64 a0_9, .int .i64 a0_10]] rfl (by first | rfl | (simp only [List.map_toArray]; rfl)) ?_; (with_reducible refine (sawmillref46_Sound.calls a0_0 a0_1 a0_2 a0_3 a0_4 a0_5 a0_6 a0_7 a0_8 a0_9 a0_10 true _ A5.out).mono ?_); rintro e w15 ⟨rfl, hb⟩; refine ⟨_, rfl, ?_⟩; have n0_ := q_ (bB (g := gb342) (by (with_reducible repeat (first | refine bN ?_ _ | refine bW ?_ | refine bA ?_ _)); exact BK342.out) hb); have n1_ := q_ (pT (by repeat (first | (with_reducible first | exact HB.out | apply pA | apply pN | apply p1 | refine pS ?_ GE342.out) | exact HB.out)) hb); clear BK342; clear HB; have BK342 := n0_; have HB := n1_; clear n0_ n1_; (try clear hb); (try clear hb2); (try clear hk); (try clear hi); have hcz16 := blk_all BK342.out; simp only [CellsAt, List.toList_toArray, Nat.reduceAdd, and_true] at hcz16; have hfz16 := bF BK342.out) | (go_at_call 17; (with_reducible refine (sawmillref46_Least.calls a0_0 a0_1 a0_2 a0_3 a0_4 a0_5 a0_6 a0_7 a0_8 a0_9 a0_10 t344 _ A7.out).mono ?_); rintro e w17 ⟨rfl, hb⟩; have n0_ := q_ (bB (g := gb342) (by (with_reducible repeat (first | refine bN ?_ _ | refine bW ?_ | refine bA ?_ _)); exact BK342.out) hb); have n1_ := q_ (pT (by repeat (first | (with_reducible first | exact HB.out | apply pA | apply pN | apply p1 | refine pS ?_ GE342.out) | exact HB.out)) hb); clear BK342; clear HB; have BK342 := n0_; have HB := n1_; clear n0_ n1_; (try clear hb); (try clear hb2); (try clear hk); (try clear hi); have hcz18 := blk_all BK342.out; simp only [CellsAt, List.toList_toArray, Nat.reduceAdd, and_true] at hcz18; have hfz18 := bF BK342.out) | (go_at_call 19; (with_reducible refine (sawmillref46_Most.calls a0_0 a0_1 a0_2 a0_3 a0_4 a0_5 a0_6 a0_7 a0_8 a0_9 a0_10 t345 _ A13.out).mono ?_); rintro e w19 ⟨rfl, hb⟩; have n0_ := q_ (bB (g := gb342) (by (with_reducible repeat (first | refine bN ?_ _ | refine bW ?_ | refine bA ?_ _)); exact BK342.out) hb); have n1_ := q_ (pT (by repeat (first | (with_reducible first | exact HB.out | apply pA | apply pN | apply p1 | refine pS ?_ GE342.out) | exact HB.out)) hb); clear BK342; clear HB; have BK342 := n0_; have HB := n1_; clear n0_ n1_; (try clear hb); (try clear hb2); (try clear hk); (try clear hi)))
    go_meet
    case rel => exact ⟨_, (decide ((l1.length : Int) > t345)), (by first | rfl | (simp; done) | (simp [*]; done)), H', ⟨by first | omega | exact Nat.le_refl _⟩, ⟨by (with_reducible repeat (first | refine bN ?_ _ | refine bW ?_ | refine bA ?_ _)); exact BK342.out⟩, ⟨by repeat (first | (with_reducible first | exact HB.out | apply pA | apply pN | apply p1 | refine pS ?_ GE342.out) | exact HB.out)⟩⟩
  ·replace c6 := Bool.eq_false_iff.mpr c6
   subst c6
   have H1 : (sawmillref46_Filled.j0 k l1 true a0_0 a0_1 a0_2 a0_3 a0_4 a0_5 a0_6 a0_7 a0_8 a0_9 a0_10) = some r := by rw [if_neg (show ¬ (false = true) by decide)] at H; exact H
   clear H
   have H := H1
   clear H1
   have H' := Aside0.mk H
   clear H
   have hcz20 := blk_all BK342.out
   simp only [CellsAt, List.toList_toArray, Nat.reduceAdd, and_true] at hcz20
   have hfz20 := bF BK342.out
   go_wp2_with (first | ((with_reducible refine gate_callee (f := 36) rfl ?_); refine goesL_ (some 8) rfl rfl Tryd.func36 (by kernel_rfl) rfl #[.agg #[.string a0_0, .string a0_1, .int .i64 a0_2, .int .i64 a0_3, .int .i64 a0_4, .int .i64 a0_5, .int .i64 a0_6, .int .i64 a0_7, .int .i64 a0_8, .int .i64 a0_9, .int .i64 a0_10]] rfl (by first | rfl | (simp only [List.map_toArray]; rfl)) ?_; (with_reducible refine (sawmillref46_Sound.calls a0_0 a0_1 a0_2 a0_3 a0_4 a0_5 a0_6 a0_7 a0_8 a0_9 a0_10 false _ A5.out).mono ?_); rintro e w21 ⟨rfl, hb⟩; refine ⟨_, rfl, ?_⟩; have n0_ := q_ (bB (g := gb342) (by (with_reducible repeat (first | refine bN ?_ _ | refine bW ?_ | refine bA ?_ _)); exact BK342.out) hb); have n1_ := q_ (pT (by repeat (first | (with_reducible first | exact HB.out | apply pA | apply pN | apply p1 | refine pS ?_ GE342.out) | exact HB.out)) hb); clear BK342; clear HB; have BK342 := n0_; have HB := n1_; clear n0_ n1_; (try clear hb); (try clear hb2); (try clear hk); (try clear hi)))
   go_meet
   case rel => exact ⟨_, (true), (by first | rfl | (simp; done) | (simp [*]; done)), H', ⟨by first | omega | exact Nat.le_refl _⟩, ⟨by (with_reducible repeat (first | refine bN ?_ _ | refine bW ?_ | refine bA ?_ _)); exact BK342.out⟩, ⟨by repeat (first | (with_reducible first | exact HB.out | apply pA | apply pN | apply p1 | refine pS ?_ GE342.out) | exact HB.out)⟩⟩
 case rest =>
  clear HC3
  try clear c1
  try clear c2
  try clear p2
  try clear c3
  try clear c6
  try clear c8
  try clear c8b0
  try clear c21
  try clear hcz11
  try clear hcz14
  try clear hcz16
  try clear hcz18
  try clear hcz20
  try clear hcz9
  try clear hfz11
  try clear hfz14
  try clear hfz16
  try clear hfz18
  try clear hfz20
  try clear hfz9
  obtain ⟨kq, x23_2, rfl, HA, HJ2, BK342, HB⟩ := hcut
  cases kq with
  | zero => exact absurd HA.out (by simp [sawmillref46_Filled.j0])
  | succ kj2 =>
   have H := HA.out
   clear HA
   simp only [sawmillref46_Filled.j0] at H
   by_cases c22 : x23_2 = true
   ·subst c22
    have H1 : (some false) = some r := by rw [if_pos rfl] at H; exact H
    clear H
    have H := H1
    clear H1
    obtain rfl := Option.some.inj H
    go_wp2
    go_ret
    exact ⟨by first | rfl | (simp [*] <;> rfl), by repeat (first | (with_reducible first | exact HB.out | apply pA | apply pN | apply p1 | refine pS ?_ GE342.out) | exact HB.out)⟩
   ·replace c22 := Bool.eq_false_iff.mpr c22
    subst c22
    have H1 : (sawmillref46_Filled.l0 kj2 l1 0 a0_0 a0_1 a0_2 a0_3 a0_4 a0_5 a0_6 a0_7 a0_8 a0_9 a0_10) = some r := by rw [if_neg (show ¬ (false = true) by decide)] at H; exact H
    clear H
    have H := H1
    clear H1
    have H' := Aside0.mk H
    clear H
    go_wp2
    go_loopg [5] kj2 (fun kq v5 w' => ∃ (x5_2 : Int), v5 = .int .i64 x5_2 ∧ Aside0 (sawmillref46_Filled.l0 kq l1 x5_2 a0_0 a0_1 a0_2 a0_3 a0_4 a0_5 a0_6 a0_7 a0_8 a0_9 a0_10 = some r) ∧ Aside0 (kq ≤ kj2) ∧ Aside0 (w'.heap[gb342]? = some (.cells #[.string a0_0, .string a0_1, .int .i64 a0_2, .int .i64 a0_3, .int .i64 a0_4, .int .i64 a0_5, .int .i64 a0_6, .int .i64 a0_7, .int .i64 a0_8, .int .i64 a0_9, .int .i64 a0_10] 23 (0, 0))) ∧ Aside0 (Below w.heap.size w w'))
    case atStart => exact ⟨(0), (by first | rfl | (simp; done) | (simp [*]; done)), H', ⟨Nat.le_refl _⟩, ⟨by (with_reducible repeat (first | refine bN ?_ _ | refine bW ?_ | refine bA ?_ _)); exact BK342.out⟩, ⟨by repeat (first | (with_reducible first | exact HB.out | apply pA | apply pN | apply p1 | refine pS ?_ GE342.out) | exact HB.out)⟩⟩
    case round =>
     clear H'
     try clear c1
     try clear c2
     try clear p2
     try clear c3
     try clear c6
     try clear c8
     try clear c8b0
     try clear c21
     try clear c22
     try clear hcz11
     try clear hcz14
     try clear hcz16
     try clear hcz18
     try clear hcz20
     try clear hcz9
     try clear hfz11
     try clear hfz14
     try clear hfz16
     try clear hfz18
     try clear hfz20
     try clear hfz9
     try clear p2
     obtain ⟨x5_2, rfl, HA, HK2, BK342, HB⟩ := hrel
     cases gk with
     | zero => exact absurd HA.out (by simp [sawmillref46_Filled.l0])
     | succ k2 =>
      have H := HA.out
      clear HA
      simp only [sawmillref46_Filled.l0] at H
      by_cases c23 : x5_2 < (l1.length : Int)
      ·rw [if_pos c23] at H
       have c23b0 : decide (x5_2 < (l1.length : Int)) = true := decide_eq_true c23
       clear c23
       by_cases c24 : 0 ≤ x5_2
       ·rw [if_pos c24] at H
        have c24b0 : decide (0 ≤ x5_2) = true := decide_eq_true c24
        clear c24
        replace H := oB H
        obtain ⟨t347, A250, H⟩ := H
        replace H : (if t347 = 0 then (sawmillref46_Filled.l1 k2 l1 x5_2 0 a0_0 a0_1 a0_2 a0_3 a0_4 a0_5 a0_6 a0_7 a0_8 a0_9 a0_10) else (some false)) = some r := H
        have A25 := Aside0.mk A250
        clear A250
        by_cases c26 : t347 = 0
        ·rw [if_pos c26] at H
         have c26b0 : (t347 == 0) = true := beq_iff_eq.mpr c26
         have c26b1 : (t347 != 0) = false := oD c26
         clear c26
         have H' := Aside0.mk H
         clear H
         try go_wp2
         have n0_ := q_ (bW BK342.out)
         have n1_ := q_ (p1 HB.out)
         clear BK342
         clear HB
         have BK342 := n0_
         have HB := n1_
         clear n0_ n1_
         have p346 : 0 ≤ (x5_2 : Int) := of_decide_eq_true (by first | (with_reducible assumption) | assumption)
         have q346 : x5_2 < (l1.length : Int) := of_decide_eq_true (by first | (with_reducible assumption) | assumption)
         obtain ⟨ad346, A346_11, c346_11, e346, hx346_0, hx346_1, hx346_2, hx346_3, hx346_4, hx346_5, hx346_6, hx346_7, hx346_8, hx346_9, hx346_10, hx346_11, hx346_12, hx346_13, hx346_14, hx346_15, hx346_16, hx346_17, hl346_11, hi346_11⟩ := at_T38 HR1.out x5_2 p346 q346
         have hw346_17 := hx346_17
         have hw346_16 := hx346_16
         have hw346_15 := hx346_15
         have hw346_14 := hx346_14
         have hw346_13 := hx346_13
         have hw346_12 := hx346_12
         have hw346_11 := hx346_11
         have hw346_10 := hx346_10
         have hw346_9 := hx346_9
         have hw346_8 := hx346_8
         have hw346_7 := hx346_7
         have hw346_6 := hx346_6
         have hw346_5 := hx346_5
         have hw346_4 := hx346_4
         have hw346_3 := hx346_3
         have hw346_2 := hx346_2
         have hw346_1 := hx346_1
         have hw346_0 := hx346_0
         cases e346
         replace hx346_0 := (HB.out.cell (World.block_lt_of_cell? w _ hx346_0)).trans hx346_0
         replace hx346_1 := (HB.out.cell (World.block_lt_of_cell? w _ hx346_1)).trans hx346_1
         replace hx346_2 := (HB.out.cell (World.block_lt_of_cell? w _ hx346_2)).trans hx346_2
         replace hx346_3 := (HB.out.cell (World.block_lt_of_cell? w _ hx346_3)).trans hx346_3
         replace hx346_4 := (HB.out.cell (World.block_lt_of_cell? w _ hx346_4)).trans hx346_4
         replace hx346_5 := (HB.out.cell (World.block_lt_of_cell? w _ hx346_5)).trans hx346_5
         replace hx346_6 := (HB.out.cell (World.block_lt_of_cell? w _ hx346_6)).trans hx346_6
         replace hx346_7 := (HB.out.cell (World.block_lt_of_cell? w _ hx346_7)).trans hx346_7
         replace hx346_8 := (HB.out.cell (World.block_lt_of_cell? w _ hx346_8)).trans hx346_8
         replace hx346_9 := (HB.out.cell (World.block_lt_of_cell? w _ hx346_9)).trans hx346_9
         replace hx346_10 := (HB.out.cell (World.block_lt_of_cell? w _ hx346_10)).trans hx346_10
         replace hx346_11 := (HB.out.cell (World.block_lt_of_cell? w _ hx346_11)).trans hx346_11
         replace hx346_12 := (HB.out.cell (World.block_lt_of_cell? w _ hx346_12)).trans hx346_12
         replace hx346_13 := (HB.out.cell (World.block_lt_of_cell? w _ hx346_13)).trans hx346_13
         replace hx346_14 := (HB.out.cell (World.block_lt_of_cell? w _ hx346_14)).trans hx346_14
         replace hx346_15 := (HB.out.cell (World.block_lt_of_cell? w _ hx346_15)).trans hx346_15
         replace hx346_16 := (HB.out.cell (World.block_lt_of_cell? w _ hx346_16)).trans hx346_16
         replace hx346_17 := (HB.out.cell (World.block_lt_of_cell? w _ hx346_17)).trans hx346_17
         have HR346_11 := Aside0.mk hi346_11
         have HC346_11 := Aside0.mk hl346_11
         clear hi346_11 hl346_11
         replace p346 := eq_true p346
         replace q346 := eq_true q346
         refine start_ (n := 7) (S := fun w' => w'.cell? ⟨gb342, 0, none⟩ = some (.string a0_0) ∧ w'.cell? ⟨gb342, 1, none⟩ = some (.string a0_1) ∧ w'.cell? ⟨gb342, 2, none⟩ = some (.int .i64 a0_2) ∧ w'.cell? ⟨gb342, 3, none⟩ = some (.int .i64 a0_3) ∧ w'.cell? ⟨gb342, 4, none⟩ = some (.int .i64 a0_4) ∧ w'.cell? ⟨gb342, 5, none⟩ = some (.int .i64 a0_5) ∧ w'.cell? ⟨gb342, 6, none⟩ = some (.int .i64 a0_6) ∧ w'.cell? ⟨gb342, 7, none⟩ = some (.int .i64 a0_7) ∧ w'.cell? ⟨gb342, 8, none⟩ = some (.int .i64 a0_8) ∧ w'.cell? ⟨gb342, 9, none⟩ = some (.int .i64 a0_9) ∧ w'.cell? ⟨gb342, 10, none⟩ = some (.int .i64 a0_10) ∧ w'.cell? (ad346.add ((x5_2).toNat * 18)) = some (.string ((rd_T38 l1 x5_2).f0)) ∧ w'.cell? ⟨(ad346.add ((x5_2).toNat * 18)).block, (ad346.add ((x5_2).toNat * 18)).off + 1, none⟩ = some (.string ((rd_T38 l1 x5_2).f1)) ∧ w'.cell? ⟨(ad346.add ((x5_2).toNat * 18)).block, (ad346.add ((x5_2).toNat * 18)).off + 2, none⟩ = some (.string ((rd_T38 l1 x5_2).f2)) ∧ w'.cell? ⟨(ad346.add ((x5_2).toNat * 18)).block, (ad346.add ((x5_2).toNat * 18)).off + 3, none⟩ = some (.int .i64 ((rd_T38 l1 x5_2).f3)) ∧ w'.cell? ⟨(ad346.add ((x5_2).toNat * 18)).block, (ad346.add ((x5_2).toNat * 18)).off + 4, none⟩ = some (.int .i64 ((rd_T38 l1 x5_2).f4.f0.f0)) ∧ w'.cell? ⟨(ad346.add ((x5_2).toNat * 18)).block, (ad346.add ((x5_2).toNat * 18)).off + 5, none⟩ = some (.int .i64 ((rd_T38 l1 x5_2).f4.f0.f1)) ∧ w'.cell? ⟨(ad346.add ((x5_2).toNat * 18)).block, (ad346.add ((x5_2).toNat * 18)).off + 6, none⟩ = some (.int .i64 ((rd_T38 l1 x5_2).f4.f1.f0)) ∧ w'.cell? ⟨(ad346.add ((x5_2).toNat * 18)).block, (ad346.add ((x5_2).toNat * 18)).off + 7, none⟩ = some (.int .i64 ((rd_T38 l1 x5_2).f4.f1.f1)) ∧ w'.cell? ⟨(ad346.add ((x5_2).toNat * 18)).block, (ad346.add ((x5_2).toNat * 18)).off + 8, none⟩ = some (.int .i64 ((rd_T38 l1 x5_2).f4.f2.f0)) ∧ w'.cell? ⟨(ad346.add ((x5_2).toNat * 18)).block, (ad346.add ((x5_2).toNat * 18)).off + 9, none⟩ = some (.int .i64 ((rd_T38 l1 x5_2).f4.f2.f1)) ∧ w'.cell? ⟨(ad346.add ((x5_2).toNat * 18)).block, (ad346.add ((x5_2).toNat * 18)).off + 10, none⟩ = some (.int .i64 ((rd_T38 l1 x5_2).f5)) ∧ w'.cell? ⟨(ad346.add ((x5_2).toNat * 18)).block, (ad346.add ((x5_2).toNat * 18)).off + 11, none⟩ = some (.slice A346_11 ((rd_T38 l1 x5_2).f6).length c346_11) ∧ w'.cell? ⟨(ad346.add ((x5_2).toNat * 18)).block, (ad346.add ((x5_2).toNat * 18)).off + 12, none⟩ = some (.int .i64 ((rd_T38 l1 x5_2).f7)) ∧ w'.cell? ⟨(ad346.add ((x5_2).toNat * 18)).block, (ad346.add ((x5_2).toNat * 18)).off + 13, none⟩ = some (.int .i64 ((rd_T38 l1 x5_2).f8.f0)) ∧ w'.cell? ⟨(ad346.add ((x5_2).toNat * 18)).block, (ad346.add ((x5_2).toNat * 18)).off + 14, none⟩ = some (.int .i64 ((rd_T38 l1 x5_2).f8.f1)) ∧ w'.cell? ⟨(ad346.add ((x5_2).toNat * 18)).block, (ad346.add ((x5_2).toNat * 18)).off + 15, none⟩ = some (.int .i64 ((rd_T38 l1 x5_2).f8.f2)) ∧ w'.cell? ⟨(ad346.add ((x5_2).toNat * 18)).block, (ad346.add ((x5_2).toNat * 18)).off + 16, none⟩ = some (.bool ((rd_T38 l1 x5_2).f9)) ∧ w'.cell? ⟨(ad346.add ((x5_2).toNat * 18)).block, (ad346.add ((x5_2).toNat * 18)).off + 17, none⟩ = some (.int .i64 ((rd_T38 l1 x5_2).f10))) (ds := []) #[false, false, false, false, false, false, false] (by kernel_rfl) rfl rfl ⟨(bC BK342.out 0).trans rfl, (bC BK342.out 1).trans rfl, (bC BK342.out 2).trans rfl, (bC BK342.out 3).trans rfl, (bC BK342.out 4).trans rfl, (bC BK342.out 5).trans rfl, (bC BK342.out 6).trans rfl, (bC BK342.out 7).trans rfl, (bC BK342.out 8).trans rfl, (bC BK342.out 9).trans rfl, (bC BK342.out 10).trans rfl, ((HB.out.cell (World.block_lt_of_cell? w _ hw346_0)).trans hw346_0), ((HB.out.cell (World.block_lt_of_cell? w _ hw346_1)).trans hw346_1), ((HB.out.cell (World.block_lt_of_cell? w _ hw346_2)).trans hw346_2), ((HB.out.cell (World.block_lt_of_cell? w _ hw346_3)).trans hw346_3), ((HB.out.cell (World.block_lt_of_cell? w _ hw346_4)).trans hw346_4), ((HB.out.cell (World.block_lt_of_cell? w _ hw346_5)).trans hw346_5), ((HB.out.cell (World.block_lt_of_cell? w _ hw346_6)).trans hw346_6), ((HB.out.cell (World.block_lt_of_cell? w _ hw346_7)).trans hw346_7), ((HB.out.cell (World.block_lt_of_cell? w _ hw346_8)).trans hw346_8), ((HB.out.cell (World.block_lt_of_cell? w _ hw346_9)).trans hw346_9), ((HB.out.cell (World.block_lt_of_cell? w _ hw346_10)).trans hw346_10), ((HB.out.cell (World.block_lt_of_cell? w _ hw346_11)).trans hw346_11), ((HB.out.cell (World.block_lt_of_cell? w _ hw346_12)).trans hw346_12), ((HB.out.cell (World.block_lt_of_cell? w _ hw346_13)).trans hw346_13), ((HB.out.cell (World.block_lt_of_cell? w _ hw346_14)).trans hw346_14), ((HB.out.cell (World.block_lt_of_cell? w _ hw346_15)).trans hw346_15), ((HB.out.cell (World.block_lt_of_cell? w _ hw346_16)).trans hw346_16), ((HB.out.cell (World.block_lt_of_cell? w _ hw346_17)).trans hw346_17)⟩ (fun hHeld => ?_)
         generalize wr.drew = w27 at BK342 HB HR346_11 hx346_0 hx346_1 hx346_10 hx346_11 hx346_12 hx346_13 hx346_14 hx346_15 hx346_16 hx346_17 hx346_2 hx346_3 hx346_4 hx346_5 hx346_6 hx346_7 hx346_8 hx346_9 hHeld ⊢
         refine pure_ (i := 1) (N := some 31) (v := ?_) (a' := ?_) #[false, true, false, false, false, false, false] rfl rfl (by kernel_rfl) (fun _ _ _ h => h) (Or.inl ⟨by rfl, ?_⟩) ?_ ?_
         rotate_left
         ·intro w'
          go_simp
          with_reducible rfl
         rotate_left
         ·simp only [Act.put, List.setIfInBounds_toArray, List.set_cons_zero, List.set_cons_succ, i64_w, i32_w]
          rfl
         refine pure_ (i := 2) (N := some 32) (v := ?_) (a' := ?_) #[false, true, true, false, false, false, false] rfl rfl (by kernel_rfl) (fun _ _ _ h => h) (Or.inl ⟨by rfl, ?_⟩) ?_ ?_
         rotate_left
         ·intro w'
          go_simp
          with_reducible rfl
         rotate_left
         ·simp only [Act.put, List.setIfInBounds_toArray, List.set_cons_zero, List.set_cons_succ, i64_w, i32_w]
          rfl
         refine pure_ (i := 3) (N := some 33) (v := ?_) (a' := ?_) #[false, true, true, true, false, false, false] rfl rfl (by kernel_rfl) (fun _ _ _ h => h) (Or.inl ⟨by rfl, ?_⟩) ?_ ?_
         rotate_left
         ·intro w'
          go_simp
          with_reducible rfl
         rotate_left
         ·simp only [Act.put, List.setIfInBounds_toArray, List.set_cons_zero, List.set_cons_succ, i64_w, i32_w]
          rfl
         refine take_ (i := 0) (N := some 30) (v := ?_) (a' := ?_) #[true, true, true, true, false, false, false] rfl rfl (by kernel_rfl) (fun _ _ _ h => h) (Or.inl ⟨by rfl, ?_⟩) hHeld ?_ ?_
         rotate_left
         ·rintro w' ⟨s0, s1, s2, s3, s4, s5, s6, s7, s8, s9, s10, s11, s12, s13, s14, s15, s16, s17, s18, s19, s20, s21, s22, s23, s24, s25, s26, s27, s28⟩
          first
          | (refine exec_load_cells 23 ?lx101 ?la101 gb342 ?lb101 #[.string a0_0, .string a0_1, .int .i64 a0_2, .int .i64 a0_3, .int .i64 a0_4, .int .i64 a0_5, .int .i64 a0_6, .int .i64 a0_7, .int .i64 a0_8, .int .i64 a0_9, .int .i64 a0_10] _ ?lc101 Tryd.underlying23 rfl ?ld101; (case la101 => exact rfl); (case lb101 => exact rfl); (case lc101 => exact ⟨s0, s1, s2, s3, s4, s5, s6, s7, s8, s9, s10, trivial⟩); (case ld101 => kernel_rfl))
          | (refine exec_load_elem 38 ?lx102 ?la102 ad346 ((x5_2).toNat * 18) ?lb102 (.string ((rd_T38 l1 x5_2).f0)) [.string ((rd_T38 l1 x5_2).f1), .string ((rd_T38 l1 x5_2).f2), .int .i64 ((rd_T38 l1 x5_2).f3), .int .i64 ((rd_T38 l1 x5_2).f4.f0.f0), .int .i64 ((rd_T38 l1 x5_2).f4.f0.f1), .int .i64 ((rd_T38 l1 x5_2).f4.f1.f0), .int .i64 ((rd_T38 l1 x5_2).f4.f1.f1), .int .i64 ((rd_T38 l1 x5_2).f4.f2.f0), .int .i64 ((rd_T38 l1 x5_2).f4.f2.f1), .int .i64 ((rd_T38 l1 x5_2).f5), .slice A346_11 ((rd_T38 l1 x5_2).f6).length c346_11, .int .i64 ((rd_T38 l1 x5_2).f7), .int .i64 ((rd_T38 l1 x5_2).f8.f0), .int .i64 ((rd_T38 l1 x5_2).f8.f1), .int .i64 ((rd_T38 l1 x5_2).f8.f2), .bool ((rd_T38 l1 x5_2).f9), .int .i64 ((rd_T38 l1 x5_2).f10)] ?le102 ?lc102 Tryd.underlying38 rfl ?ld102; (case la102 => exact rfl); (case lb102 => exact rfl); (case le102 => exact s11); (case lc102 => exact ⟨s12, s13, s14, s15, s16, s17, s18, s19, s20, s21, s22, s23, s24, s25, s26, s27, s28, trivial⟩); (case ld102 => kernel_rfl))
          | (go_simp; with_reducible rfl)
         rotate_left
         ·simp only [Act.put, List.setIfInBounds_toArray, List.set_cons_zero, List.set_cons_succ, i64_w, i32_w]
          rfl
         refine take_ (i := 4) (N := some 34) (v := ?_) (a' := ?_) #[true, true, true, true, true, false, false] rfl rfl (by kernel_rfl) (fun _ _ _ h => h) (Or.inl ⟨by rfl, ?_⟩) hHeld ?_ ?_
         rotate_left
         ·rintro w' ⟨s0, s1, s2, s3, s4, s5, s6, s7, s8, s9, s10, s11, s12, s13, s14, s15, s16, s17, s18, s19, s20, s21, s22, s23, s24, s25, s26, s27, s28⟩
          first
          | (refine exec_load_cells 23 ?lx103 ?la103 gb342 ?lb103 #[.string a0_0, .string a0_1, .int .i64 a0_2, .int .i64 a0_3, .int .i64 a0_4, .int .i64 a0_5, .int .i64 a0_6, .int .i64 a0_7, .int .i64 a0_8, .int .i64 a0_9, .int .i64 a0_10] _ ?lc103 Tryd.underlying23 rfl ?ld103; (case la103 => exact rfl); (case lb103 => exact rfl); (case lc103 => exact ⟨s0, s1, s2, s3, s4, s5, s6, s7, s8, s9, s10, trivial⟩); (case ld103 => kernel_rfl))
          | (refine exec_load_elem 38 ?lx104 ?la104 ad346 ((x5_2).toNat * 18) ?lb104 (.string ((rd_T38 l1 x5_2).f0)) [.string ((rd_T38 l1 x5_2).f1), .string ((rd_T38 l1 x5_2).f2), .int .i64 ((rd_T38 l1 x5_2).f3), .int .i64 ((rd_T38 l1 x5_2).f4.f0.f0), .int .i64 ((rd_T38 l1 x5_2).f4.f0.f1), .int .i64 ((rd_T38 l1 x5_2).f4.f1.f0), .int .i64 ((rd_T38 l1 x5_2).f4.f1.f1), .int .i64 ((rd_T38 l1 x5_2).f4.f2.f0), .int .i64 ((rd_T38 l1 x5_2).f4.f2.f1), .int .i64 ((rd_T38 l1 x5_2).f5), .slice A346_11 ((rd_T38 l1 x5_2).f6).length c346_11, .int .i64 ((rd_T38 l1 x5_2).f7), .int .i64 ((rd_T38 l1 x5_2).f8.f0), .int .i64 ((rd_T38 l1 x5_2).f8.f1), .int .i64 ((rd_T38 l1 x5_2).f8.f2), .bool ((rd_T38 l1 x5_2).f9), .int .i64 ((rd_T38 l1 x5_2).f10)] ?le104 ?lc104 Tryd.underlying38 rfl ?ld104; (case la104 => exact rfl); (case lb104 => exact rfl); (case le104 => exact s11); (case lc104 => exact ⟨s12, s13, s14, s15, s16, s17, s18, s19, s20, s21, s22, s23, s24, s25, s26, s27, s28, trivial⟩); (case ld104 => kernel_rfl))
          | (go_simp; with_reducible rfl)
         rotate_left
         ·simp only [Act.put, List.setIfInBounds_toArray, List.set_cons_zero, List.set_cons_succ, i64_w, i32_w]
          rfl
         refine one_ (i := 5) (N := some 35) #[true, true, true, true, true, true, false] rfl rfl (by kernel_rfl) (by decide) (fun K hK => ?_)
         refine goes_ Tryd.func15 (by kernel_rfl) rfl #[.agg #[.string a0_0, .string a0_1, .int .i64 a0_2, .int .i64 a0_3, .int .i64 a0_4, .int .i64 a0_5, .int .i64 a0_6, .int .i64 a0_7, .int .i64 a0_8, .int .i64 a0_9, .int .i64 a0_10], .agg #[.string ((rd_T38 l1 x5_2).f0), .string ((rd_T38 l1 x5_2).f1), .string ((rd_T38 l1 x5_2).f2), .int .i64 ((rd_T38 l1 x5_2).f3), .int .i64 ((rd_T38 l1 x5_2).f4.f0.f0), .int .i64 ((rd_T38 l1 x5_2).f4.f0.f1), .int .i64 ((rd_T38 l1 x5_2).f4.f1.f0), .int .i64 ((rd_T38 l1 x5_2).f4.f1.f1), .int .i64 ((rd_T38 l1 x5_2).f4.f2.f0), .int .i64 ((rd_T38 l1 x5_2).f4.f2.f1), .int .i64 ((rd_T38 l1 x5_2).f5), .slice A346_11 ((rd_T38 l1 x5_2).f6).length c346_11, .int .i64 ((rd_T38 l1 x5_2).f7), .int .i64 ((rd_T38 l1 x5_2).f8.f0), .int .i64 ((rd_T38 l1 x5_2).f8.f1), .int .i64 ((rd_T38 l1 x5_2).f8.f2), .bool ((rd_T38 l1 x5_2).f9), .int .i64 ((rd_T38 l1 x5_2).f10)]] (by rfl) rfl rfl (by first | rfl | (simp only [List.map_toArray]; rfl)) ?_
         with_reducible refine (sawmillref46_Fits.calls k2 a0_0 a0_1 a0_2 a0_3 a0_4 a0_5 a0_6 a0_7 a0_8 a0_9 a0_10 ((rd_T38 l1 x5_2).f0) ((rd_T38 l1 x5_2).f1) ((rd_T38 l1 x5_2).f2) ((rd_T38 l1 x5_2).f3) ((rd_T38 l1 x5_2).f4.f0.f0) ((rd_T38 l1 x5_2).f4.f0.f1) ((rd_T38 l1 x5_2).f4.f1.f0) ((rd_T38 l1 x5_2).f4.f1.f1) ((rd_T38 l1 x5_2).f4.f2.f0) ((rd_T38 l1 x5_2).f4.f2.f1) ((rd_T38 l1 x5_2).f5) _ _ ((rd_T38 l1 x5_2).f6) ((rd_T38 l1 x5_2).f7) ((rd_T38 l1 x5_2).f8.f0) ((rd_T38 l1 x5_2).f8.f1) ((rd_T38 l1 x5_2).f8.f2) ((rd_T38 l1 x5_2).f9) ((rd_T38 l1 x5_2).f10) t347 _ ?side1 ?side2 A25.out).mono ?_
         (case side1 => repeat (first | exact (Kd.C_below HR346_11.out HB.out) | (with_reducible refine Kd.C_alloc ?_ _) | (with_reducible refine Kd.C_drewN ?_ _) | (with_reducible refine Kd.C_drew ?_)))
         (case side2 => exact HC346_11.out)
         rintro e w28 ⟨rfl, hb⟩
         refine ⟨_, rfl, ?_⟩
         have n0_ := q_ (bB (g := gb342) (by (with_reducible repeat (first | refine bN ?_ _ | refine bW ?_ | refine bA ?_ _)); exact BK342.out) hb)
         have n1_ := q_ (pT (by repeat (first | (with_reducible first | exact HB.out | apply pA | apply pN | apply p1 | refine pS ?_ GE342.out) | exact HB.out)) hb)
         clear BK342
         clear HB
         have BK342 := n0_
         have HB := n1_
         clear n0_ n1_
         (try clear hb)
         (try clear hb2)
         (try clear hk)
         (try clear hi)
         refine hK.out _ _ ⟨(bC BK342.out 0).trans rfl, (bC BK342.out 1).trans rfl, (bC BK342.out 2).trans rfl, (bC BK342.out 3).trans rfl, (bC BK342.out 4).trans rfl, (bC BK342.out 5).trans rfl, (bC BK342.out 6).trans rfl, (bC BK342.out 7).trans rfl, (bC BK342.out 8).trans rfl, (bC BK342.out 9).trans rfl, (bC BK342.out 10).trans rfl, ((HB.out.cell (World.block_lt_of_cell? w _ hw346_0)).trans hw346_0), ((HB.out.cell (World.block_lt_of_cell? w _ hw346_1)).trans hw346_1), ((HB.out.cell (World.block_lt_of_cell? w _ hw346_2)).trans hw346_2), ((HB.out.cell (World.block_lt_of_cell? w _ hw346_3)).trans hw346_3), ((HB.out.cell (World.block_lt_of_cell? w _ hw346_4)).trans hw346_4), ((HB.out.cell (World.block_lt_of_cell? w _ hw346_5)).trans hw346_5), ((HB.out.cell (World.block_lt_of_cell? w _ hw346_6)).trans hw346_6), ((HB.out.cell (World.block_lt_of_cell? w _ hw346_7)).trans hw346_7), ((HB.out.cell (World.block_lt_of_cell? w _ hw346_8)).trans hw346_8), ((HB.out.cell (World.block_lt_of_cell? w _ hw346_9)).trans hw346_9), ((HB.out.cell (World.block_lt_of_cell? w _ hw346_10)).trans hw346_10), ((HB.out.cell (World.block_lt_of_cell? w _ hw346_11)).trans hw346_11), ((HB.out.cell (World.block_lt_of_cell? w _ hw346_12)).trans hw346_12), ((HB.out.cell (World.block_lt_of_cell? w _ hw346_13)).trans hw346_13), ((HB.out.cell (World.block_lt_of_cell? w _ hw346_14)).trans hw346_14), ((HB.out.cell (World.block_lt_of_cell? w _ hw346_15)).trans hw346_15), ((HB.out.cell (World.block_lt_of_cell? w _ hw346_16)).trans hw346_16), ((HB.out.cell (World.block_lt_of_cell? w _ hw346_17)).trans hw346_17)⟩ (fun hHeld => ?_)
         clear hK K
         refine norm_ (a' := ?_) ?_ ?_
         rotate_left
         ·show Act.put _ (some 35) _ = _
          simp only [Act.put, List.setIfInBounds_toArray, List.set_cons_zero, List.set_cons_succ, i64_w, i32_w]
          rfl
         refine pure_ (i := 6) (N := some 36) (v := ?_) (a' := ?_) #[true, true, true, true, true, true, true] rfl rfl (by kernel_rfl) (fun _ _ _ h => h) (Or.inl ⟨by rfl, ?_⟩) ?_ ?_
         rotate_left
         ·intro w'
          go_simp
          with_reducible rfl
         rotate_left
         ·simp only [Act.put, List.setIfInBounds_toArray, List.set_cons_zero, List.set_cons_succ, i64_w, i32_w]
          rfl
         refine done_ (by kernel_rfl) ?_
         try go_wp2
         go_loopg [6] k2 (fun kq v6 w' => ∃ (x6_3 : Int), v6 = .int .i64 x6_3 ∧ Aside0 (sawmillref46_Filled.l1 kq l1 x5_2 x6_3 a0_0 a0_1 a0_2 a0_3 a0_4 a0_5 a0_6 a0_7 a0_8 a0_9 a0_10 = some r) ∧ Aside0 (kq ≤ k2) ∧ Aside0 (w'.heap[gb342]? = some (.cells #[.string a0_0, .string a0_1, .int .i64 a0_2, .int .i64 a0_3, .int .i64 a0_4, .int .i64 a0_5, .int .i64 a0_6, .int .i64 a0_7, .int .i64 a0_8, .int .i64 a0_9, .int .i64 a0_10] 23 (0, 0))) ∧ Aside0 (Below w.heap.size w w'))
         case atStart => exact ⟨(0), (by first | rfl | (simp; done) | (simp [*]; done)), H', ⟨Nat.le_refl _⟩, ⟨by (with_reducible repeat (first | refine bN ?_ _ | refine bW ?_ | refine bA ?_ _)); exact BK342.out⟩, ⟨by repeat (first | (with_reducible first | exact HB.out | apply pA | apply pN | apply p1 | refine pS ?_ GE342.out) | exact HB.out)⟩⟩
         case round =>
          clear H'
          try clear c1
          try clear c2
          try clear p2
          try clear c3
          try clear p3
          try clear q3
          try clear hx3
          try clear c6
          try clear c8
          try clear c8b0
          try clear c15
          try clear c21
          try clear c22
          try clear c23
          try clear c23b0
          try clear c24
          try clear c24b0
          try clear c26
          try clear c26b0
          try clear c26b1
          try clear hcz11
          try clear hcz14
          try clear hcz16
          try clear hcz18
          try clear hcz20
          try clear hcz9
          try clear hfz11
          try clear hfz14
          try clear hfz16
          try clear hfz18
          try clear hfz20
          try clear hfz9
          try clear hx346_0
          try clear hx346_1
          try clear hx346_10
          try clear hx346_11
          try clear hx346_12
          try clear hx346_13
          try clear hx346_14
          try clear hx346_15
          try clear hx346_16
          try clear hx346_17
          try clear hx346_2
          try clear hx346_3
          try clear hx346_4
          try clear hx346_5
          try clear hx346_6
          try clear hx346_7
          try clear hx346_8
          try clear hx346_9
          try clear p2
          try clear p346
          try clear q346
          obtain ⟨x6_3, rfl, HA, HK3, BK342, HB⟩ := hrel
          cases gk with
          | zero => exact absurd HA.out (by simp [sawmillref46_Filled.l1])
          | succ k3 =>
           have H := HA.out
           clear HA
           simp only [sawmillref46_Filled.l1] at H
           by_cases c29 : x6_3 < x5_2
           ·rw [if_pos c29] at H
            have c29b0 : decide (x6_3 < x5_2) = true := decide_eq_true c29
            clear c29
            by_cases c30 : 0 ≤ x6_3
            ·rw [if_pos c30] at H
             have c30b0 : decide (0 ≤ x6_3) = true := decide_eq_true c30
             clear c30
             by_cases c31 : x6_3 < (l1.length : Int)
             ·rw [if_pos c31] at H
              have c31b0 : decide (x6_3 < (l1.length : Int)) = true := decide_eq_true c31
              clear c31
              by_cases c32 : 0 ≤ x5_2
              ·rw [if_pos c32] at H
               have c32b0 : decide (0 ≤ x5_2) = true := decide_eq_true c32
               clear c32
               by_cases c33 : x5_2 < (l1.length : Int)
               ·rw [if_pos c33] at H
                have c33b0 : decide (x5_2 < (l1.length : Int)) = true := decide_eq_true c33
                clear c33
                by_cases c34 : ((rd_T38 l1 x6_3).f0).toList = ((rd_T38 l1 x5_2).f0).toList
                ·rw [if_pos c34] at H
                 have c34b0 : (((rd_T38 l1 x6_3).f0).toList == ((rd_T38 l1 x5_2).f0).toList) = true := beq_iff_eq.mpr c34
                 have c34b1 : (((rd_T38 l1 x6_3).f0).toList != ((rd_T38 l1 x5_2).f0).toList) = false := oD c34
                 clear c34
                 obtain rfl := Option.some.inj H
                 try go_wp2
                 have n0_ := q_ (bW BK342.out)
                 have n1_ := q_ (p1 HB.out)
                 clear BK342
                 clear HB
                 have BK342 := n0_
                 have HB := n1_
                 clear n0_ n1_
                 have p348 : 0 ≤ (x6_3 : Int) := of_decide_eq_true (by first | (with_reducible assumption) | assumption)
                 have q348 : x6_3 < (l1.length : Int) := of_decide_eq_true (by first | (with_reducible assumption) | assumption)
                 obtain ⟨ad348, A348_11, c348_11, e348, hx348_0, hx348_1, hx348_2, hx348_3, hx348_4, hx348_5, hx348_6, hx348_7, hx348_8, hx348_9, hx348_10, hx348_11, hx348_12, hx348_13, hx348_14, hx348_15, hx348_16, hx348_17, hl348_11, hi348_11⟩ := at_T38 HR1.out x6_3 p348 q348
                 have hw348_17 := hx348_17
                 have hw348_16 := hx348_16
                 have hw348_15 := hx348_15
                 have hw348_14 := hx348_14
                 have hw348_13 := hx348_13
                 have hw348_12 := hx348_12
                 have hw348_11 := hx348_11
                 have hw348_10 := hx348_10
                 have hw348_9 := hx348_9
                 have hw348_8 := hx348_8
                 have hw348_7 := hx348_7
                 have hw348_6 := hx348_6
                 have hw348_5 := hx348_5
                 have hw348_4 := hx348_4
                 have hw348_3 := hx348_3
                 have hw348_2 := hx348_2
                 have hw348_1 := hx348_1
                 have hw348_0 := hx348_0
                 obtain rfl : ad346 = ad348 := (by injection e348)
                 replace hx348_0 := (HB.out.cell (World.block_lt_of_cell? w _ hx348_0)).trans hx348_0
                 replace hx348_1 := (HB.out.cell (World.block_lt_of_cell? w _ hx348_1)).trans hx348_1
                 replace hx348_2 := (HB.out.cell (World.block_lt_of_cell? w _ hx348_2)).trans hx348_2
                 replace hx348_3 := (HB.out.cell (World.block_lt_of_cell? w _ hx348_3)).trans hx348_3
                 replace hx348_4 := (HB.out.cell (World.block_lt_of_cell? w _ hx348_4)).trans hx348_4
                 replace hx348_5 := (HB.out.cell (World.block_lt_of_cell? w _ hx348_5)).trans hx348_5
                 replace hx348_6 := (HB.out.cell (World.block_lt_of_cell? w _ hx348_6)).trans hx348_6
                 replace hx348_7 := (HB.out.cell (World.block_lt_of_cell? w _ hx348_7)).trans hx348_7
                 replace hx348_8 := (HB.out.cell (World.block_lt_of_cell? w _ hx348_8)).trans hx348_8
                 replace hx348_9 := (HB.out.cell (World.block_lt_of_cell? w _ hx348_9)).trans hx348_9
                 replace hx348_10 := (HB.out.cell (World.block_lt_of_cell? w _ hx348_10)).trans hx348_10
                 replace hx348_11 := (HB.out.cell (World.block_lt_of_cell? w _ hx348_11)).trans hx348_11
                 replace hx348_12 := (HB.out.cell (World.block_lt_of_cell? w _ hx348_12)).trans hx348_12
                 replace hx348_13 := (HB.out.cell (World.block_lt_of_cell? w _ hx348_13)).trans hx348_13
                 replace hx348_14 := (HB.out.cell (World.block_lt_of_cell? w _ hx348_14)).trans hx348_14
                 replace hx348_15 := (HB.out.cell (World.block_lt_of_cell? w _ hx348_15)).trans hx348_15
                 replace hx348_16 := (HB.out.cell (World.block_lt_of_cell? w _ hx348_16)).trans hx348_16
                 replace hx348_17 := (HB.out.cell (World.block_lt_of_cell? w _ hx348_17)).trans hx348_17
                 have HR348_11 := Aside0.mk hi348_11
                 have HC348_11 := Aside0.mk hl348_11
                 clear hi348_11 hl348_11
                 replace p348 := eq_true p348
                 replace q348 := eq_true q348
                 have p349 : 0 ≤ (x5_2 : Int) := of_decide_eq_true (by first | (with_reducible assumption) | assumption)
                 have q349 : x5_2 < (l1.length : Int) := of_decide_eq_true (by first | (with_reducible assumption) | assumption)
                 obtain ⟨ad349, A349_11, c349_11, e349, hx349_0, hx349_1, hx349_2, hx349_3, hx349_4, hx349_5, hx349_6, hx349_7, hx349_8, hx349_9, hx349_10, hx349_11, hx349_12, hx349_13, hx349_14, hx349_15, hx349_16, hx349_17, hl349_11, hi349_11⟩ := at_T38 HR1.out x5_2 p349 q349
                 have hw349_17 := hx349_17
                 have hw349_16 := hx349_16
                 have hw349_15 := hx349_15
                 have hw349_14 := hx349_14
                 have hw349_13 := hx349_13
                 have hw349_12 := hx349_12
                 have hw349_11 := hx349_11
                 have hw349_10 := hx349_10
                 have hw349_9 := hx349_9
                 have hw349_8 := hx349_8
                 have hw349_7 := hx349_7
                 have hw349_6 := hx349_6
                 have hw349_5 := hx349_5
                 have hw349_4 := hx349_4
                 have hw349_3 := hx349_3
                 have hw349_2 := hx349_2
                 have hw349_1 := hx349_1
                 have hw349_0 := hx349_0
                 obtain rfl : ad346 = ad349 := (by injection e349)
                 replace hx349_0 := (HB.out.cell (World.block_lt_of_cell? w _ hx349_0)).trans hx349_0
                 replace hx349_1 := (HB.out.cell (World.block_lt_of_cell? w _ hx349_1)).trans hx349_1
                 replace hx349_2 := (HB.out.cell (World.block_lt_of_cell? w _ hx349_2)).trans hx349_2
                 replace hx349_3 := (HB.out.cell (World.block_lt_of_cell? w _ hx349_3)).trans hx349_3
                 replace hx349_4 := (HB.out.cell (World.block_lt_of_cell? w _ hx349_4)).trans hx349_4
                 replace hx349_5 := (HB.out.cell (World.block_lt_of_cell? w _ hx349_5)).trans hx349_5
                 replace hx349_6 := (HB.out.cell (World.block_lt_of_cell? w _ hx349_6)).trans hx349_6
                 replace hx349_7 := (HB.out.cell (World.block_lt_of_cell? w _ hx349_7)).trans hx349_7
                 replace hx349_8 := (HB.out.cell (World.block_lt_of_cell? w _ hx349_8)).trans hx349_8
                 replace hx349_9 := (HB.out.cell (World.block_lt_of_cell? w _ hx349_9)).trans hx349_9
                 replace hx349_10 := (HB.out.cell (World.block_lt_of_cell? w _ hx349_10)).trans hx349_10
                 replace hx349_11 := (HB.out.cell (World.block_lt_of_cell? w _ hx349_11)).trans hx349_11
                 replace hx349_12 := (HB.out.cell (World.block_lt_of_cell? w _ hx349_12)).trans hx349_12
                 replace hx349_13 := (HB.out.cell (World.block_lt_of_cell? w _ hx349_13)).trans hx349_13
                 replace hx349_14 := (HB.out.cell (World.block_lt_of_cell? w _ hx349_14)).trans hx349_14
                 replace hx349_15 := (HB.out.cell (World.block_lt_of_cell? w _ hx349_15)).trans hx349_15
                 replace hx349_16 := (HB.out.cell (World.block_lt_of_cell? w _ hx349_16)).trans hx349_16
                 replace hx349_17 := (HB.out.cell (World.block_lt_of_cell? w _ hx349_17)).trans hx349_17
                 have HR349_11 := Aside0.mk hi349_11
                 have HC349_11 := Aside0.mk hl349_11
                 clear hi349_11 hl349_11
                 replace p349 := eq_true p349
                 replace q349 := eq_true q349
                 refine start_ (n := 11) (S := fun w' => w'.cell? (ad346.add ((x6_3).toNat * 18)) = some (.string ((rd_T38 l1 x6_3).f0)) ∧ w'.cell? ⟨(ad346.add ((x6_3).toNat * 18)).block, (ad346.add ((x6_3).toNat * 18)).off + 1, none⟩ = some (.string ((rd_T38 l1 x6_3).f1)) ∧ w'.cell? ⟨(ad346.add ((x6_3).toNat * 18)).block, (ad346.add ((x6_3).toNat * 18)).off + 2, none⟩ = some (.string ((rd_T38 l1 x6_3).f2)) ∧ w'.cell? ⟨(ad346.add ((x6_3).toNat * 18)).block, (ad346.add ((x6_3).toNat * 18)).off + 3, none⟩ = some (.int .i64 ((rd_T38 l1 x6_3).f3)) ∧ w'.cell? ⟨(ad346.add ((x6_3).toNat * 18)).block, (ad346.add ((x6_3).toNat * 18)).off + 4, none⟩ = some (.int .i64 ((rd_T38 l1 x6_3).f4.f0.f0)) ∧ w'.cell? ⟨(ad346.add ((x6_3).toNat * 18)).block, (ad346.add ((x6_3).toNat * 18)).off + 5, none⟩ = some (.int .i64 ((rd_T38 l1 x6_3).f4.f0.f1)) ∧ w'.cell? ⟨(ad346.add ((x6_3).toNat * 18)).block, (ad346.add ((x6_3).toNat * 18)).off + 6, none⟩ = some (.int .i64 ((rd_T38 l1 x6_3).f4.f1.f0)) ∧ w'.cell? ⟨(ad346.add ((x6_3).toNat * 18)).block, (ad346.add ((x6_3).toNat * 18)).off + 7, none⟩ = some (.int .i64 ((rd_T38 l1 x6_3).f4.f1.f1)) ∧ w'.cell? ⟨(ad346.add ((x6_3).toNat * 18)).block, (ad346.add ((x6_3).toNat * 18)).off + 8, none⟩ = some (.int .i64 ((rd_T38 l1 x6_3).f4.f2.f0)) ∧ w'.cell? ⟨(ad346.add ((x6_3).toNat * 18)).block, (ad346.add ((x6_3).toNat * 18)).off + 9, none⟩ = some (.int .i64 ((rd_T38 l1 x6_3).f4.f2.f1)) ∧ w'.cell? ⟨(ad346.add ((x6_3).toNat * 18)).block, (ad346.add ((x6_3).toNat * 18)).off + 10, none⟩ = some (.int .i64 ((rd_T38 l1 x6_3).f5)) ∧ w'.cell? ⟨(ad346.add ((x6_3).toNat * 18)).block, (ad346.add ((x6_3).toNat * 18)).off + 11, none⟩ = some (.slice A348_11 ((rd_T38 l1 x6_3).f6).length c348_11) ∧ w'.cell? ⟨(ad346.add ((x6_3).toNat * 18)).block, (ad346.add ((x6_3).toNat * 18)).off + 12, none⟩ = some (.int .i64 ((rd_T38 l1 x6_3).f7)) ∧ w'.cell? ⟨(ad346.add ((x6_3).toNat * 18)).block, (ad346.add ((x6_3).toNat * 18)).off + 13, none⟩ = some (.int .i64 ((rd_T38 l1 x6_3).f8.f0)) ∧ w'.cell? ⟨(ad346.add ((x6_3).toNat * 18)).block, (ad346.add ((x6_3).toNat * 18)).off + 14, none⟩ = some (.int .i64 ((rd_T38 l1 x6_3).f8.f1)) ∧ w'.cell? ⟨(ad346.add ((x6_3).toNat * 18)).block, (ad346.add ((x6_3).toNat * 18)).off + 15, none⟩ = some (.int .i64 ((rd_T38 l1 x6_3).f8.f2)) ∧ w'.cell? ⟨(ad346.add ((x6_3).toNat * 18)).block, (ad346.add ((x6_3).toNat * 18)).off + 16, none⟩ = some (.bool ((rd_T38 l1 x6_3).f9)) ∧ w'.cell? ⟨(ad346.add ((x6_3).toNat * 18)).block, (ad346.add ((x6_3).toNat * 18)).off + 17, none⟩ = some (.int .i64 ((rd_T38 l1 x6_3).f10)) ∧ w'.cell? (ad346.add ((x5_2).toNat * 18)) = some (.string ((rd_T38 l1 x5_2).f0)) ∧ w'.cell? ⟨(ad346.add ((x5_2).toNat * 18)).block, (ad346.add ((x5_2).toNat * 18)).off + 1, none⟩ = some (.string ((rd_T38 l1 x5_2).f1)) ∧ w'.cell? ⟨(ad346.add ((x5_2).toNat * 18)).block, (ad346.add ((x5_2).toNat * 18)).off + 2, none⟩ = some (.string ((rd_T38 l1 x5_2).f2)) ∧ w'.cell? ⟨(ad346.add ((x5_2).toNat * 18)).block, (ad346.add ((x5_2).toNat * 18)).off + 3, none⟩ = some (.int .i64 ((rd_T38 l1 x5_2).f3)) ∧ w'.cell? ⟨(ad346.add ((x5_2).toNat * 18)).block, (ad346.add ((x5_2).toNat * 18)).off + 4, none⟩ = some (.int .i64 ((rd_T38 l1 x5_2).f4.f0.f0)) ∧ w'.cell? ⟨(ad346.add ((x5_2).toNat * 18)).block, (ad346.add ((x5_2).toNat * 18)).off + 5, none⟩ = some (.int .i64 ((rd_T38 l1 x5_2).f4.f0.f1)) ∧ w'.cell? ⟨(ad346.add ((x5_2).toNat * 18)).block, (ad346.add ((x5_2).toNat * 18)).off + 6, none⟩ = some (.int .i64 ((rd_T38 l1 x5_2).f4.f1.f0)) ∧ w'.cell? ⟨(ad346.add ((x5_2).toNat * 18)).block, (ad346.add ((x5_2).toNat * 18)).off + 7, none⟩ = some (.int .i64 ((rd_T38 l1 x5_2).f4.f1.f1)) ∧ w'.cell? ⟨(ad346.add ((x5_2).toNat * 18)).block, (ad346.add ((x5_2).toNat * 18)).off + 8, none⟩ = some (.int .i64 ((rd_T38 l1 x5_2).f4.f2.f0)) ∧ w'.cell? ⟨(ad346.add ((x5_2).toNat * 18)).block, (ad346.add ((x5_2).toNat * 18)).off + 9, none⟩ = some (.int .i64 ((rd_T38 l1 x5_2).f4.f2.f1)) ∧ w'.cell? ⟨(ad346.add ((x5_2).toNat * 18)).block, (ad346.add ((x5_2).toNat * 18)).off + 10, none⟩ = some (.int .i64 ((rd_T38 l1 x5_2).f5)) ∧ w'.cell? ⟨(ad346.add ((x5_2).toNat * 18)).block, (ad346.add ((x5_2).toNat * 18)).off + 11, none⟩ = some (.slice A349_11 ((rd_T38 l1 x5_2).f6).length c349_11) ∧ w'.cell? ⟨(ad346.add ((x5_2).toNat * 18)).block, (ad346.add ((x5_2).toNat * 18)).off + 12, none⟩ = some (.int .i64 ((rd_T38 l1 x5_2).f7)) ∧ w'.cell? ⟨(ad346.add ((x5_2).toNat * 18)).block, (ad346.add ((x5_2).toNat * 18)).off + 13, none⟩ = some (.int .i64 ((rd_T38 l1 x5_2).f8.f0)) ∧ w'.cell? ⟨(ad346.add ((x5_2).toNat * 18)).block, (ad346.add ((x5_2).toNat * 18)).off + 14, none⟩ = some (.int .i64 ((rd_T38 l1 x5_2).f8.f1)) ∧ w'.cell? ⟨(ad346.add ((x5_2).toNat * 18)).block, (ad346.add ((x5_2).toNat * 18)).off + 15, none⟩ = some (.int .i64 ((rd_T38 l1 x5_2).f8.f2)) ∧ w'.cell? ⟨(ad346.add ((x5_2).toNat * 18)).block, (ad346.add ((x5_2).toNat * 18)).off + 16, none⟩ = some (.bool ((rd_T38 l1 x5_2).f9)) ∧ w'.cell? ⟨(ad346.add ((x5_2).toNat * 18)).block, (ad346.add ((x5_2).toNat * 18)).off + 17, none⟩ = some (.int .i64 ((rd_T38 l1 x5_2).f10))) (ds := []) #[false, false, false, false, false, false, false, false, false, false, false] (by kernel_rfl) rfl rfl ⟨((HB.out.cell (World.block_lt_of_cell? w _ hw348_0)).trans hw348_0), ((HB.out.cell (World.block_lt_of_cell? w _ hw348_1)).trans hw348_1), ((HB.out.cell (World.block_lt_of_cell? w _ hw348_2)).trans hw348_2), ((HB.out.cell (World.block_lt_of_cell? w _ hw348_3)).trans hw348_3), ((HB.out.cell (World.block_lt_of_cell? w _ hw348_4)).trans hw348_4), ((HB.out.cell (World.block_lt_of_cell? w _ hw348_5)).trans hw348_5), ((HB.out.cell (World.block_lt_of_cell? w _ hw348_6)).trans hw348_6), ((HB.out.cell (World.block_lt_of_cell? w _ hw348_7)).trans hw348_7), ((HB.out.cell (World.block_lt_of_cell? w _ hw348_8)).trans hw348_8), ((HB.out.cell (World.block_lt_of_cell? w _ hw348_9)).trans hw348_9), ((HB.out.cell (World.block_lt_of_cell? w _ hw348_10)).trans hw348_10), ((HB.out.cell (World.block_lt_of_cell? w _ hw348_11)).trans hw348_11), ((HB.out.cell (World.block_lt_of_cell? w _ hw348_12)).trans hw348_12), ((HB.out.cell (World.block_lt_of_cell? w _ hw348_13)).trans hw348_13), ((HB.out.cell (World.block_lt_of_cell? w _ hw348_14)).trans hw348_14), ((HB.out.cell (World.block_lt_of_cell? w _ hw348_15)).trans hw348_15), ((HB.out.cell (World.block_lt_of_cell? w _ hw348_16)).trans hw348_16), ((HB.out.cell (World.block_lt_of_cell? w _ hw348_17)).trans hw348_17), ((HB.out.cell (World.block_lt_of_cell? w _ hw349_0)).trans hw349_0), ((HB.out.cell (World.block_lt_of_cell? w _ hw349_1)).trans hw349_1), ((HB.out.cell (World.block_lt_of_cell? w _ hw349_2)).trans hw349_2), ((HB.out.cell (World.block_lt_of_cell? w _ hw349_3)).trans hw349_3), ((HB.out.cell (World.block_lt_of_cell? w _ hw349_4)).trans hw349_4), ((HB.out.cell (World.block_lt_of_cell? w _ hw349_5)).trans hw349_5), ((HB.out.cell (World.block_lt_of_cell? w _ hw349_6)).trans hw349_6), ((HB.out.cell (World.block_lt_of_cell? w _ hw349_7)).trans hw349_7), ((HB.out.cell (World.block_lt_of_cell? w _ hw349_8)).trans hw349_8), ((HB.out.cell (World.block_lt_of_cell? w _ hw349_9)).trans hw349_9), ((HB.out.cell (World.block_lt_of_cell? w _ hw349_10)).trans hw349_10), ((HB.out.cell (World.block_lt_of_cell? w _ hw349_11)).trans hw349_11), ((HB.out.cell (World.block_lt_of_cell? w _ hw349_12)).trans hw349_12), ((HB.out.cell (World.block_lt_of_cell? w _ hw349_13)).trans hw349_13), ((HB.out.cell (World.block_lt_of_cell? w _ hw349_14)).trans hw349_14), ((HB.out.cell (World.block_lt_of_cell? w _ hw349_15)).trans hw349_15), ((HB.out.cell (World.block_lt_of_cell? w _ hw349_16)).trans hw349_16), ((HB.out.cell (World.block_lt_of_cell? w _ hw349_17)).trans hw349_17)⟩ (fun hHeld => ?_); refine with_tabW sawmillref46_Filled.tab11 sawmillref46_Filled.bits11 (fun HT_ HW_ => ?_)
                 generalize wr.drew = w35 at BK342 HB HR348_11 HR349_11 hx348_0 hx348_1 hx348_10 hx348_11 hx348_12 hx348_13 hx348_14 hx348_15 hx348_16 hx348_17 hx348_2 hx348_3 hx348_4 hx348_5 hx348_6 hx348_7 hx348_8 hx348_9 hx349_0 hx349_1 hx349_10 hx349_11 hx349_12 hx349_13 hx349_14 hx349_15 hx349_16 hx349_17 hx349_2 hx349_3 hx349_4 hx349_5 hx349_6 hx349_7 hx349_8 hx349_9 hHeld ⊢
                 refine pure_ (i := 0) (N := some 42) (v := ?_) (a' := ?_) #[true, false, false, false, false, false, false, false, false, false, false] rfl rfl (any_of HT_.out (by kernel_rfl)) (fun _ _ _ h => h) (Or.inl ⟨by rfl, ?_⟩) ?_ ?_
                 rotate_left
                 ·intro w'
                  go_simp
                  with_reducible rfl
                 rotate_left
                 ·simp only [Act.put, List.setIfInBounds_toArray, List.set_cons_zero, List.set_cons_succ, i64_w, i32_w]
                  rfl
                 refine pure_ (i := 1) (N := some 43) (v := ?_) (a' := ?_) #[true, true, false, false, false, false, false, false, false, false, false] rfl rfl (any_of HT_.out (by kernel_rfl)) (fun _ _ _ h => h) (Or.inl ⟨by rfl, ?_⟩) ?_ ?_
                 rotate_left
                 ·intro w'
                  go_simp
                  with_reducible rfl
                 rotate_left
                 ·simp only [Act.put, List.setIfInBounds_toArray, List.set_cons_zero, List.set_cons_succ, i64_w, i32_w]
                  rfl
                 refine pure_ (i := 2) (N := some 44) (v := ?_) (a' := ?_) #[true, true, true, false, false, false, false, false, false, false, false] rfl rfl (any_of HT_.out (by kernel_rfl)) (fun _ _ _ h => h) (Or.inl ⟨by rfl, ?_⟩) ?_ ?_
                 rotate_left
                 ·intro w'
                  go_simp
                  with_reducible rfl
                 rotate_left
                 ·simp only [Act.put, List.setIfInBounds_toArray, List.set_cons_zero, List.set_cons_succ, i64_w, i32_w]
                  rfl
                 refine pure_ (i := 3) (N := some 45) (v := ?_) (a' := ?_) #[true, true, true, true, false, false, false, false, false, false, false] rfl rfl (any_of HT_.out (by kernel_rfl)) (fun _ _ _ h => h) (Or.inl ⟨by rfl, ?_⟩) ?_ ?_
                 rotate_left
                 ·intro w'
                  go_simp
                  with_reducible rfl
                 rotate_left
                 ·simp only [Act.put, List.setIfInBounds_toArray, List.set_cons_zero, List.set_cons_succ, i64_w, i32_w]
                  rfl
                 refine pure_ (i := 5) (N := some 47) (v := ?_) (a' := ?_) #[true, true, true, true, false, true, false, false, false, false, false] rfl rfl (any_of HT_.out (by kernel_rfl)) (fun _ _ _ h => h) (Or.inl ⟨by rfl, ?_⟩) ?_ ?_
                 rotate_left
                 ·intro w'
                  go_simp
                  with_reducible rfl
                 rotate_left
                 ·simp only [Act.put, List.setIfInBounds_toArray, List.set_cons_zero, List.set_cons_succ, i64_w, i32_w]
                  rfl
                 refine pure_ (i := 6) (N := some 48) (v := ?_) (a' := ?_) #[true, true, true, true, false, true, true, false, false, false, false] rfl rfl (any_of HT_.out (by kernel_rfl)) (fun _ _ _ h => h) (Or.inl ⟨by rfl, ?_⟩) ?_ ?_
                 rotate_left
                 ·intro w'
                  go_simp
                  with_reducible rfl
                 rotate_left
                 ·simp only [Act.put, List.setIfInBounds_toArray, List.set_cons_zero, List.set_cons_succ, i64_w, i32_w]
                  rfl
                 refine pure_ (i := 7) (N := some 49) (v := ?_) (a' := ?_) #[true, true, true, true, false, true, true, true, false, false, false] rfl rfl (any_of HT_.out (by kernel_rfl)) (fun _ _ _ h => h) (Or.inl ⟨by rfl, ?_⟩) ?_ ?_
                 rotate_left
                 ·intro w'
                  go_simp
                  with_reducible rfl
                 rotate_left
                 ·simp only [Act.put, List.setIfInBounds_toArray, List.set_cons_zero, List.set_cons_succ, i64_w, i32_w]
                  rfl
                 refine pure_ (i := 8) (N := some 50) (v := ?_) (a' := ?_) #[true, true, true, true, false, true, true, true, true, false, false] rfl rfl (any_of HT_.out (by kernel_rfl)) (fun _ _ _ h => h) (Or.inl ⟨by rfl, ?_⟩) ?_ ?_
                 rotate_left
                 ·intro w'
                  go_simp
                  with_reducible rfl
                 rotate_left
                 ·simp only [Act.put, List.setIfInBounds_toArray, List.set_cons_zero, List.set_cons_succ, i64_w, i32_w]
                  rfl
                 refine take_ (i := 4) (N := some 46) (v := ?_) (a' := ?_) #[true, true, true, true, true, true, true, true, true, false, false] rfl rfl (take_ofW HT_.out HW_.out (by kernel_rfl)) (fun _ _ _ h => h) (Or.inl ⟨by rfl, ?_⟩) hHeld ?_ ?_
                 rotate_left
                 ·rintro w' ⟨s0, s1, s2, s3, s4, s5, s6, s7, s8, s9, s10, s11, s12, s13, s14, s15, s16, s17, s18, s19, s20, s21, s22, s23, s24, s25, s26, s27, s28, s29, s30, s31, s32, s33, s34, s35⟩
                  first
                  | (refine exec_load_elem 38 ?lx105 ?la105 ad346 ((x6_3).toNat * 18) ?lb105 (.string ((rd_T38 l1 x6_3).f0)) [.string ((rd_T38 l1 x6_3).f1), .string ((rd_T38 l1 x6_3).f2), .int .i64 ((rd_T38 l1 x6_3).f3), .int .i64 ((rd_T38 l1 x6_3).f4.f0.f0), .int .i64 ((rd_T38 l1 x6_3).f4.f0.f1), .int .i64 ((rd_T38 l1 x6_3).f4.f1.f0), .int .i64 ((rd_T38 l1 x6_3).f4.f1.f1), .int .i64 ((rd_T38 l1 x6_3).f4.f2.f0), .int .i64 ((rd_T38 l1 x6_3).f4.f2.f1), .int .i64 ((rd_T38 l1 x6_3).f5), .slice A348_11 ((rd_T38 l1 x6_3).f6).length c348_11, .int .i64 ((rd_T38 l1 x6_3).f7), .int .i64 ((rd_T38 l1 x6_3).f8.f0), .int .i64 ((rd_T38 l1 x6_3).f8.f1), .int .i64 ((rd_T38 l1 x6_3).f8.f2), .bool ((rd_T38 l1 x6_3).f9), .int .i64 ((rd_T38 l1 x6_3).f10)] ?le105 ?lc105 Tryd.underlying38 rfl ?ld105; (case la105 => exact rfl); (case lb105 => exact rfl); (case le105 => exact s0); (case lc105 => exact ⟨s1, s2, s3, s4, s5, s6, s7, s8, s9, s10, s11, s12, s13, s14, s15, s16, s17, trivial⟩); (case ld105 => kernel_rfl))
                  | (refine exec_load_elem 38 ?lx106 ?la106 ad346 ((x5_2).toNat * 18) ?lb106 (.string ((rd_T38 l1 x5_2).f0)) [.string ((rd_T38 l1 x5_2).f1), .string ((rd_T38 l1 x5_2).f2), .int .i64 ((rd_T38 l1 x5_2).f3), .int .i64 ((rd_T38 l1 x5_2).f4.f0.f0), .int .i64 ((rd_T38 l1 x5_2).f4.f0.f1), .int .i64 ((rd_T38 l1 x5_2).f4.f1.f0), .int .i64 ((rd_T38 l1 x5_2).f4.f1.f1), .int .i64 ((rd_T38 l1 x5_2).f4.f2.f0), .int .i64 ((rd_T38 l1 x5_2).f4.f2.f1), .int .i64 ((rd_T38 l1 x5_2).f5), .slice A349_11 ((rd_T38 l1 x5_2).f6).length c349_11, .int .i64 ((rd_T38 l1 x5_2).f7), .int .i64 ((rd_T38 l1 x5_2).f8.f0), .int .i64 ((rd_T38 l1 x5_2).f8.f1), .int .i64 ((rd_T38 l1 x5_2).f8.f2), .bool ((rd_T38 l1 x5_2).f9), .int .i64 ((rd_T38 l1 x5_2).f10)] ?le106 ?lc106 Tryd.underlying38 rfl ?ld106; (case la106 => exact rfl); (case lb106 => exact rfl); (case le106 => exact s18); (case lc106 => exact ⟨s19, s20, s21, s22, s23, s24, s25, s26, s27, s28, s29, s30, s31, s32, s33, s34, s35, trivial⟩); (case ld106 => kernel_rfl))
                  | (go_simp; with_reducible rfl)
                 rotate_left
                 ·simp only [Act.put, List.setIfInBounds_toArray, List.set_cons_zero, List.set_cons_succ, i64_w, i32_w]
                  rfl
                 refine take_ (i := 9) (N := some 51) (v := ?_) (a' := ?_) #[true, true, true, true, true, true, true, true, true, true, false] rfl rfl (take_ofW HT_.out HW_.out (by kernel_rfl)) (fun _ _ _ h => h) (Or.inl ⟨by rfl, ?_⟩) hHeld ?_ ?_
                 rotate_left
                 ·rintro w' ⟨s0, s1, s2, s3, s4, s5, s6, s7, s8, s9, s10, s11, s12, s13, s14, s15, s16, s17, s18, s19, s20, s21, s22, s23, s24, s25, s26, s27, s28, s29, s30, s31, s32, s33, s34, s35⟩
                  first
                  | (refine exec_load_elem 38 ?lx107 ?la107 ad346 ((x6_3).toNat * 18) ?lb107 (.string ((rd_T38 l1 x6_3).f0)) [.string ((rd_T38 l1 x6_3).f1), .string ((rd_T38 l1 x6_3).f2), .int .i64 ((rd_T38 l1 x6_3).f3), .int .i64 ((rd_T38 l1 x6_3).f4.f0.f0), .int .i64 ((rd_T38 l1 x6_3).f4.f0.f1), .int .i64 ((rd_T38 l1 x6_3).f4.f1.f0), .int .i64 ((rd_T38 l1 x6_3).f4.f1.f1), .int .i64 ((rd_T38 l1 x6_3).f4.f2.f0), .int .i64 ((rd_T38 l1 x6_3).f4.f2.f1), .int .i64 ((rd_T38 l1 x6_3).f5), .slice A348_11 ((rd_T38 l1 x6_3).f6).length c348_11, .int .i64 ((rd_T38 l1 x6_3).f7), .int .i64 ((rd_T38 l1 x6_3).f8.f0), .int .i64 ((rd_T38 l1 x6_3).f8.f1), .int .i64 ((rd_T38 l1 x6_3).f8.f2), .bool ((rd_T38 l1 x6_3).f9), .int .i64 ((rd_T38 l1 x6_3).f10)] ?le107 ?lc107 Tryd.underlying38 rfl ?ld107; (case la107 => exact rfl); (case lb107 => exact rfl); (case le107 => exact s0); (case lc107 => exact ⟨s1, s2, s3, s4, s5, s6, s7, s8, s9, s10, s11, s12, s13, s14, s15, s16, s17, trivial⟩); (case ld107 => kernel_rfl))
                  | (refine exec_load_elem 38 ?lx108 ?la108 ad346 ((x5_2).toNat * 18) ?lb108 (.string ((rd_T38 l1 x5_2).f0)) [.string ((rd_T38 l1 x5_2).f1), .string ((rd_T38 l1 x5_2).f2), .int .i64 ((rd_T38 l1 x5_2).f3), .int .i64 ((rd_T38 l1 x5_2).f4.f0.f0), .int .i64 ((rd_T38 l1 x5_2).f4.f0.f1), .int .i64 ((rd_T38 l1 x5_2).f4.f1.f0), .int .i64 ((rd_T38 l1 x5_2).f4.f1.f1), .int .i64 ((rd_T38 l1 x5_2).f4.f2.f0), .int .i64 ((rd_T38 l1 x5_2).f4.f2.f1), .int .i64 ((rd_T38 l1 x5_2).f5), .slice A349_11 ((rd_T38 l1 x5_2).f6).length c349_11, .int .i64 ((rd_T38 l1 x5_2).f7), .int .i64 ((rd_T38 l1 x5_2).f8.f0), .int .i64 ((rd_T38 l1 x5_2).f8.f1), .int .i64 ((rd_T38 l1 x5_2).f8.f2), .bool ((rd_T38 l1 x5_2).f9), .int .i64 ((rd_T38 l1 x5_2).f10)] ?le108 ?lc108 Tryd.underlying38 rfl ?ld108; (case la108 => exact rfl); (case lb108 => exact rfl); (case le108 => exact s18); (case lc108 => exact ⟨s19, s20, s21, s22, s23, s24, s25, s26, s27, s28, s29, s30, s31, s32, s33, s34, s35, trivial⟩); (case ld108 => kernel_rfl))
                  | (go_simp; with_reducible rfl)
                 rotate_left
                 ·simp only [Act.put, List.setIfInBounds_toArray, List.set_cons_zero, List.set_cons_succ, i64_w, i32_w]
                  rfl
                 refine pure_ (i := 10) (N := some 52) (v := ?_) (a' := ?_) #[true, true, true, true, true, true, true, true, true, true, true] rfl rfl (any_of HT_.out (by kernel_rfl)) (fun _ _ _ h => h) (Or.inl ⟨by rfl, ?_⟩) ?_ ?_
                 rotate_left
                 ·intro w'
                  go_simp
                  with_reducible rfl
                 rotate_left
                 ·simp only [Act.put, List.setIfInBounds_toArray, List.set_cons_zero, List.set_cons_succ, i64_w, i32_w]
                  rfl
                 refine done_ (done_of HT_.out (by kernel_rfl)) ?_
                 try go_wp2
                 go_ret
                 exact ⟨by first | rfl | (simp [*] <;> rfl), by repeat (first | (with_reducible first | exact HB.out | apply pA | apply pN | apply p1 | refine pS ?_ GE342.out) | exact HB.out)⟩
                ·rw [if_neg c34] at H
                 have c34b0 : (((rd_T38 l1 x6_3).f0).toList == ((rd_T38 l1 x5_2).f0).toList) = false := oC c34
                 have c34b1 : (((rd_T38 l1 x6_3).f0).toList != ((rd_T38 l1 x5_2).f0).toList) = true := bne_iff_ne.mpr c34
                 have H' := Aside0.mk H
                 clear H
                 try go_wp2
                 have n0_ := q_ (bW BK342.out)
                 have n1_ := q_ (p1 HB.out)
                 clear BK342
                 clear HB
                 have BK342 := n0_
                 have HB := n1_
                 clear n0_ n1_
                 have p348 : 0 ≤ (x6_3 : Int) := of_decide_eq_true (by first | (with_reducible assumption) | assumption)
                 have q348 : x6_3 < (l1.length : Int) := of_decide_eq_true (by first | (with_reducible assumption) | assumption)
                 obtain ⟨ad348, A348_11, c348_11, e348, hx348_0, hx348_1, hx348_2, hx348_3, hx348_4, hx348_5, hx348_6, hx348_7, hx348_8, hx348_9, hx348_10, hx348_11, hx348_12, hx348_13, hx348_14, hx348_15, hx348_16, hx348_17, hl348_11, hi348_11⟩ := at_T38 HR1.out x6_3 p348 q348
                 have hw348_17 := hx348_17
                 have hw348_16 := hx348_16
                 have hw348_15 := hx348_15
                 have hw348_14 := hx348_14
                 have hw348_13 := hx348_13
                 have hw348_12 := hx348_12
                 have hw348_11 := hx348_11
                 have hw348_10 := hx348_10
                 have hw348_9 := hx348_9
                 have hw348_8 := hx348_8
                 have hw348_7 := hx348_7
                 have hw348_6 := hx348_6
                 have hw348_5 := hx348_5
                 have hw348_4 := hx348_4
                 have hw348_3 := hx348_3
                 have hw348_2 := hx348_2
                 have hw348_1 := hx348_1
                 have hw348_0 := hx348_0
                 obtain rfl : ad346 = ad348 := (by injection e348)
                 replace hx348_0 := (HB.out.cell (World.block_lt_of_cell? w _ hx348_0)).trans hx348_0
                 replace hx348_1 := (HB.out.cell (World.block_lt_of_cell? w _ hx348_1)).trans hx348_1
                 replace hx348_2 := (HB.out.cell (World.block_lt_of_cell? w _ hx348_2)).trans hx348_2
                 replace hx348_3 := (HB.out.cell (World.block_lt_of_cell? w _ hx348_3)).trans hx348_3
                 replace hx348_4 := (HB.out.cell (World.block_lt_of_cell? w _ hx348_4)).trans hx348_4
                 replace hx348_5 := (HB.out.cell (World.block_lt_of_cell? w _ hx348_5)).trans hx348_5
                 replace hx348_6 := (HB.out.cell (World.block_lt_of_cell? w _ hx348_6)).trans hx348_6
                 replace hx348_7 := (HB.out.cell (World.block_lt_of_cell? w _ hx348_7)).trans hx348_7
                 replace hx348_8 := (HB.out.cell (World.block_lt_of_cell? w _ hx348_8)).trans hx348_8
                 replace hx348_9 := (HB.out.cell (World.block_lt_of_cell? w _ hx348_9)).trans hx348_9
                 replace hx348_10 := (HB.out.cell (World.block_lt_of_cell? w _ hx348_10)).trans hx348_10
                 replace hx348_11 := (HB.out.cell (World.block_lt_of_cell? w _ hx348_11)).trans hx348_11
                 replace hx348_12 := (HB.out.cell (World.block_lt_of_cell? w _ hx348_12)).trans hx348_12
                 replace hx348_13 := (HB.out.cell (World.block_lt_of_cell? w _ hx348_13)).trans hx348_13
                 replace hx348_14 := (HB.out.cell (World.block_lt_of_cell? w _ hx348_14)).trans hx348_14
                 replace hx348_15 := (HB.out.cell (World.block_lt_of_cell? w _ hx348_15)).trans hx348_15
                 replace hx348_16 := (HB.out.cell (World.block_lt_of_cell? w _ hx348_16)).trans hx348_16
                 replace hx348_17 := (HB.out.cell (World.block_lt_of_cell? w _ hx348_17)).trans hx348_17
                 have HR348_11 := Aside0.mk hi348_11
                 have HC348_11 := Aside0.mk hl348_11
                 clear hi348_11 hl348_11
                 replace p348 := eq_true p348
                 replace q348 := eq_true q348
                 have p349 : 0 ≤ (x5_2 : Int) := of_decide_eq_true (by first | (with_reducible assumption) | assumption)
                 have q349 : x5_2 < (l1.length : Int) := of_decide_eq_true (by first | (with_reducible assumption) | assumption)
                 obtain ⟨ad349, A349_11, c349_11, e349, hx349_0, hx349_1, hx349_2, hx349_3, hx349_4, hx349_5, hx349_6, hx349_7, hx349_8, hx349_9, hx349_10, hx349_11, hx349_12, hx349_13, hx349_14, hx349_15, hx349_16, hx349_17, hl349_11, hi349_11⟩ := at_T38 HR1.out x5_2 p349 q349
                 have hw349_17 := hx349_17
                 have hw349_16 := hx349_16
                 have hw349_15 := hx349_15
                 have hw349_14 := hx349_14
                 have hw349_13 := hx349_13
                 have hw349_12 := hx349_12
                 have hw349_11 := hx349_11
                 have hw349_10 := hx349_10
                 have hw349_9 := hx349_9
                 have hw349_8 := hx349_8
                 have hw349_7 := hx349_7
                 have hw349_6 := hx349_6
                 have hw349_5 := hx349_5
                 have hw349_4 := hx349_4
                 have hw349_3 := hx349_3
                 have hw349_2 := hx349_2
                 have hw349_1 := hx349_1
                 have hw349_0 := hx349_0
                 obtain rfl : ad346 = ad349 := (by injection e349)
                 replace hx349_0 := (HB.out.cell (World.block_lt_of_cell? w _ hx349_0)).trans hx349_0
                 replace hx349_1 := (HB.out.cell (World.block_lt_of_cell? w _ hx349_1)).trans hx349_1
                 replace hx349_2 := (HB.out.cell (World.block_lt_of_cell? w _ hx349_2)).trans hx349_2
                 replace hx349_3 := (HB.out.cell (World.block_lt_of_cell? w _ hx349_3)).trans hx349_3
                 replace hx349_4 := (HB.out.cell (World.block_lt_of_cell? w _ hx349_4)).trans hx349_4
                 replace hx349_5 := (HB.out.cell (World.block_lt_of_cell? w _ hx349_5)).trans hx349_5
                 replace hx349_6 := (HB.out.cell (World.block_lt_of_cell? w _ hx349_6)).trans hx349_6
                 replace hx349_7 := (HB.out.cell (World.block_lt_of_cell? w _ hx349_7)).trans hx349_7
                 replace hx349_8 := (HB.out.cell (World.block_lt_of_cell? w _ hx349_8)).trans hx349_8
                 replace hx349_9 := (HB.out.cell (World.block_lt_of_cell? w _ hx349_9)).trans hx349_9
                 replace hx349_10 := (HB.out.cell (World.block_lt_of_cell? w _ hx349_10)).trans hx349_10
                 replace hx349_11 := (HB.out.cell (World.block_lt_of_cell? w _ hx349_11)).trans hx349_11
                 replace hx349_12 := (HB.out.cell (World.block_lt_of_cell? w _ hx349_12)).trans hx349_12
                 replace hx349_13 := (HB.out.cell (World.block_lt_of_cell? w _ hx349_13)).trans hx349_13
                 replace hx349_14 := (HB.out.cell (World.block_lt_of_cell? w _ hx349_14)).trans hx349_14
                 replace hx349_15 := (HB.out.cell (World.block_lt_of_cell? w _ hx349_15)).trans hx349_15
                 replace hx349_16 := (HB.out.cell (World.block_lt_of_cell? w _ hx349_16)).trans hx349_16
                 replace hx349_17 := (HB.out.cell (World.block_lt_of_cell? w _ hx349_17)).trans hx349_17
                 have HR349_11 := Aside0.mk hi349_11
                 have HC349_11 := Aside0.mk hl349_11
                 clear hi349_11 hl349_11
                 replace p349 := eq_true p349
                 replace q349 := eq_true q349
                 refine start_ (n := 11) (S := fun w' => w'.cell? (ad346.add ((x6_3).toNat * 18)) = some (.string ((rd_T38 l1 x6_3).f0)) ∧ w'.cell? ⟨(ad346.add ((x6_3).toNat * 18)).block, (ad346.add ((x6_3).toNat * 18)).off + 1, none⟩ = some (.string ((rd_T38 l1 x6_3).f1)) ∧ w'.cell? ⟨(ad346.add ((x6_3).toNat * 18)).block, (ad346.add ((x6_3).toNat * 18)).off + 2, none⟩ = some (.string ((rd_T38 l1 x6_3).f2)) ∧ w'.cell? ⟨(ad346.add ((x6_3).toNat * 18)).block, (ad346.add ((x6_3).toNat * 18)).off + 3, none⟩ = some (.int .i64 ((rd_T38 l1 x6_3).f3)) ∧ w'.cell? ⟨(ad346.add ((x6_3).toNat * 18)).block, (ad346.add ((x6_3).toNat * 18)).off + 4, none⟩ = some (.int .i64 ((rd_T38 l1 x6_3).f4.f0.f0)) ∧ w'.cell? ⟨(ad346.add ((x6_3).toNat * 18)).block, (ad346.add ((x6_3).toNat * 18)).off + 5, none⟩ = some (.int .i64 ((rd_T38 l1 x6_3).f4.f0.f1)) ∧ w'.cell? ⟨(ad346.add ((x6_3).toNat * 18)).block, (ad346.add ((x6_3).toNat * 18)).off + 6, none⟩ = some (.int .i64 ((rd_T38 l1 x6_3).f4.f1.f0)) ∧ w'.cell? ⟨(ad346.add ((x6_3).toNat * 18)).block, (ad346.add ((x6_3).toNat * 18)).off + 7, none⟩ = some (.int .i64 ((rd_T38 l1 x6_3).f4.f1.f1)) ∧ w'.cell? ⟨(ad346.add ((x6_3).toNat * 18)).block, (ad346.add ((x6_3).toNat * 18)).off + 8, none⟩ = some (.int .i64 ((rd_T38 l1 x6_3).f4.f2.f0)) ∧ w'.cell? ⟨(ad346.add ((x6_3).toNat * 18)).block, (ad346.add ((x6_3).toNat * 18)).off + 9, none⟩ = some (.int .i64 ((rd_T38 l1 x6_3).f4.f2.f1)) ∧ w'.cell? ⟨(ad346.add ((x6_3).toNat * 18)).block, (ad346.add ((x6_3).toNat * 18)).off + 10, none⟩ = some (.int .i64 ((rd_T38 l1 x6_3).f5)) ∧ w'.cell? ⟨(ad346.add ((x6_3).toNat * 18)).block, (ad346.add ((x6_3).toNat * 18)).off + 11, none⟩ = some (.slice A348_11 ((rd_T38 l1 x6_3).f6).length c348_11) ∧ w'.cell? ⟨(ad346.add ((x6_3).toNat * 18)).block, (ad346.add ((x6_3).toNat * 18)).off + 12, none⟩ = some (.int .i64 ((rd_T38 l1 x6_3).f7)) ∧ w'.cell? ⟨(ad346.add ((x6_3).toNat * 18)).block, (ad346.add ((x6_3).toNat * 18)).off + 13, none⟩ = some (.int .i64 ((rd_T38 l1 x6_3).f8.f0)) ∧ w'.cell? ⟨(ad346.add ((x6_3).toNat * 18)).block, (ad346.add ((x6_3).toNat * 18)).off + 14, none⟩ = some (.int .i64 ((rd_T38 l1 x6_3).f8.f1)) ∧ w'.cell? ⟨(ad346.add ((x6_3).toNat * 18)).block, (ad346.add ((x6_3).toNat * 18)).off + 15, none⟩ = some (.int .i64 ((rd_T38 l1 x6_3).f8.f2)) ∧ w'.cell? ⟨(ad346.add ((x6_3).toNat * 18)).block, (ad346.add ((x6_3).toNat * 18)).off + 16, none⟩ = some (.bool ((rd_T38 l1 x6_3).f9)) ∧ w'.cell? ⟨(ad346.add ((x6_3).toNat * 18)).block, (ad346.add ((x6_3).toNat * 18)).off + 17, none⟩ = some (.int .i64 ((rd_T38 l1 x6_3).f10)) ∧ w'.cell? (ad346.add ((x5_2).toNat * 18)) = some (.string ((rd_T38 l1 x5_2).f0)) ∧ w'.cell? ⟨(ad346.add ((x5_2).toNat * 18)).block, (ad346.add ((x5_2).toNat * 18)).off + 1, none⟩ = some (.string ((rd_T38 l1 x5_2).f1)) ∧ w'.cell? ⟨(ad346.add ((x5_2).toNat * 18)).block, (ad346.add ((x5_2).toNat * 18)).off + 2, none⟩ = some (.string ((rd_T38 l1 x5_2).f2)) ∧ w'.cell? ⟨(ad346.add ((x5_2).toNat * 18)).block, (ad346.add ((x5_2).toNat * 18)).off + 3, none⟩ = some (.int .i64 ((rd_T38 l1 x5_2).f3)) ∧ w'.cell? ⟨(ad346.add ((x5_2).toNat * 18)).block, (ad346.add ((x5_2).toNat * 18)).off + 4, none⟩ = some (.int .i64 ((rd_T38 l1 x5_2).f4.f0.f0)) ∧ w'.cell? ⟨(ad346.add ((x5_2).toNat * 18)).block, (ad346.add ((x5_2).toNat * 18)).off + 5, none⟩ = some (.int .i64 ((rd_T38 l1 x5_2).f4.f0.f1)) ∧ w'.cell? ⟨(ad346.add ((x5_2).toNat * 18)).block, (ad346.add ((x5_2).toNat * 18)).off + 6, none⟩ = some (.int .i64 ((rd_T38 l1 x5_2).f4.f1.f0)) ∧ w'.cell? ⟨(ad346.add ((x5_2).toNat * 18)).block, (ad346.add ((x5_2).toNat * 18)).off + 7, none⟩ = some (.int .i64 ((rd_T38 l1 x5_2).f4.f1.f1)) ∧ w'.cell? ⟨(ad346.add ((x5_2).toNat * 18)).block, (ad346.add ((x5_2).toNat * 18)).off + 8, none⟩ = some (.int .i64 ((rd_T38 l1 x5_2).f4.f2.f0)) ∧ w'.cell? ⟨(ad346.add ((x5_2).toNat * 18)).block, (ad346.add ((x5_2).toNat * 18)).off + 9, none⟩ = some (.int .i64 ((rd_T38 l1 x5_2).f4.f2.f1)) ∧ w'.cell? ⟨(ad346.add ((x5_2).toNat * 18)).block, (ad346.add ((x5_2).toNat * 18)).off + 10, none⟩ = some (.int .i64 ((rd_T38 l1 x5_2).f5)) ∧ w'.cell? ⟨(ad346.add ((x5_2).toNat * 18)).block, (ad346.add ((x5_2).toNat * 18)).off + 11, none⟩ = some (.slice A349_11 ((rd_T38 l1 x5_2).f6).length c349_11) ∧ w'.cell? ⟨(ad346.add ((x5_2).toNat * 18)).block, (ad346.add ((x5_2).toNat * 18)).off + 12, none⟩ = some (.int .i64 ((rd_T38 l1 x5_2).f7)) ∧ w'.cell? ⟨(ad346.add ((x5_2).toNat * 18)).block, (ad346.add ((x5_2).toNat * 18)).off + 13, none⟩ = some (.int .i64 ((rd_T38 l1 x5_2).f8.f0)) ∧ w'.cell? ⟨(ad346.add ((x5_2).toNat * 18)).block, (ad346.add ((x5_2).toNat * 18)).off + 14, none⟩ = some (.int .i64 ((rd_T38 l1 x5_2).f8.f1)) ∧ w'.cell? ⟨(ad346.add ((x5_2).toNat * 18)).block, (ad346.add ((x5_2).toNat * 18)).off + 15, none⟩ = some (.int .i64 ((rd_T38 l1 x5_2).f8.f2)) ∧ w'.cell? ⟨(ad346.add ((x5_2).toNat * 18)).block, (ad346.add ((x5_2).toNat * 18)).off + 16, none⟩ = some (.bool ((rd_T38 l1 x5_2).f9)) ∧ w'.cell? ⟨(ad346.add ((x5_2).toNat * 18)).block, (ad346.add ((x5_2).toNat * 18)).off + 17, none⟩ = some (.int .i64 ((rd_T38 l1 x5_2).f10))) (ds := []) #[false, false, false, false, false, false, false, false, false, false, false] (by kernel_rfl) rfl rfl ⟨((HB.out.cell (World.block_lt_of_cell? w _ hw348_0)).trans hw348_0), ((HB.out.cell (World.block_lt_of_cell? w _ hw348_1)).trans hw348_1), ((HB.out.cell (World.block_lt_of_cell? w _ hw348_2)).trans hw348_2), ((HB.out.cell (World.block_lt_of_cell? w _ hw348_3)).trans hw348_3), ((HB.out.cell (World.block_lt_of_cell? w _ hw348_4)).trans hw348_4), ((HB.out.cell (World.block_lt_of_cell? w _ hw348_5)).trans hw348_5), ((HB.out.cell (World.block_lt_of_cell? w _ hw348_6)).trans hw348_6), ((HB.out.cell (World.block_lt_of_cell? w _ hw348_7)).trans hw348_7), ((HB.out.cell (World.block_lt_of_cell? w _ hw348_8)).trans hw348_8), ((HB.out.cell (World.block_lt_of_cell? w _ hw348_9)).trans hw348_9), ((HB.out.cell (World.block_lt_of_cell? w _ hw348_10)).trans hw348_10), ((HB.out.cell (World.block_lt_of_cell? w _ hw348_11)).trans hw348_11), ((HB.out.cell (World.block_lt_of_cell? w _ hw348_12)).trans hw348_12), ((HB.out.cell (World.block_lt_of_cell? w _ hw348_13)).trans hw348_13), ((HB.out.cell (World.block_lt_of_cell? w _ hw348_14)).trans hw348_14), ((HB.out.cell (World.block_lt_of_cell? w _ hw348_15)).trans hw348_15), ((HB.out.cell (World.block_lt_of_cell? w _ hw348_16)).trans hw348_16), ((HB.out.cell (World.block_lt_of_cell? w _ hw348_17)).trans hw348_17), ((HB.out.cell (World.block_lt_of_cell? w _ hw349_0)).trans hw349_0), ((HB.out.cell (World.block_lt_of_cell? w _ hw349_1)).trans hw349_1), ((HB.out.cell (World.block_lt_of_cell? w _ hw349_2)).trans hw349_2), ((HB.out.cell (World.block_lt_of_cell? w _ hw349_3)).trans hw349_3), ((HB.out.cell (World.block_lt_of_cell? w _ hw349_4)).trans hw349_4), ((HB.out.cell (World.block_lt_of_cell? w _ hw349_5)).trans hw349_5), ((HB.out.cell (World.block_lt_of_cell? w _ hw349_6)).trans hw349_6), ((HB.out.cell (World.block_lt_of_cell? w _ hw349_7)).trans hw349_7), ((HB.out.cell (World.block_lt_of_cell? w _ hw349_8)).trans hw349_8), ((HB.out.cell (World.block_lt_of_cell? w _ hw349_9)).trans hw349_9), ((HB.out.cell (World.block_lt_of_cell? w _ hw349_10)).trans hw349_10), ((HB.out.cell (World.block_lt_of_cell? w _ hw349_11)).trans hw349_11), ((HB.out.cell (World.block_lt_of_cell? w _ hw349_12)).trans hw349_12), ((HB.out.cell (World.block_lt_of_cell? w _ hw349_13)).trans hw349_13), ((HB.out.cell (World.block_lt_of_cell? w _ hw349_14)).trans hw349_14), ((HB.out.cell (World.block_lt_of_cell? w _ hw349_15)).trans hw349_15), ((HB.out.cell (World.block_lt_of_cell? w _ hw349_16)).trans hw349_16), ((HB.out.cell (World.block_lt_of_cell? w _ hw349_17)).trans hw349_17)⟩ (fun hHeld => ?_); refine with_tabW sawmillref46_Filled.tab11 sawmillref46_Filled.bits11 (fun HT_ HW_ => ?_)
                 generalize wr.drew = w36 at BK342 HB HR348_11 HR349_11 hx348_0 hx348_1 hx348_10 hx348_11 hx348_12 hx348_13 hx348_14 hx348_15 hx348_16 hx348_17 hx348_2 hx348_3 hx348_4 hx348_5 hx348_6 hx348_7 hx348_8 hx348_9 hx349_0 hx349_1 hx349_10 hx349_11 hx349_12 hx349_13 hx349_14 hx349_15 hx349_16 hx349_17 hx349_2 hx349_3 hx349_4 hx349_5 hx349_6 hx349_7 hx349_8 hx349_9 hHeld ⊢
                 refine pure_ (i := 0) (N := some 42) (v := ?_) (a' := ?_) #[true, false, false, false, false, false, false, false, false, false, false] rfl rfl (any_of HT_.out (by kernel_rfl)) (fun _ _ _ h => h) (Or.inl ⟨by rfl, ?_⟩) ?_ ?_
                 rotate_left
                 ·intro w'
                  go_simp
                  with_reducible rfl
                 rotate_left
                 ·simp only [Act.put, List.setIfInBounds_toArray, List.set_cons_zero, List.set_cons_succ, i64_w, i32_w]
                  rfl
                 refine pure_ (i := 1) (N := some 43) (v := ?_) (a' := ?_) #[true, true, false, false, false, false, false, false, false, false, false] rfl rfl (any_of HT_.out (by kernel_rfl)) (fun _ _ _ h => h) (Or.inl ⟨by rfl, ?_⟩) ?_ ?_
                 rotate_left
                 ·intro w'
                  go_simp
                  with_reducible rfl
                 rotate_left
                 ·simp only [Act.put, List.setIfInBounds_toArray, List.set_cons_zero, List.set_cons_succ, i64_w, i32_w]
                  rfl
                 refine pure_ (i := 2) (N := some 44) (v := ?_) (a' := ?_) #[true, true, true, false, false, false, false, false, false, false, false] rfl rfl (any_of HT_.out (by kernel_rfl)) (fun _ _ _ h => h) (Or.inl ⟨by rfl, ?_⟩) ?_ ?_
                 rotate_left
                 ·intro w'
                  go_simp
                  with_reducible rfl
                 rotate_left
                 ·simp only [Act.put, List.setIfInBounds_toArray, List.set_cons_zero, List.set_cons_succ, i64_w, i32_w]
                  rfl
                 refine pure_ (i := 3) (N := some 45) (v := ?_) (a' := ?_) #[true, true, true, true, false, false, false, false, false, false, false] rfl rfl (any_of HT_.out (by kernel_rfl)) (fun _ _ _ h => h) (Or.inl ⟨by rfl, ?_⟩) ?_ ?_
                 rotate_left
                 ·intro w'
                  go_simp
                  with_reducible rfl
                 rotate_left
                 ·simp only [Act.put, List.setIfInBounds_toArray, List.set_cons_zero, List.set_cons_succ, i64_w, i32_w]
                  rfl
                 refine pure_ (i := 5) (N := some 47) (v := ?_) (a' := ?_) #[true, true, true, true, false, true, false, false, false, false, false] rfl rfl (any_of HT_.out (by kernel_rfl)) (fun _ _ _ h => h) (Or.inl ⟨by rfl, ?_⟩) ?_ ?_
                 rotate_left
                 ·intro w'
                  go_simp
                  with_reducible rfl
                 rotate_left
                 ·simp only [Act.put, List.setIfInBounds_toArray, List.set_cons_zero, List.set_cons_succ, i64_w, i32_w]
                  rfl
                 refine pure_ (i := 6) (N := some 48) (v := ?_) (a' := ?_) #[true, true, true, true, false, true, true, false, false, false, false] rfl rfl (any_of HT_.out (by kernel_rfl)) (fun _ _ _ h => h) (Or.inl ⟨by rfl, ?_⟩) ?_ ?_
                 rotate_left
                 ·intro w'
                  go_simp
                  with_reducible rfl
                 rotate_left
                 ·simp only [Act.put, List.setIfInBounds_toArray, List.set_cons_zero, List.set_cons_succ, i64_w, i32_w]
                  rfl
                 refine pure_ (i := 7) (N := some 49) (v := ?_) (a' := ?_) #[true, true, true, true, false, true, true, true, false, false, false] rfl rfl (any_of HT_.out (by kernel_rfl)) (fun _ _ _ h => h) (Or.inl ⟨by rfl, ?_⟩) ?_ ?_
                 rotate_left
                 ·intro w'
                  go_simp
                  with_reducible rfl
                 rotate_left
                 ·simp only [Act.put, List.setIfInBounds_toArray, List.set_cons_zero, List.set_cons_succ, i64_w, i32_w]
                  rfl
                 refine pure_ (i := 8) (N := some 50) (v := ?_) (a' := ?_) #[true, true, true, true, false, true, true, true, true, false, false] rfl rfl (any_of HT_.out (by kernel_rfl)) (fun _ _ _ h => h) (Or.inl ⟨by rfl, ?_⟩) ?_ ?_
                 rotate_left
                 ·intro w'
                  go_simp
                  with_reducible rfl
                 rotate_left
                 ·simp only [Act.put, List.setIfInBounds_toArray, List.set_cons_zero, List.set_cons_succ, i64_w, i32_w]
                  rfl
                 refine take_ (i := 4) (N := some 46) (v := ?_) (a' := ?_) #[true, true, true, true, true, true, true, true, true, false, false] rfl rfl (take_ofW HT_.out HW_.out (by kernel_rfl)) (fun _ _ _ h => h) (Or.inl ⟨by rfl, ?_⟩) hHeld ?_ ?_
                 rotate_left
                 ·rintro w' ⟨s0, s1, s2, s3, s4, s5, s6, s7, s8, s9, s10, s11, s12, s13, s14, s15, s16, s17, s18, s19, s20, s21, s22, s23, s24, s25, s26, s27, s28, s29, s30, s31, s32, s33, s34, s35⟩
                  first
                  | (refine exec_load_elem 38 ?lx109 ?la109 ad346 ((x6_3).toNat * 18) ?lb109 (.string ((rd_T38 l1 x6_3).f0)) [.string ((rd_T38 l1 x6_3).f1), .string ((rd_T38 l1 x6_3).f2), .int .i64 ((rd_T38 l1 x6_3).f3), .int .i64 ((rd_T38 l1 x6_3).f4.f0.f0), .int .i64 ((rd_T38 l1 x6_3).f4.f0.f1), .int .i64 ((rd_T38 l1 x6_3).f4.f1.f0), .int .i64 ((rd_T38 l1 x6_3).f4.f1.f1), .int .i64 ((rd_T38 l1 x6_3).f4.f2.f0), .int .i64 ((rd_T38 l1 x6_3).f4.f2.f1), .int .i64 ((rd_T38 l1 x6_3).f5), .slice A348_11 ((rd_T38 l1 x6_3).f6).length c348_11, .int .i64 ((rd_T38 l1 x6_3).f7), .int .i64 ((rd_T38 l1 x6_3).f8.f0), .int .i64 ((rd_T38 l1 x6_3).f8.f1), .int .i64 ((rd_T38 l1 x6_3).f8.f2), .bool ((rd_T38 l1 x6_3).f9), .int .i64 ((rd_T38 l1 x6_3).f10)] ?le109 ?lc109 Tryd.underlying38 rfl ?ld109; (case la109 => exact rfl); (case lb109 => exact rfl); (case le109 => exact s0); (case lc109 => exact ⟨s1, s2, s3, s4, s5, s6, s7, s8, s9, s10, s11, s12, s13, s14, s15, s16, s17, trivial⟩); (case ld109 => kernel_rfl))
                  | (refine exec_load_elem 38 ?lx110 ?la110 ad346 ((x5_2).toNat * 18) ?lb110 (.string ((rd_T38 l1 x5_2).f0)) [.string ((rd_T38 l1 x5_2).f1), .string ((rd_T38 l1 x5_2).f2), .int .i64 ((rd_T38 l1 x5_2).f3), .int .i64 ((rd_T38 l1 x5_2).f4.f0.f0), .int .i64 ((rd_T38 l1 x5_2).f4.f0.f1), .int .i64 ((rd_T38 l1 x5_2).f4.f1.f0), .int .i64 ((rd_T38 l1 x5_2).f4.f1.f1), .int .i64 ((rd_T38 l1 x5_2).f4.f2.f0), .int .i64 ((rd_T38 l1 x5_2).f4.f2.f1), .int .i64 ((rd_T38 l1 x5_2).f5), .slice A349_11 ((rd_T38 l1 x5_2).f6).length c349_11, .int .i64 ((rd_T38 l1 x5_2).f7), .int .i64 ((rd_T38 l1 x5_2).f8.f0), .int .i64 ((rd_T38 l1 x5_2).f8.f1), .int .i64 ((rd_T38 l1 x5_2).f8.f2), .bool ((rd_T38 l1 x5_2).f9), .int .i64 ((rd_T38 l1 x5_2).f10)] ?le110 ?lc110 Tryd.underlying38 rfl ?ld110; (case la110 => exact rfl); (case lb110 => exact rfl); (case le110 => exact s18); (case lc110 => exact ⟨s19, s20, s21, s22, s23, s24, s25, s26, s27, s28, s29, s30, s31, s32, s33, s34, s35, trivial⟩); (case ld110 => kernel_rfl))
                  | (go_simp; with_reducible rfl)
                 rotate_left
                 ·simp only [Act.put, List.setIfInBounds_toArray, List.set_cons_zero, List.set_cons_succ, i64_w, i32_w]
                  rfl
                 refine take_ (i := 9) (N := some 51) (v := ?_) (a' := ?_) #[true, true, true, true, true, true, true, true, true, true, false] rfl rfl (take_ofW HT_.out HW_.out (by kernel_rfl)) (fun _ _ _ h => h) (Or.inl ⟨by rfl, ?_⟩) hHeld ?_ ?_
                 rotate_left
                 ·rintro w' ⟨s0, s1, s2, s3, s4, s5, s6, s7, s8, s9, s10, s11, s12, s13, s14, s15, s16, s17, s18, s19, s20, s21, s22, s23, s24, s25, s26, s27, s28, s29, s30, s31, s32, s33, s34, s35⟩
                  first
                  | (refine exec_load_elem 38 ?lx111 ?la111 ad346 ((x6_3).toNat * 18) ?lb111 (.string ((rd_T38 l1 x6_3).f0)) [.string ((rd_T38 l1 x6_3).f1), .string ((rd_T38 l1 x6_3).f2), .int .i64 ((rd_T38 l1 x6_3).f3), .int .i64 ((rd_T38 l1 x6_3).f4.f0.f0), .int .i64 ((rd_T38 l1 x6_3).f4.f0.f1), .int .i64 ((rd_T38 l1 x6_3).f4.f1.f0), .int .i64 ((rd_T38 l1 x6_3).f4.f1.f1), .int .i64 ((rd_T38 l1 x6_3).f4.f2.f0), .int .i64 ((rd_T38 l1 x6_3).f4.f2.f1), .int .i64 ((rd_T38 l1 x6_3).f5), .slice A348_11 ((rd_T38 l1 x6_3).f6).length c348_11, .int .i64 ((rd_T38 l1 x6_3).f7), .int .i64 ((rd_T38 l1 x6_3).f8.f0), .int .i64 ((rd_T38 l1 x6_3).f8.f1), .int .i64 ((rd_T38 l1 x6_3).f8.f2), .bool ((rd_T38 l1 x6_3).f9), .int .i64 ((rd_T38 l1 x6_3).f10)] ?le111 ?lc111 Tryd.underlying38 rfl ?ld111; (case la111 => exact rfl); (case lb111 => exact rfl); (case le111 => exact s0); (case lc111 => exact ⟨s1, s2, s3, s4, s5, s6, s7, s8, s9, s10, s11, s12, s13, s14, s15, s16, s17, trivial⟩); (case ld111 => kernel_rfl))
                  | (refine exec_load_elem 38 ?lx112 ?la112 ad346 ((x5_2).toNat * 18) ?lb112 (.string ((rd_T38 l1 x5_2).f0)) [.string ((rd_T38 l1 x5_2).f1), .string ((rd_T38 l1 x5_2).f2), .int .i64 ((rd_T38 l1 x5_2).f3), .int .i64 ((rd_T38 l1 x5_2).f4.f0.f0), .int .i64 ((rd_T38 l1 x5_2).f4.f0.f1), .int .i64 ((rd_T38 l1 x5_2).f4.f1.f0), .int .i64 ((rd_T38 l1 x5_2).f4.f1.f1), .int .i64 ((rd_T38 l1 x5_2).f4.f2.f0), .int .i64 ((rd_T38 l1 x5_2).f4.f2.f1), .int .i64 ((rd_T38 l1 x5_2).f5), .slice A349_11 ((rd_T38 l1 x5_2).f6).length c349_11, .int .i64 ((rd_T38 l1 x5_2).f7), .int .i64 ((rd_T38 l1 x5_2).f8.f0), .int .i64 ((rd_T38 l1 x5_2).f8.f1), .int .i64 ((rd_T38 l1 x5_2).f8.f2), .bool ((rd_T38 l1 x5_2).f9), .int .i64 ((rd_T38 l1 x5_2).f10)] ?le112 ?lc112 Tryd.underlying38 rfl ?ld112; (case la112 => exact rfl); (case lb112 => exact rfl); (case le112 => exact s18); (case lc112 => exact ⟨s19, s20, s21, s22, s23, s24, s25, s26, s27, s28, s29, s30, s31, s32, s33, s34, s35, trivial⟩); (case ld112 => kernel_rfl))
                  | (go_simp; with_reducible rfl)
                 rotate_left
                 ·simp only [Act.put, List.setIfInBounds_toArray, List.set_cons_zero, List.set_cons_succ, i64_w, i32_w]
                  rfl
                 refine pure_ (i := 10) (N := some 52) (v := ?_) (a' := ?_) #[true, true, true, true, true, true, true, true, true, true, true] rfl rfl (any_of HT_.out (by kernel_rfl)) (fun _ _ _ h => h) (Or.inl ⟨by rfl, ?_⟩) ?_ ?_
                 rotate_left
                 ·intro w'
                  go_simp
                  with_reducible rfl
                 rotate_left
                 ·simp only [Act.put, List.setIfInBounds_toArray, List.set_cons_zero, List.set_cons_succ, i64_w, i32_w]
                  rfl
                 refine done_ (done_of HT_.out (by kernel_rfl)) ?_
                 try go_wp2
                 go_roundg k3
                 case measure => have := HJ2.out; have := HK2.out; have := HK3.out; omega
                 case rel => exact ⟨(wrap64 (x6_3 + 1)), (by first | rfl | (simp; done) | (simp [*]; done)), H', ⟨by have := HJ2.out; have := HK2.out; have := HK3.out; omega⟩, ⟨by (with_reducible repeat (first | refine bN ?_ _ | refine bW ?_ | refine bA ?_ _)); exact BK342.out⟩, ⟨by repeat (first | (with_reducible first | exact HB.out | apply pA | apply pN | apply p1 | refine pS ?_ GE342.out) | exact HB.out)⟩⟩
               ·rw [if_neg c33] at H
                exact absurd H (by simp)
              ·rw [if_neg c32] at H
               exact absurd H (by simp)
             ·rw [if_neg c31] at H
              exact absurd H (by simp)
            ·rw [if_neg c30] at H
             exact absurd H (by simp)
           ·rw [if_neg c29] at H
            have c29b0 : decide (x6_3 < x5_2) = false := decide_eq_false c29
            clear c29
            have H' := Aside0.mk H
            clear H
            go_wp2
            go_roundg k3
            case measure => have := HJ2.out; have := HK2.out; have := HK3.out; omega
            case rel => exact ⟨(wrap64 (x5_2 + 1)), (by first | rfl | (simp; done) | (simp [*]; done)), H', ⟨by have := HJ2.out; have := HK2.out; have := HK3.out; omega⟩, ⟨by (with_reducible repeat (first | refine bN ?_ _ | refine bW ?_ | refine bA ?_ _)); exact BK342.out⟩, ⟨by repeat (first | (with_reducible first | exact HB.out | apply pA | apply pN | apply p1 | refine pS ?_ GE342.out) | exact HB.out)⟩⟩
        ·rw [if_neg c26] at H
         have c26b0 : (t347 == 0) = false := oC c26
         have c26b1 : (t347 != 0) = true := bne_iff_ne.mpr c26
         obtain rfl := Option.some.inj H
         try go_wp2
         have n0_ := q_ (bW BK342.out)
         have n1_ := q_ (p1 HB.out)
         clear BK342
         clear HB
         have BK342 := n0_
         have HB := n1_
         clear n0_ n1_
         have p346 : 0 ≤ (x5_2 : Int) := of_decide_eq_true (by first | (with_reducible assumption) | assumption)
         have q346 : x5_2 < (l1.length : Int) := of_decide_eq_true (by first | (with_reducible assumption) | assumption)
         obtain ⟨ad346, A346_11, c346_11, e346, hx346_0, hx346_1, hx346_2, hx346_3, hx346_4, hx346_5, hx346_6, hx346_7, hx346_8, hx346_9, hx346_10, hx346_11, hx346_12, hx346_13, hx346_14, hx346_15, hx346_16, hx346_17, hl346_11, hi346_11⟩ := at_T38 HR1.out x5_2 p346 q346
         have hw346_17 := hx346_17
         have hw346_16 := hx346_16
         have hw346_15 := hx346_15
         have hw346_14 := hx346_14
         have hw346_13 := hx346_13
         have hw346_12 := hx346_12
         have hw346_11 := hx346_11
         have hw346_10 := hx346_10
         have hw346_9 := hx346_9
         have hw346_8 := hx346_8
         have hw346_7 := hx346_7
         have hw346_6 := hx346_6
         have hw346_5 := hx346_5
         have hw346_4 := hx346_4
         have hw346_3 := hx346_3
         have hw346_2 := hx346_2
         have hw346_1 := hx346_1
         have hw346_0 := hx346_0
         cases e346
         replace hx346_0 := (HB.out.cell (World.block_lt_of_cell? w _ hx346_0)).trans hx346_0
         replace hx346_1 := (HB.out.cell (World.block_lt_of_cell? w _ hx346_1)).trans hx346_1
         replace hx346_2 := (HB.out.cell (World.block_lt_of_cell? w _ hx346_2)).trans hx346_2
         replace hx346_3 := (HB.out.cell (World.block_lt_of_cell? w _ hx346_3)).trans hx346_3
         replace hx346_4 := (HB.out.cell (World.block_lt_of_cell? w _ hx346_4)).trans hx346_4
         replace hx346_5 := (HB.out.cell (World.block_lt_of_cell? w _ hx346_5)).trans hx346_5
         replace hx346_6 := (HB.out.cell (World.block_lt_of_cell? w _ hx346_6)).trans hx346_6
         replace hx346_7 := (HB.out.cell (World.block_lt_of_cell? w _ hx346_7)).trans hx346_7
         replace hx346_8 := (HB.out.cell (World.block_lt_of_cell? w _ hx346_8)).trans hx346_8
         replace hx346_9 := (HB.out.cell (World.block_lt_of_cell? w _ hx346_9)).trans hx346_9
         replace hx346_10 := (HB.out.cell (World.block_lt_of_cell? w _ hx346_10)).trans hx346_10
         replace hx346_11 := (HB.out.cell (World.block_lt_of_cell? w _ hx346_11)).trans hx346_11
         replace hx346_12 := (HB.out.cell (World.block_lt_of_cell? w _ hx346_12)).trans hx346_12
         replace hx346_13 := (HB.out.cell (World.block_lt_of_cell? w _ hx346_13)).trans hx346_13
         replace hx346_14 := (HB.out.cell (World.block_lt_of_cell? w _ hx346_14)).trans hx346_14
         replace hx346_15 := (HB.out.cell (World.block_lt_of_cell? w _ hx346_15)).trans hx346_15
         replace hx346_16 := (HB.out.cell (World.block_lt_of_cell? w _ hx346_16)).trans hx346_16
         replace hx346_17 := (HB.out.cell (World.block_lt_of_cell? w _ hx346_17)).trans hx346_17
         have HR346_11 := Aside0.mk hi346_11
         have HC346_11 := Aside0.mk hl346_11
         clear hi346_11 hl346_11
         replace p346 := eq_true p346
         replace q346 := eq_true q346
         refine start_ (n := 7) (S := fun w' => w'.cell? ⟨gb342, 0, none⟩ = some (.string a0_0) ∧ w'.cell? ⟨gb342, 1, none⟩ = some (.string a0_1) ∧ w'.cell? ⟨gb342, 2, none⟩ = some (.int .i64 a0_2) ∧ w'.cell? ⟨gb342, 3, none⟩ = some (.int .i64 a0_3) ∧ w'.cell? ⟨gb342, 4, none⟩ = some (.int .i64 a0_4) ∧ w'.cell? ⟨gb342, 5, none⟩ = some (.int .i64 a0_5) ∧ w'.cell? ⟨gb342, 6, none⟩ = some (.int .i64 a0_6) ∧ w'.cell? ⟨gb342, 7, none⟩ = some (.int .i64 a0_7) ∧ w'.cell? ⟨gb342, 8, none⟩ = some (.int .i64 a0_8) ∧ w'.cell? ⟨gb342, 9, none⟩ = some (.int .i64 a0_9) ∧ w'.cell? ⟨gb342, 10, none⟩ = some (.int .i64 a0_10) ∧ w'.cell? (ad346.add ((x5_2).toNat * 18)) = some (.string ((rd_T38 l1 x5_2).f0)) ∧ w'.cell? ⟨(ad346.add ((x5_2).toNat * 18)).block, (ad346.add ((x5_2).toNat * 18)).off + 1, none⟩ = some (.string ((rd_T38 l1 x5_2).f1)) ∧ w'.cell? ⟨(ad346.add ((x5_2).toNat * 18)).block, (ad346.add ((x5_2).toNat * 18)).off + 2, none⟩ = some (.string ((rd_T38 l1 x5_2).f2)) ∧ w'.cell? ⟨(ad346.add ((x5_2).toNat * 18)).block, (ad346.add ((x5_2).toNat * 18)).off + 3, none⟩ = some (.int .i64 ((rd_T38 l1 x5_2).f3)) ∧ w'.cell? ⟨(ad346.add ((x5_2).toNat * 18)).block, (ad346.add ((x5_2).toNat * 18)).off + 4, none⟩ = some (.int .i64 ((rd_T38 l1 x5_2).f4.f0.f0)) ∧ w'.cell? ⟨(ad346.add ((x5_2).toNat * 18)).block, (ad346.add ((x5_2).toNat * 18)).off + 5, none⟩ = some (.int .i64 ((rd_T38 l1 x5_2).f4.f0.f1)) ∧ w'.cell? ⟨(ad346.add ((x5_2).toNat * 18)).block, (ad346.add ((x5_2).toNat * 18)).off + 6, none⟩ = some (.int .i64 ((rd_T38 l1 x5_2).f4.f1.f0)) ∧ w'.cell? ⟨(ad346.add ((x5_2).toNat * 18)).block, (ad346.add ((x5_2).toNat * 18)).off + 7, none⟩ = some (.int .i64 ((rd_T38 l1 x5_2).f4.f1.f1)) ∧ w'.cell? ⟨(ad346.add ((x5_2).toNat * 18)).block, (ad346.add ((x5_2).toNat * 18)).off + 8, none⟩ = some (.int .i64 ((rd_T38 l1 x5_2).f4.f2.f0)) ∧ w'.cell? ⟨(ad346.add ((x5_2).toNat * 18)).block, (ad346.add ((x5_2).toNat * 18)).off + 9, none⟩ = some (.int .i64 ((rd_T38 l1 x5_2).f4.f2.f1)) ∧ w'.cell? ⟨(ad346.add ((x5_2).toNat * 18)).block, (ad346.add ((x5_2).toNat * 18)).off + 10, none⟩ = some (.int .i64 ((rd_T38 l1 x5_2).f5)) ∧ w'.cell? ⟨(ad346.add ((x5_2).toNat * 18)).block, (ad346.add ((x5_2).toNat * 18)).off + 11, none⟩ = some (.slice A346_11 ((rd_T38 l1 x5_2).f6).length c346_11) ∧ w'.cell? ⟨(ad346.add ((x5_2).toNat * 18)).block, (ad346.add ((x5_2).toNat * 18)).off + 12, none⟩ = some (.int .i64 ((rd_T38 l1 x5_2).f7)) ∧ w'.cell? ⟨(ad346.add ((x5_2).toNat * 18)).block, (ad346.add ((x5_2).toNat * 18)).off + 13, none⟩ = some (.int .i64 ((rd_T38 l1 x5_2).f8.f0)) ∧ w'.cell? ⟨(ad346.add ((x5_2).toNat * 18)).block, (ad346.add ((x5_2).toNat * 18)).off + 14, none⟩ = some (.int .i64 ((rd_T38 l1 x5_2).f8.f1)) ∧ w'.cell? ⟨(ad346.add ((x5_2).toNat * 18)).block, (ad346.add ((x5_2).toNat * 18)).off + 15, none⟩ = some (.int .i64 ((rd_T38 l1 x5_2).f8.f2)) ∧ w'.cell? ⟨(ad346.add ((x5_2).toNat * 18)).block, (ad346.add ((x5_2).toNat * 18)).off + 16, none⟩ = some (.bool ((rd_T38 l1 x5_2).f9)) ∧ w'.cell? ⟨(ad346.add ((x5_2).toNat * 18)).block, (ad346.add ((x5_2).toNat * 18)).off + 17, none⟩ = some (.int .i64 ((rd_T38 l1 x5_2).f10))) (ds := []) #[false, false, false, false, false, false, false] (by kernel_rfl) rfl rfl ⟨(bC BK342.out 0).trans rfl, (bC BK342.out 1).trans rfl, (bC BK342.out 2).trans rfl, (bC BK342.out 3).trans rfl, (bC BK342.out 4).trans rfl, (bC BK342.out 5).trans rfl, (bC BK342.out 6).trans rfl, (bC BK342.out 7).trans rfl, (bC BK342.out 8).trans rfl, (bC BK342.out 9).trans rfl, (bC BK342.out 10).trans rfl, ((HB.out.cell (World.block_lt_of_cell? w _ hw346_0)).trans hw346_0), ((HB.out.cell (World.block_lt_of_cell? w _ hw346_1)).trans hw346_1), ((HB.out.cell (World.block_lt_of_cell? w _ hw346_2)).trans hw346_2), ((HB.out.cell (World.block_lt_of_cell? w _ hw346_3)).trans hw346_3), ((HB.out.cell (World.block_lt_of_cell? w _ hw346_4)).trans hw346_4), ((HB.out.cell (World.block_lt_of_cell? w _ hw346_5)).trans hw346_5), ((HB.out.cell (World.block_lt_of_cell? w _ hw346_6)).trans hw346_6), ((HB.out.cell (World.block_lt_of_cell? w _ hw346_7)).trans hw346_7), ((HB.out.cell (World.block_lt_of_cell? w _ hw346_8)).trans hw346_8), ((HB.out.cell (World.block_lt_of_cell? w _ hw346_9)).trans hw346_9), ((HB.out.cell (World.block_lt_of_cell? w _ hw346_10)).trans hw346_10), ((HB.out.cell (World.block_lt_of_cell? w _ hw346_11)).trans hw346_11), ((HB.out.cell (World.block_lt_of_cell? w _ hw346_12)).trans hw346_12), ((HB.out.cell (World.block_lt_of_cell? w _ hw346_13)).trans hw346_13), ((HB.out.cell (World.block_lt_of_cell? w _ hw346_14)).trans hw346_14), ((HB.out.cell (World.block_lt_of_cell? w _ hw346_15)).trans hw346_15), ((HB.out.cell (World.block_lt_of_cell? w _ hw346_16)).trans hw346_16), ((HB.out.cell (World.block_lt_of_cell? w _ hw346_17)).trans hw346_17)⟩ (fun hHeld => ?_)
         generalize wr.drew = w37 at BK342 HB HR346_11 hx346_0 hx346_1 hx346_10 hx346_11 hx346_12 hx346_13 hx346_14 hx346_15 hx346_16 hx346_17 hx346_2 hx346_3 hx346_4 hx346_5 hx346_6 hx346_7 hx346_8 hx346_9 hHeld ⊢
         refine pure_ (i := 1) (N := some 31) (v := ?_) (a' := ?_) #[false, true, false, false, false, false, false] rfl rfl (by kernel_rfl) (fun _ _ _ h => h) (Or.inl ⟨by rfl, ?_⟩) ?_ ?_
         rotate_left
         ·intro w'
          go_simp
          with_reducible rfl
         rotate_left
         ·simp only [Act.put, List.setIfInBounds_toArray, List.set_cons_zero, List.set_cons_succ, i64_w, i32_w]
          rfl
         refine pure_ (i := 2) (N := some 32) (v := ?_) (a' := ?_) #[false, true, true, false, false, false, false] rfl rfl (by kernel_rfl) (fun _ _ _ h => h) (Or.inl ⟨by rfl, ?_⟩) ?_ ?_
         rotate_left
         ·intro w'
          go_simp
          with_reducible rfl
         rotate_left
         ·simp only [Act.put, List.setIfInBounds_toArray, List.set_cons_zero, List.set_cons_succ, i64_w, i32_w]
          rfl
         refine pure_ (i := 3) (N := some 33) (v := ?_) (a' := ?_) #[false, true, true, true, false, false, false] rfl rfl (by kernel_rfl) (fun _ _ _ h => h) (Or.inl ⟨by rfl, ?_⟩) ?_ ?_
         rotate_left
         ·intro w'
          go_simp
          with_reducible rfl
         rotate_left
         ·simp only [Act.put, List.setIfInBounds_toArray, List.set_cons_zero, List.set_cons_succ, i64_w, i32_w]
          rfl
         refine take_ (i := 0) (N := some 30) (v := ?_) (a' := ?_) #[true, true, true, true, false, false, false] rfl rfl (by kernel_rfl) (fun _ _ _ h => h) (Or.inl ⟨by rfl, ?_⟩) hHeld ?_ ?_
         rotate_left
         ·rintro w' ⟨s0, s1, s2, s3, s4, s5, s6, s7, s8, s9, s10, s11, s12, s13, s14, s15, s16, s17, s18, s19, s20, s21, s22, s23, s24, s25, s26, s27, s28⟩
          first
          | (refine exec_load_cells 23 ?lx113 ?la113 gb342 ?lb113 #[.string a0_0, .string a0_1, .int .i64 a0_2, .int .i64 a0_3, .int .i64 a0_4, .int .i64 a0_5, .int .i64 a0_6, .int .i64 a0_7, .int .i64 a0_8, .int .i64 a0_9, .int .i64 a0_10] _ ?lc113 Tryd.underlying23 rfl ?ld113; (case la113 => exact rfl); (case lb113 => exact rfl); (case lc113 => exact ⟨s0, s1, s2, s3, s4, s5, s6, s7, s8, s9, s10, trivial⟩); (case ld113 => kernel_rfl))
          | (refine exec_load_elem 38 ?lx114 ?la114 ad346 ((x5_2).toNat * 18) ?lb114 (.string ((rd_T38 l1 x5_2).f0)) [.string ((rd_T38 l1 x5_2).f1), .string ((rd_T38 l1 x5_2).f2), .int .i64 ((rd_T38 l1 x5_2).f3), .int .i64 ((rd_T38 l1 x5_2).f4.f0.f0), .int .i64 ((rd_T38 l1 x5_2).f4.f0.f1), .int .i64 ((rd_T38 l1 x5_2).f4.f1.f0), .int .i64 ((rd_T38 l1 x5_2).f4.f1.f1), .int .i64 ((rd_T38 l1 x5_2).f4.f2.f0), .int .i64 ((rd_T38 l1 x5_2).f4.f2.f1), .int .i64 ((rd_T38 l1 x5_2).f5), .slice A346_11 ((rd_T38 l1 x5_2).f6).length c346_11, .int .i64 ((rd_T38 l1 x5_2).f7), .int .i64 ((rd_T38 l1 x5_2).f8.f0), .int .i64 ((rd_T38 l1 x5_2).f8.f1), .int .i64 ((rd_T38 l1 x5_2).f8.f2), .bool ((rd_T38 l1 x5_2).f9), .int .i64 ((rd_T38 l1 x5_2).f10)] ?le114 ?lc114 Tryd.underlying38 rfl ?ld114; (case la114 => exact rfl); (case lb114 => exact rfl); (case le114 => exact s11); (case lc114 => exact ⟨s12, s13, s14, s15, s16, s17, s18, s19, s20, s21, s22, s23, s24, s25, s26, s27, s28, trivial⟩); (case ld114 => kernel_rfl))
          | (go_simp; with_reducible rfl)
         rotate_left
         ·simp only [Act.put, List.setIfInBounds_toArray, List.set_cons_zero, List.set_cons_succ, i64_w, i32_w]
          rfl
         refine take_ (i := 4) (N := some 34) (v := ?_) (a' := ?_) #[true, true, true, true, true, false, false] rfl rfl (by kernel_rfl) (fun _ _ _ h => h) (Or.inl ⟨by rfl, ?_⟩) hHeld ?_ ?_
         rotate_left
         ·rintro w' ⟨s0, s1, s2, s3, s4, s5, s6, s7, s8, s9, s10, s11, s12, s13, s14, s15, s16, s17, s18, s19, s20, s21, s22, s23, s24, s25, s26, s27, s28⟩
          first
          | (refine exec_load_cells 23 ?lx115 ?la115 gb342 ?lb115 #[.string a0_0, .string a0_1, .int .i64 a0_2, .int .i64 a0_3, .int .i64 a0_4, .int .i64 a0_5, .int .i64 a0_6, .int .i64 a0_7, .int .i64 a0_8, .int .i64 a0_9, .int .i64 a0_10] _ ?lc115 Tryd.underlying23 rfl ?ld115; (case la115 => exact rfl); (case lb115 => exact rfl); (case lc115 => exact ⟨s0, s1, s2, s3, s4, s5, s6, s7, s8, s9, s10, trivial⟩); (case ld115 => kernel_rfl))
          | (refine exec_load_elem 38 ?lx116 ?la116 ad346 ((x5_2).toNat * 18) ?lb116 (.string ((rd_T38 l1 x5_2).f0)) [.string ((rd_T38 l1 x5_2).f1), .string ((rd_T38 l1 x5_2).f2), .int .i64 ((rd_T38 l1 x5_2).f3), .int .i64 ((rd_T38 l1 x5_2).f4.f0.f0), .int .i64 ((rd_T38 l1 x5_2).f4.f0.f1), .int .i64 ((rd_T38 l1 x5_2).f4.f1.f0), .int .i64 ((rd_T38 l1 x5_2).f4.f1.f1), .int .i64 ((rd_T38 l1 x5_2).f4.f2.f0), .int .i64 ((rd_T38 l1 x5_2).f4.f2.f1), .int .i64 ((rd_T38 l1 x5_2).f5), .slice A346_11 ((rd_T38 l1 x5_2).f6).length c346_11, .int .i64 ((rd_T38 l1 x5_2).f7), .int .i64 ((rd_T38 l1 x5_2).f8.f0), .int .i64 ((rd_T38 l1 x5_2).f8.f1), .int .i64 ((rd_T38 l1 x5_2).f8.f2), .bool ((rd_T38 l1 x5_2).f9), .int .i64 ((rd_T38 l1 x5_2).f10)] ?le116 ?lc116 Tryd.underlying38 rfl ?ld116; (case la116 => exact rfl); (case lb116 => exact rfl); (case le116 => exact s11); (case lc116 => exact ⟨s12, s13, s14, s15, s16, s17, s18, s19, s20, s21, s22, s23, s24, s25, s26, s27, s28, trivial⟩); (case ld116 => kernel_rfl))
          | (go_simp; with_reducible rfl)
         rotate_left
         ·simp only [Act.put, List.setIfInBounds_toArray, List.set_cons_zero, List.set_cons_succ, i64_w, i32_w]
          rfl
         refine one_ (i := 5) (N := some 35) #[true, true, true, true, true, true, false] rfl rfl (by kernel_rfl) (by decide) (fun K hK => ?_)
         refine goes_ Tryd.func15 (by kernel_rfl) rfl #[.agg #[.string a0_0, .string a0_1, .int .i64 a0_2, .int .i64 a0_3, .int .i64 a0_4, .int .i64 a0_5, .int .i64 a0_6, .int .i64 a0_7, .int .i64 a0_8, .int .i64 a0_9, .int .i64 a0_10], .agg #[.string ((rd_T38 l1 x5_2).f0), .string ((rd_T38 l1 x5_2).f1), .string ((rd_T38 l1 x5_2).f2), .int .i64 ((rd_T38 l1 x5_2).f3), .int .i64 ((rd_T38 l1 x5_2).f4.f0.f0), .int .i64 ((rd_T38 l1 x5_2).f4.f0.f1), .int .i64 ((rd_T38 l1 x5_2).f4.f1.f0), .int .i64 ((rd_T38 l1 x5_2).f4.f1.f1), .int .i64 ((rd_T38 l1 x5_2).f4.f2.f0), .int .i64 ((rd_T38 l1 x5_2).f4.f2.f1), .int .i64 ((rd_T38 l1 x5_2).f5), .slice A346_11 ((rd_T38 l1 x5_2).f6).length c346_11, .int .i64 ((rd_T38 l1 x5_2).f7), .int .i64 ((rd_T38 l1 x5_2).f8.f0), .int .i64 ((rd_T38 l1 x5_2).f8.f1), .int .i64 ((rd_T38 l1 x5_2).f8.f2), .bool ((rd_T38 l1 x5_2).f9), .int .i64 ((rd_T38 l1 x5_2).f10)]] (by rfl) rfl rfl (by first | rfl | (simp only [List.map_toArray]; rfl)) ?_
         with_reducible refine (sawmillref46_Fits.calls k2 a0_0 a0_1 a0_2 a0_3 a0_4 a0_5 a0_6 a0_7 a0_8 a0_9 a0_10 ((rd_T38 l1 x5_2).f0) ((rd_T38 l1 x5_2).f1) ((rd_T38 l1 x5_2).f2) ((rd_T38 l1 x5_2).f3) ((rd_T38 l1 x5_2).f4.f0.f0) ((rd_T38 l1 x5_2).f4.f0.f1) ((rd_T38 l1 x5_2).f4.f1.f0) ((rd_T38 l1 x5_2).f4.f1.f1) ((rd_T38 l1 x5_2).f4.f2.f0) ((rd_T38 l1 x5_2).f4.f2.f1) ((rd_T38 l1 x5_2).f5) _ _ ((rd_T38 l1 x5_2).f6) ((rd_T38 l1 x5_2).f7) ((rd_T38 l1 x5_2).f8.f0) ((rd_T38 l1 x5_2).f8.f1) ((rd_T38 l1 x5_2).f8.f2) ((rd_T38 l1 x5_2).f9) ((rd_T38 l1 x5_2).f10) t347 _ ?side1 ?side2 A25.out).mono ?_
         (case side1 => repeat (first | exact (Kd.C_below HR346_11.out HB.out) | (with_reducible refine Kd.C_alloc ?_ _) | (with_reducible refine Kd.C_drewN ?_ _) | (with_reducible refine Kd.C_drew ?_)))
         (case side2 => exact HC346_11.out)
         rintro e w38 ⟨rfl, hb⟩
         refine ⟨_, rfl, ?_⟩
         have n0_ := q_ (bB (g := gb342) (by (with_reducible repeat (first | refine bN ?_ _ | refine bW ?_ | refine bA ?_ _)); exact BK342.out) hb)
         have n1_ := q_ (pT (by repeat (first | (with_reducible first | exact HB.out | apply pA | apply pN | apply p1 | refine pS ?_ GE342.out) | exact HB.out)) hb)
         clear BK342
         clear HB
         have BK342 := n0_
         have HB := n1_
         clear n0_ n1_
         (try clear hb)
         (try clear hb2)
         (try clear hk)
         (try clear hi)
         refine hK.out _ _ ⟨(bC BK342.out 0).trans rfl, (bC BK342.out 1).trans rfl, (bC BK342.out 2).trans rfl, (bC BK342.out 3).trans rfl, (bC BK342.out 4).trans rfl, (bC BK342.out 5).trans rfl, (bC BK342.out 6).trans rfl, (bC BK342.out 7).trans rfl, (bC BK342.out 8).trans rfl, (bC BK342.out 9).trans rfl, (bC BK342.out 10).trans rfl, ((HB.out.cell (World.block_lt_of_cell? w _ hw346_0)).trans hw346_0), ((HB.out.cell (World.block_lt_of_cell? w _ hw346_1)).trans hw346_1), ((HB.out.cell (World.block_lt_of_cell? w _ hw346_2)).trans hw346_2), ((HB.out.cell (World.block_lt_of_cell? w _ hw346_3)).trans hw346_3), ((HB.out.cell (World.block_lt_of_cell? w _ hw346_4)).trans hw346_4), ((HB.out.cell (World.block_lt_of_cell? w _ hw346_5)).trans hw346_5), ((HB.out.cell (World.block_lt_of_cell? w _ hw346_6)).trans hw346_6), ((HB.out.cell (World.block_lt_of_cell? w _ hw346_7)).trans hw346_7), ((HB.out.cell (World.block_lt_of_cell? w _ hw346_8)).trans hw346_8), ((HB.out.cell (World.block_lt_of_cell? w _ hw346_9)).trans hw346_9), ((HB.out.cell (World.block_lt_of_cell? w _ hw346_10)).trans hw346_10), ((HB.out.cell (World.block_lt_of_cell? w _ hw346_11)).trans hw346_11), ((HB.out.cell (World.block_lt_of_cell? w _ hw346_12)).trans hw346_12), ((HB.out.cell (World.block_lt_of_cell? w _ hw346_13)).trans hw346_13), ((HB.out.cell (World.block_lt_of_cell? w _ hw346_14)).trans hw346_14), ((HB.out.cell (World.block_lt_of_cell? w _ hw346_15)).trans hw346_15), ((HB.out.cell (World.block_lt_of_cell? w _ hw346_16)).trans hw346_16), ((HB.out.cell (World.block_lt_of_cell? w _ hw346_17)).trans hw346_17)⟩ (fun hHeld => ?_)
         clear hK K
         refine norm_ (a' := ?_) ?_ ?_
         rotate_left
         ·show Act.put _ (some 35) _ = _
          simp only [Act.put, List.setIfInBounds_toArray, List.set_cons_zero, List.set_cons_succ, i64_w, i32_w]
          rfl
         refine pure_ (i := 6) (N := some 36) (v := ?_) (a' := ?_) #[true, true, true, true, true, true, true] rfl rfl (by kernel_rfl) (fun _ _ _ h => h) (Or.inl ⟨by rfl, ?_⟩) ?_ ?_
         rotate_left
         ·intro w'
          go_simp
          with_reducible rfl
         rotate_left
         ·simp only [Act.put, List.setIfInBounds_toArray, List.set_cons_zero, List.set_cons_succ, i64_w, i32_w]
          rfl
         refine done_ (by kernel_rfl) ?_
         try go_wp2
         go_ret
         exact ⟨by first | rfl | (simp [*] <;> rfl), by repeat (first | (with_reducible first | exact HB.out | apply pA | apply pN | apply p1 | refine pS ?_ GE342.out) | exact HB.out)⟩
       ·rw [if_neg c24] at H
        exact absurd H (by simp)
      ·rw [if_neg c23] at H
       have c23b0 : decide (x5_2 < (l1.length : Int)) = false := decide_eq_false c23
       clear c23
       obtain rfl := Option.some.inj H
       go_wp2
       go_ret
       exact ⟨by first | rfl | (simp [*] <;> rfl), by repeat (first | (with_reducible first | exact HB.out | apply pA | apply pN | apply p1 | refine pS ?_ GE342.out) | exact HB.out)⟩
end Go.Proofs.YtblmgmhjlbkncaaDoor.PA
namespace Go.Proofs.YtblmgmhjlbkncaaDoor.PA
open Go.RowKit Go.Proofs.YtblmgmhjlbkncaaDoorW.PrintWords Go.Proofs.YtblmgmhjlbkncaaDoorW.PrintLast Go.Proofs.YtblmgmhjlbkncaaDoorW.PrintMore
attribute [local go_sem] max2_int min2_int max_two min_two max_three min_three max_four min_four
set_option linter.unusedVariables false
set_option linter.unusedSimpArgs false
def sawmilllaw46_OrderFills.f (k : Nat) (a0_0 : ByteArray) (a0_1 : ByteArray) (a0_2 : Int) (a0_3 : Int) (a0_4 : Int) (a0_5 : Int) (a0_6 : Int) (a0_7 : Int) (a0_8 : Int) (a0_9 : Int) (a0_10 : Int) (l1 : List (S38)) : Option (Bool) := if (l1.length : Int) > 250 then ((sawmilllaw46_awake.f).bind fun t351 => (some t351)) else ((order_Filled.f k a0_0 a0_1 a0_2 a0_3 a0_4 a0_5 a0_6 a0_7 a0_8 a0_9 a0_10 l1).bind fun t352 => ((sawmillref46_Filled.f k a0_0 a0_1 a0_2 a0_3 a0_4 a0_5 a0_6 a0_7 a0_8 a0_9 a0_10 l1).bind fun t353 => (if (t352 == t353) = true then ((sawmilllaw46_awake.f).bind fun t354 => (some t354)) else (none))))
def sawmilllaw46_OrderFills.T1 : Bool × List (List Nat × List Nat) := (true, [([], []), ([0], [0]), ([1], [1]), ([2], [2]), ([3], [3]), ([3], [3]), ([4, 5, 3, 3], [3, 4, 5]), ([3], [3]), ([3], [3]), ([7, 8, 6, 3], [3, 7, 8]), ([6, 9, 3], [3, 6, 9]), ([3, 10], [3, 10]), ([11, 9], [11]), ([12, 12], [12]), ([12, 13], [12, 13]), ([14, 13, 0, 1, 2, 3, 4, 5, 6, 7, 8, 9, 10, 11, 12, 13, 14], [14])])
def sawmilllaw46_OrderFills.B1 : List Nat := [0, 1, 3, 7, 15, 15, 63, 15, 15, 511, 1023, 2047, 4095, 8191, 16383, 32767]
theorem sawmilllaw46_OrderFills.tab1 : rtab .any (opsOf Tryd.f5 1) = sawmilllaw46_OrderFills.T1 := by kernel_rfl
theorem sawmilllaw46_OrderFills.bits1 : waitsOk sawmilllaw46_OrderFills.T1.2 sawmilllaw46_OrderFills.B1 = true := by kernel_rfl
set_option maxHeartbeats 8000000 in
set_option maxRecDepth 100000 in
theorem sawmilllaw46_OrderFills.calls (k : Nat) (a0_0 : ByteArray) (a0_1 : ByteArray) (a0_2 : Int) (a0_3 : Int) (a0_4 : Int) (a0_5 : Int) (a0_6 : Int) (a0_7 : Int) (a0_8 : Int) (a0_9 : Int) (a0_10 : Int) (A1 : Option Addr) (c1 : Nat) (l1 : List (S38)) (r : Bool) (w : World) (hr1 : Kd.C k38 w A1 l1.length l1) (hc1 : l1.length ≤ c1) (h : sawmilllaw46_OrderFills.f k a0_0 a0_1 a0_2 a0_3 a0_4 a0_5 a0_6 a0_7 a0_8 a0_9 a0_10 l1 = some r) :
  Calls Tryd.prog 5 #[.agg #[.string a0_0, .string a0_1, .int .i64 a0_2, .int .i64 a0_3, .int .i64 a0_4, .int .i64 a0_5, .int .i64 a0_6, .int .i64 a0_7, .int .i64 a0_8, .int .i64 a0_9, .int .i64 a0_10], .slice A1 l1.length c1] w fun e w' => e = .returned (.bool r) ∧ Below w.heap.size w w' := by
 have hu23 := Tryd.underlying23
 have HR1 := Aside0.mk hr1
 have HC1 := Aside0.mk hc1
 clear hr1 hc1
 have HB := q_ (Below.refl w.heap.size w)
 have H : (if (l1.length : Int) > 250 then ((sawmilllaw46_awake.f).bind fun t351 => (some t351)) else ((order_Filled.f k a0_0 a0_1 a0_2 a0_3 a0_4 a0_5 a0_6 a0_7 a0_8 a0_9 a0_10 l1).bind fun t352 => ((sawmillref46_Filled.f k a0_0 a0_1 a0_2 a0_3 a0_4 a0_5 a0_6 a0_7 a0_8 a0_9 a0_10 l1).bind fun t353 => (if (t352 == t353) = true then ((sawmilllaw46_awake.f).bind fun t354 => (some t354)) else (none))))) = some r := h
 clear h
 by_cases c3 : (l1.length : Int) > 250
 ·rw [if_pos c3] at H
  have c3b0 : decide (250 < (l1.length : Int)) = true := decide_eq_true c3
  have c3b1 : decide (250 < l1.length) = true := decide_eq_true (by omega)
  clear c3
  replace H := oB H
  obtain ⟨t351, A40, H⟩ := H
  replace H : (some t351) = some r := H
  have A4 := Aside0.mk A40
  clear A40
  obtain rfl := Option.some.inj H
  go_enter Tryd.func5, Tryd.ntmps5
  try go_wp2_with (first | (refine wpList_load_cells (by rfl) 23 _ (by exact rfl) ⟨gb350, 0, none⟩ (by rfl) _ _ (cells_of_blk (by (with_reducible repeat (first | refine bN ?_ _ | refine bW ?_ | refine bA ?_ _)); exact BK350.out)) Tryd.underlying23 rfl (by kernel_rfl) ?_) | ((with_reducible refine gate_dst (N := 2) rfl ?_); refine box_event ?hg (N := 2) ?hd (cs := #[.string a0_0, .string a0_1, .int .i64 a0_2, .int .i64 a0_3, .int .i64 a0_4, .int .i64 a0_5, .int .i64 a0_6, .int .i64 a0_7, .int .i64 a0_8, .int .i64 a0_9, .int .i64 a0_10]) (t := 23) ?hr ?_; (case hd => rfl); (case hg => rfl); (case hr => first | (go_simp; done) | (go_simp; rfl)); intro gb350 hg w5 hbox hb; have n0_ := q_ (pT (by repeat (first | (with_reducible first | exact HB.out | apply pA | apply pN | apply p1) | exact HB.out)) hb); have n1_ := q_ (hbox); have n2_ := q_ ((by rw [hg]; exact (pZ (by repeat (first | (with_reducible first | exact HB.out | apply pA | apply pN | apply p1) | exact HB.out))) : w.heap.size ≤ gb350)); have n3_ := n2_; clear HB; have HB := n0_; have BK350 := n1_; have GW350 := n2_; have GE350 := n3_; clear n0_ n1_ n2_ n3_; clear hb hbox hg))
  have n0_ := q_ (bW BK350.out)
  have n1_ := q_ (p1 HB.out)
  clear BK350
  clear HB
  have BK350 := n0_
  have HB := n1_
  clear n0_ n1_
  refine start_ (n := 16) (S := fun w' => True) (ds := []) #[false, false, false, false, false, false, false, false, false, false, false, false, false, false, false, false] (by kernel_rfl) rfl rfl trivial (fun hHeld => ?_); refine with_tabW sawmilllaw46_OrderFills.tab1 sawmilllaw46_OrderFills.bits1 (fun HT_ HW_ => ?_)
  generalize w5.drew = w6 at BK350 HB hHeld ⊢
  refine pure_ (i := 0) (N := some 5) (v := ?_) (a' := ?_) #[true, false, false, false, false, false, false, false, false, false, false, false, false, false, false, false] rfl rfl (any_of HT_.out (by kernel_rfl)) (fun _ _ _ h => h) (Or.inl ⟨by rfl, ?_⟩) ?_ ?_
  rotate_left
  ·intro w'
   go_simp
   with_reducible rfl
  rotate_left
  ·simp only [Act.put, List.setIfInBounds_toArray, List.set_cons_zero, List.set_cons_succ, i64_w, i32_w]
   rfl
  refine pure_ (i := 1) (N := some 6) (v := ?_) (a' := ?_) #[true, true, false, false, false, false, false, false, false, false, false, false, false, false, false, false] rfl rfl (any_of HT_.out (by kernel_rfl)) (fun _ _ _ h => h) (Or.inl ⟨by rfl, ?_⟩) ?_ ?_
  rotate_left
  ·intro w'
   go_simp
   with_reducible rfl
  rotate_left
  ·simp only [Act.put, List.setIfInBounds_toArray, List.set_cons_zero, List.set_cons_succ, i64_w, i32_w]
   rfl
  refine pure_ (i := 2) (N := some 7) (v := ?_) (a' := ?_) #[true, true, true, false, false, false, false, false, false, false, false, false, false, false, false, false] rfl rfl (any_of HT_.out (by kernel_rfl)) (fun _ _ _ h => h) (Or.inl ⟨by rfl, ?_⟩) ?_ ?_
  rotate_left
  ·intro w'
   go_simp
   with_reducible rfl
  rotate_left
  ·simp only [Act.put, List.setIfInBounds_toArray, List.set_cons_zero, List.set_cons_succ, i64_w, i32_w]
   rfl
  refine pure_ (i := 3) (N := some 8) (v := ?_) (a' := ?_) #[true, true, true, true, false, false, false, false, false, false, false, false, false, false, false, false] rfl rfl (any_of HT_.out (by kernel_rfl)) (fun _ _ _ h => h) (Or.inl ⟨by rfl, ?_⟩) ?_ ?_
  rotate_left
  ·intro w'
   go_simp
   with_reducible rfl
  rotate_left
  ·simp only [Act.put, List.setIfInBounds_toArray, List.set_cons_zero, List.set_cons_succ, i64_w, i32_w]
   rfl
  refine pure_ (i := 4) (N := some 9) (v := undef) (a' := ?_) #[true, true, true, true, true, false, false, false, false, false, false, false, false, false, false, false] rfl rfl (any_of HT_.out (by kernel_rfl)) (fun _ _ _ h => h) (Or.inr ⟨by rfl, rfl⟩) ?_ ?_
  rotate_left
  ·simp only [Act.put, List.setIfInBounds_toArray, List.set_cons_zero, List.set_cons_succ, i64_w, i32_w]
   rfl
  refine pure_ (i := 5) (N := some 10) (v := undef) (a' := ?_) #[true, true, true, true, true, true, false, false, false, false, false, false, false, false, false, false] rfl rfl (any_of HT_.out (by kernel_rfl)) (fun _ _ _ h => h) (Or.inr ⟨by rfl, rfl⟩) ?_ ?_
  rotate_left
  ·simp only [Act.put, List.setIfInBounds_toArray, List.set_cons_zero, List.set_cons_succ, i64_w, i32_w]
   rfl
  refine pure_ (i := 6) (N := some 11) (v := undef) (a' := ?_) #[true, true, true, true, true, true, true, false, false, false, false, false, false, false, false, false] rfl rfl (any_of HT_.out (by kernel_rfl)) (fun _ _ _ h => h) (Or.inr ⟨by rfl, rfl⟩) ?_ ?_
  rotate_left
  ·simp only [Act.put, List.setIfInBounds_toArray, List.set_cons_zero, List.set_cons_succ, i64_w, i32_w]
   rfl
  refine pure_ (i := 7) (N := some 12) (v := undef) (a' := ?_) #[true, true, true, true, true, true, true, true, false, false, false, false, false, false, false, false] rfl rfl (any_of HT_.out (by kernel_rfl)) (fun _ _ _ h => h) (Or.inr ⟨by rfl, rfl⟩) ?_ ?_
  rotate_left
  ·simp only [Act.put, List.setIfInBounds_toArray, List.set_cons_zero, List.set_cons_succ, i64_w, i32_w]
   rfl
  refine pure_ (i := 8) (N := some 13) (v := undef) (a' := ?_) #[true, true, true, true, true, true, true, true, true, false, false, false, false, false, false, false] rfl rfl (any_of HT_.out (by kernel_rfl)) (fun _ _ _ h => h) (Or.inr ⟨by rfl, rfl⟩) ?_ ?_
  rotate_left
  ·simp only [Act.put, List.setIfInBounds_toArray, List.set_cons_zero, List.set_cons_succ, i64_w, i32_w]
   rfl
  refine pure_ (i := 9) (N := some 14) (v := undef) (a' := ?_) #[true, true, true, true, true, true, true, true, true, true, false, false, false, false, false, false] rfl rfl (any_of HT_.out (by kernel_rfl)) (fun _ _ _ h => h) (Or.inr ⟨by rfl, rfl⟩) ?_ ?_
  rotate_left
  ·simp only [Act.put, List.setIfInBounds_toArray, List.set_cons_zero, List.set_cons_succ, i64_w, i32_w]
   rfl
  refine pure_ (i := 10) (N := some 15) (v := undef) (a' := ?_) #[true, true, true, true, true, true, true, true, true, true, true, false, false, false, false, false] rfl rfl (any_of HT_.out (by kernel_rfl)) (fun _ _ _ h => h) (Or.inr ⟨by rfl, rfl⟩) ?_ ?_
  rotate_left
  ·simp only [Act.put, List.setIfInBounds_toArray, List.set_cons_zero, List.set_cons_succ, i64_w, i32_w]
   rfl
  refine pure_ (i := 11) (N := some 16) (v := ?_) (a' := ?_) #[true, true, true, true, true, true, true, true, true, true, true, true, false, false, false, false] rfl rfl (any_of HT_.out (by kernel_rfl)) (fun _ _ _ h => h) (Or.inl ⟨by rfl, ?_⟩) ?_ ?_
  rotate_left
  ·intro w'
   go_simp
   with_reducible rfl
  rotate_left
  ·simp only [Act.put, List.setIfInBounds_toArray, List.set_cons_zero, List.set_cons_succ, i64_w, i32_w]
   rfl
  refine pure_ (i := 12) (N := some 17) (v := ?_) (a' := ?_) #[true, true, true, true, true, true, true, true, true, true, true, true, true, false, false, false] rfl rfl (any_of HT_.out (by kernel_rfl)) (fun _ _ _ h => h) (Or.inl ⟨by rfl, ?_⟩) ?_ ?_
  rotate_left
  ·intro w'
   go_simp
   with_reducible rfl
  rotate_left
  ·simp only [Act.put, List.setIfInBounds_toArray, List.set_cons_zero, List.set_cons_succ, i64_w, i32_w]
   rfl
  refine one_ (i := 13) (N := some 18) #[true, true, true, true, true, true, true, true, true, true, true, true, true, true, false, false] rfl rfl (one_of HT_.out (by kernel_rfl)) (by decide) (fun K hK => ?_)
  refine goes_ Tryd.func11 (by kernel_rfl) rfl #[] (by rfl) rfl rfl (by first | rfl | (simp only [List.map_toArray]; rfl)) ?_
  with_reducible refine (sawmilllaw46_awake.calls  t351 _ A4.out).mono ?_
  rintro e w7 ⟨rfl, hb⟩
  refine ⟨_, rfl, ?_⟩
  have n0_ := q_ (bB (g := gb350) (by (with_reducible repeat (first | refine bN ?_ _ | refine bW ?_ | refine bA ?_ _)); exact BK350.out) hb)
  have n1_ := q_ (pT (by repeat (first | (with_reducible first | exact HB.out | apply pA | apply pN | apply p1 | refine pS ?_ GE350.out) | exact HB.out)) hb)
  clear BK350
  clear HB
  have BK350 := n0_
  have HB := n1_
  clear n0_ n1_
  (try clear hb)
  (try clear hb2)
  (try clear hk)
  (try clear hi)
  refine hK.out _ _ trivial (fun hHeld => ?_)
  clear hK K
  refine norm_ (a' := ?_) ?_ ?_
  rotate_left
  ·show Act.put _ (some 18) _ = _
   simp only [Act.put, List.setIfInBounds_toArray, List.set_cons_zero, List.set_cons_succ, i64_w, i32_w]
   rfl
  refine pure_ (i := 14) (N := some 19) (v := ?_) (a' := ?_) #[true, true, true, true, true, true, true, true, true, true, true, true, true, true, true, false] rfl rfl (any_of HT_.out (by kernel_rfl)) (fun _ _ _ h => h) (Or.inl ⟨by rfl, ?_⟩) ?_ ?_
  rotate_left
  ·intro w'
   go_simp
   with_reducible rfl
  rotate_left
  ·simp only [Act.put, List.setIfInBounds_toArray, List.set_cons_zero, List.set_cons_succ, i64_w, i32_w]
   rfl
  refine pure_ (i := 15) (N := some 4) (v := ?_) (a' := ?_) #[true, true, true, true, true, true, true, true, true, true, true, true, true, true, true, true] rfl rfl (any_of HT_.out (by kernel_rfl)) (fun _ _ _ h => h) (Or.inl ⟨by rfl, ?_⟩) ?_ ?_
  rotate_left
  ·intro w'
   go_simp
   with_reducible rfl
  rotate_left
  ·simp only [Act.put, List.setIfInBounds_toArray, List.set_cons_zero, List.set_cons_succ, i64_w, i32_w]
   rfl
  refine done_ (done_of HT_.out (by kernel_rfl)) ?_
  try go_wp2
  go_ret
  exact ⟨by first | rfl | (simp [*] <;> rfl), by repeat (first | (with_reducible first | exact HB.out | apply pA | apply pN | apply p1 | refine pS ?_ GE350.out) | exact HB.out)⟩
 ·rw [if_neg c3] at H
  have c3b0 : decide (250 < (l1.length : Int)) = false := decide_eq_false c3
  have c3b1 : decide (250 < l1.length) = false := decide_eq_false (by omega)
  clear c3
  replace H := oB H
  obtain ⟨t352, A80, H⟩ := H
  replace H : ((sawmillref46_Filled.f k a0_0 a0_1 a0_2 a0_3 a0_4 a0_5 a0_6 a0_7 a0_8 a0_9 a0_10 l1).bind fun t353 => (if (t352 == t353) = true then ((sawmilllaw46_awake.f).bind fun t354 => (some t354)) else (none))) = some r := H
  have A8 := Aside0.mk A80
  clear A80
  replace H := oB H
  obtain ⟨t353, A90, H⟩ := H
  replace H : (if (t352 == t353) = true then ((sawmilllaw46_awake.f).bind fun t354 => (some t354)) else (none)) = some r := H
  have A9 := Aside0.mk A90
  clear A90
  by_cases c10 : (t352 == t353) = true
  ·rw [if_pos c10] at H
   have c10b0 : (t352 == t353) = true := c10
   (try (have c10b1 : decide (t352 = t353) = true := by simpa using c10))
   (try (have c10b2 : (t352 == t353) = true := by simpa using c10))
   clear c10
   replace H := oB H
   obtain ⟨t354, A110, H⟩ := H
   replace H : (some t354) = some r := H
   have A11 := Aside0.mk A110
   clear A110
   obtain rfl := Option.some.inj H
   go_enter Tryd.func5, Tryd.ntmps5
   try go_wp2_with (first | (refine wpList_load_cells (by rfl) 23 _ (by exact rfl) ⟨gb350, 0, none⟩ (by rfl) _ _ (cells_of_blk (by (with_reducible repeat (first | refine bN ?_ _ | refine bW ?_ | refine bA ?_ _)); exact BK350.out)) Tryd.underlying23 rfl (by kernel_rfl) ?_) | ((with_reducible refine gate_dst (N := 2) rfl ?_); refine box_event ?hg (N := 2) ?hd (cs := #[.string a0_0, .string a0_1, .int .i64 a0_2, .int .i64 a0_3, .int .i64 a0_4, .int .i64 a0_5, .int .i64 a0_6, .int .i64 a0_7, .int .i64 a0_8, .int .i64 a0_9, .int .i64 a0_10]) (t := 23) ?hr ?_; (case hd => rfl); (case hg => rfl); (case hr => first | (go_simp; done) | (go_simp; rfl)); intro gb350 hg w12 hbox hb; have n0_ := q_ (pT (by repeat (first | (with_reducible first | exact HB.out | apply pA | apply pN | apply p1) | exact HB.out)) hb); have n1_ := q_ (hbox); have n2_ := q_ ((by rw [hg]; exact (pZ (by repeat (first | (with_reducible first | exact HB.out | apply pA | apply pN | apply p1) | exact HB.out))) : w.heap.size ≤ gb350)); have n3_ := n2_; clear HB; have HB := n0_; have BK350 := n1_; have GW350 := n2_; have GE350 := n3_; clear n0_ n1_ n2_ n3_; clear hb hbox hg))
   have n0_ := q_ (bW BK350.out)
   have n1_ := q_ (p1 HB.out)
   clear BK350
   clear HB
   have BK350 := n0_
   have HB := n1_
   clear n0_ n1_
   refine start_ (n := 16) (S := fun w' => w'.cell? ⟨gb350, 0, none⟩ = some (.string a0_0) ∧ w'.cell? ⟨gb350, 1, none⟩ = some (.string a0_1) ∧ w'.cell? ⟨gb350, 2, none⟩ = some (.int .i64 a0_2) ∧ w'.cell? ⟨gb350, 3, none⟩ = some (.int .i64 a0_3) ∧ w'.cell? ⟨gb350, 4, none⟩ = some (.int .i64 a0_4) ∧ w'.cell? ⟨gb350, 5, none⟩ = some (.int .i64 a0_5) ∧ w'.cell? ⟨gb350, 6, none⟩ = some (.int .i64 a0_6) ∧ w'.cell? ⟨gb350, 7, none⟩ = some (.int .i64 a0_7) ∧ w'.cell? ⟨gb350, 8, none⟩ = some (.int .i64 a0_8) ∧ w'.cell? ⟨gb350, 9, none⟩ = some (.int .i64 a0_9) ∧ w'.cell? ⟨gb350, 10, none⟩ = some (.int .i64 a0_10)) (ds := []) #[false, false, false, false, false, false, false, false, false, false, false, false, false, false, false, false] (by kernel_rfl) rfl rfl ⟨(bC BK350.out 0).trans rfl, (bC BK350.out 1).trans rfl, (bC BK350.out 2).trans rfl, (bC BK350.out 3).trans rfl, (bC BK350.out 4).trans rfl, (bC BK350.out 5).trans rfl, (bC BK350.out 6).trans rfl, (bC BK350.out 7).trans rfl, (bC BK350.out 8).trans rfl, (bC BK350.out 9).trans rfl, (bC BK350.out 10).trans rfl⟩ (fun hHeld => ?_); refine with_tabW sawmilllaw46_OrderFills.tab1 sawmilllaw46_OrderFills.bits1 (fun HT_ HW_ => ?_)
   generalize w12.drew = w13 at BK350 HB hHeld ⊢
   refine pure_ (i := 0) (N := some 5) (v := ?_) (a' := ?_) #[true, false, false, false, false, false, false, false, false, false, false, false, false, false, false, false] rfl rfl (any_of HT_.out (by kernel_rfl)) (fun _ _ _ h => h) (Or.inl ⟨by rfl, ?_⟩) ?_ ?_
   rotate_left
   ·intro w'
    go_simp
    with_reducible rfl
   rotate_left
   ·simp only [Act.put, List.setIfInBounds_toArray, List.set_cons_zero, List.set_cons_succ, i64_w, i32_w]
    rfl
   refine pure_ (i := 1) (N := some 6) (v := ?_) (a' := ?_) #[true, true, false, false, false, false, false, false, false, false, false, false, false, false, false, false] rfl rfl (any_of HT_.out (by kernel_rfl)) (fun _ _ _ h => h) (Or.inl ⟨by rfl, ?_⟩) ?_ ?_
   rotate_left
   ·intro w'
    go_simp
    with_reducible rfl
   rotate_left
   ·simp only [Act.put, List.setIfInBounds_toArray, List.set_cons_zero, List.set_cons_succ, i64_w, i32_w]
    rfl
   refine pure_ (i := 2) (N := some 7) (v := ?_) (a' := ?_) #[true, true, true, false, false, false, false, false, false, false, false, false, false, false, false, false] rfl rfl (any_of HT_.out (by kernel_rfl)) (fun _ _ _ h => h) (Or.inl ⟨by rfl, ?_⟩) ?_ ?_
   rotate_left
   ·intro w'
    go_simp
    with_reducible rfl
   rotate_left
   ·simp only [Act.put, List.setIfInBounds_toArray, List.set_cons_zero, List.set_cons_succ, i64_w, i32_w]
    rfl
   refine pure_ (i := 3) (N := some 8) (v := ?_) (a' := ?_) #[true, true, true, true, false, false, false, false, false, false, false, false, false, false, false, false] rfl rfl (any_of HT_.out (by kernel_rfl)) (fun _ _ _ h => h) (Or.inl ⟨by rfl, ?_⟩) ?_ ?_
   rotate_left
   ·intro w'
    go_simp
    with_reducible rfl
   rotate_left
   ·simp only [Act.put, List.setIfInBounds_toArray, List.set_cons_zero, List.set_cons_succ, i64_w, i32_w]
    rfl
   refine pure_ (i := 5) (N := some 10) (v := ?_) (a' := ?_) #[true, true, true, true, false, true, false, false, false, false, false, false, false, false, false, false] rfl rfl (any_of HT_.out (by kernel_rfl)) (fun _ _ _ h => h) (Or.inl ⟨by rfl, ?_⟩) ?_ ?_
   rotate_left
   ·intro w'
    go_simp
    with_reducible rfl
   rotate_left
   ·simp only [Act.put, List.setIfInBounds_toArray, List.set_cons_zero, List.set_cons_succ, i64_w, i32_w]
    rfl
   refine pure_ (i := 8) (N := some 13) (v := ?_) (a' := ?_) #[true, true, true, true, false, true, false, false, true, false, false, false, false, false, false, false] rfl rfl (any_of HT_.out (by kernel_rfl)) (fun _ _ _ h => h) (Or.inl ⟨by rfl, ?_⟩) ?_ ?_
   rotate_left
   ·intro w'
    go_simp
    with_reducible rfl
   rotate_left
   ·simp only [Act.put, List.setIfInBounds_toArray, List.set_cons_zero, List.set_cons_succ, i64_w, i32_w]
    rfl
   refine take_ (i := 4) (N := some 9) (v := ?_) (a' := ?_) #[true, true, true, true, true, true, false, false, true, false, false, false, false, false, false, false] rfl rfl (take_ofW HT_.out HW_.out (by kernel_rfl)) (fun _ _ _ h => h) (Or.inl ⟨by rfl, ?_⟩) hHeld ?_ ?_
   rotate_left
   ·rintro w' ⟨s0, s1, s2, s3, s4, s5, s6, s7, s8, s9, s10⟩
    first
    | (refine exec_load_cells 23 ?lx117 ?la117 gb350 ?lb117 #[.string a0_0, .string a0_1, .int .i64 a0_2, .int .i64 a0_3, .int .i64 a0_4, .int .i64 a0_5, .int .i64 a0_6, .int .i64 a0_7, .int .i64 a0_8, .int .i64 a0_9, .int .i64 a0_10] _ ?lc117 Tryd.underlying23 rfl ?ld117; (case la117 => exact rfl); (case lb117 => exact rfl); (case lc117 => exact ⟨s0, s1, s2, s3, s4, s5, s6, s7, s8, s9, s10, trivial⟩); (case ld117 => kernel_rfl))
    | (go_simp; with_reducible rfl)
   rotate_left
   ·simp only [Act.put, List.setIfInBounds_toArray, List.set_cons_zero, List.set_cons_succ, i64_w, i32_w]
    rfl
   refine take_ (i := 7) (N := some 12) (v := ?_) (a' := ?_) #[true, true, true, true, true, true, false, true, true, false, false, false, false, false, false, false] rfl rfl (take_ofW HT_.out HW_.out (by kernel_rfl)) (fun _ _ _ h => h) (Or.inl ⟨by rfl, ?_⟩) hHeld ?_ ?_
   rotate_left
   ·rintro w' ⟨s0, s1, s2, s3, s4, s5, s6, s7, s8, s9, s10⟩
    first
    | (refine exec_load_cells 23 ?lx118 ?la118 gb350 ?lb118 #[.string a0_0, .string a0_1, .int .i64 a0_2, .int .i64 a0_3, .int .i64 a0_4, .int .i64 a0_5, .int .i64 a0_6, .int .i64 a0_7, .int .i64 a0_8, .int .i64 a0_9, .int .i64 a0_10] _ ?lc118 Tryd.underlying23 rfl ?ld118; (case la118 => exact rfl); (case lb118 => exact rfl); (case lc118 => exact ⟨s0, s1, s2, s3, s4, s5, s6, s7, s8, s9, s10, trivial⟩); (case ld118 => kernel_rfl))
    | (go_simp; with_reducible rfl)
   rotate_left
   ·simp only [Act.put, List.setIfInBounds_toArray, List.set_cons_zero, List.set_cons_succ, i64_w, i32_w]
    rfl
   refine one_ (i := 6) (N := some 11) #[true, true, true, true, true, true, true, true, true, false, false, false, false, false, false, false] rfl rfl (one_of HT_.out (by kernel_rfl)) (by decide) (fun K hK => ?_)
   refine goes_ Tryd.func20 (by kernel_rfl) rfl #[.agg #[.string a0_0, .string a0_1, .int .i64 a0_2, .int .i64 a0_3, .int .i64 a0_4, .int .i64 a0_5, .int .i64 a0_6, .int .i64 a0_7, .int .i64 a0_8, .int .i64 a0_9, .int .i64 a0_10], .slice A1 l1.length c1] (by rfl) rfl rfl (by first | rfl | (simp only [List.map_toArray]; rfl)) ?_
   with_reducible refine (order_Filled.calls k a0_0 a0_1 a0_2 a0_3 a0_4 a0_5 a0_6 a0_7 a0_8 a0_9 a0_10 _ _ l1 t352 _ ?side1 ?side2 A8.out).mono ?_
   (case side1 => repeat (first | exact (Kd.C_below HR1.out HB.out) | (with_reducible refine Kd.C_alloc ?_ _) | (with_reducible refine Kd.C_drewN ?_ _) | (with_reducible refine Kd.C_drew ?_)))
   (case side2 => exact HC1.out)
   rintro e w14 ⟨rfl, hb⟩
   refine ⟨_, rfl, ?_⟩
   have n0_ := q_ (bB (g := gb350) (by (with_reducible repeat (first | refine bN ?_ _ | refine bW ?_ | refine bA ?_ _)); exact BK350.out) hb)
   have n1_ := q_ (pT (by repeat (first | (with_reducible first | exact HB.out | apply pA | apply pN | apply p1 | refine pS ?_ GE350.out) | exact HB.out)) hb)
   clear BK350
   clear HB
   have BK350 := n0_
   have HB := n1_
   clear n0_ n1_
   (try clear hb)
   (try clear hb2)
   (try clear hk)
   (try clear hi)
   refine hK.out _ _ ⟨(bC BK350.out 0).trans rfl, (bC BK350.out 1).trans rfl, (bC BK350.out 2).trans rfl, (bC BK350.out 3).trans rfl, (bC BK350.out 4).trans rfl, (bC BK350.out 5).trans rfl, (bC BK350.out 6).trans rfl, (bC BK350.out 7).trans rfl, (bC BK350.out 8).trans rfl, (bC BK350.out 9).trans rfl, (bC BK350.out 10).trans rfl⟩ (fun hHeld => ?_)
   clear hK K
   refine norm_ (a' := ?_) ?_ ?_
   rotate_left
   ·show Act.put _ (some 11) _ = _
    simp only [Act.put, List.setIfInBounds_toArray, List.set_cons_zero, List.set_cons_succ, i64_w, i32_w]
    rfl
   refine one_ (i := 9) (N := some 14) #[true, true, true, true, true, true, true, true, true, true, false, false, false, false, false, false] rfl rfl (one_of HT_.out (by kernel_rfl)) (by decide) (fun K hK => ?_)
   refine goes_ Tryd.func21 (by kernel_rfl) rfl #[.agg #[.string a0_0, .string a0_1, .int .i64 a0_2, .int .i64 a0_3, .int .i64 a0_4, .int .i64 a0_5, .int .i64 a0_6, .int .i64 a0_7, .int .i64 a0_8, .int .i64 a0_9, .int .i64 a0_10], .slice A1 l1.length c1] (by rfl) rfl rfl (by first | rfl | (simp only [List.map_toArray]; rfl)) ?_
   with_reducible refine (sawmillref46_Filled.calls k a0_0 a0_1 a0_2 a0_3 a0_4 a0_5 a0_6 a0_7 a0_8 a0_9 a0_10 _ _ l1 t353 _ ?side1 ?side2 A9.out).mono ?_
   (case side1 => repeat (first | exact (Kd.C_below HR1.out HB.out) | (with_reducible refine Kd.C_alloc ?_ _) | (with_reducible refine Kd.C_drewN ?_ _) | (with_reducible refine Kd.C_drew ?_)))
   (case side2 => exact HC1.out)
   rintro e w15 ⟨rfl, hb⟩
   refine ⟨_, rfl, ?_⟩
   have n0_ := q_ (bB (g := gb350) (by (with_reducible repeat (first | refine bN ?_ _ | refine bW ?_ | refine bA ?_ _)); exact BK350.out) hb)
   have n1_ := q_ (pT (by repeat (first | (with_reducible first | exact HB.out | apply pA | apply pN | apply p1 | refine pS ?_ GE350.out) | exact HB.out)) hb)
   clear BK350
   clear HB
   have BK350 := n0_
   have HB := n1_
   clear n0_ n1_
   (try clear hb)
   (try clear hb2)
   (try clear hk)
   (try clear hi)
   refine hK.out _ _ ⟨(bC BK350.out 0).trans rfl, (bC BK350.out 1).trans rfl, (bC BK350.out 2).trans rfl, (bC BK350.out 3).trans rfl, (bC BK350.out 4).trans rfl, (bC BK350.out 5).trans rfl, (bC BK350.out 6).trans rfl, (bC BK350.out 7).trans rfl, (bC BK350.out 8).trans rfl, (bC BK350.out 9).trans rfl, (bC BK350.out 10).trans rfl⟩ (fun hHeld => ?_)
   clear hK K
   refine norm_ (a' := ?_) ?_ ?_
   rotate_left
   ·show Act.put _ (some 14) _ = _
    simp only [Act.put, List.setIfInBounds_toArray, List.set_cons_zero, List.set_cons_succ, i64_w, i32_w]
    rfl
   refine pure_ (i := 10) (N := some 15) (v := ?_) (a' := ?_) #[true, true, true, true, true, true, true, true, true, true, true, false, false, false, false, false] rfl rfl (any_of HT_.out (by kernel_rfl)) (fun _ _ _ h => h) (Or.inl ⟨by rfl, ?_⟩) ?_ ?_
   rotate_left
   ·intro w'
    go_simp
    with_reducible rfl
   rotate_left
   ·simp only [Act.put, List.setIfInBounds_toArray, List.set_cons_zero, List.set_cons_succ, i64_w, i32_w]
    rfl
   refine pure_ (i := 11) (N := some 16) (v := ?_) (a' := ?_) #[true, true, true, true, true, true, true, true, true, true, true, true, false, false, false, false] rfl rfl (any_of HT_.out (by kernel_rfl)) (fun _ _ _ h => h) (Or.inl ⟨by rfl, ?_⟩) ?_ ?_
   rotate_left
   ·intro w'
    go_simp
    with_reducible rfl
   rotate_left
   ·simp only [Act.put, List.setIfInBounds_toArray, List.set_cons_zero, List.set_cons_succ, i64_w, i32_w]
    rfl
   refine pure_ (i := 12) (N := some 17) (v := ?_) (a' := ?_) #[true, true, true, true, true, true, true, true, true, true, true, true, true, false, false, false] rfl rfl (any_of HT_.out (by kernel_rfl)) (fun _ _ _ h => h) (Or.inl ⟨by rfl, ?_⟩) ?_ ?_
   rotate_left
   ·intro w'
    go_simp
    with_reducible rfl
   rotate_left
   ·simp only [Act.put, List.setIfInBounds_toArray, List.set_cons_zero, List.set_cons_succ, i64_w, i32_w]
    rfl
   refine one_ (i := 13) (N := some 18) #[true, true, true, true, true, true, true, true, true, true, true, true, true, true, false, false] rfl rfl (one_of HT_.out (by kernel_rfl)) (by decide) (fun K hK => ?_)
   refine goes_ Tryd.func11 (by kernel_rfl) rfl #[] (by rfl) rfl rfl (by first | rfl | (simp only [List.map_toArray]; rfl)) ?_
   with_reducible refine (sawmilllaw46_awake.calls  t354 _ A11.out).mono ?_
   rintro e w16 ⟨rfl, hb⟩
   refine ⟨_, rfl, ?_⟩
   have n0_ := q_ (bB (g := gb350) (by (with_reducible repeat (first | refine bN ?_ _ | refine bW ?_ | refine bA ?_ _)); exact BK350.out) hb)
   have n1_ := q_ (pT (by repeat (first | (with_reducible first | exact HB.out | apply pA | apply pN | apply p1 | refine pS ?_ GE350.out) | exact HB.out)) hb)
   clear BK350
   clear HB
   have BK350 := n0_
   have HB := n1_
   clear n0_ n1_
   (try clear hb)
   (try clear hb2)
   (try clear hk)
   (try clear hi)
   refine hK.out _ _ ⟨(bC BK350.out 0).trans rfl, (bC BK350.out 1).trans rfl, (bC BK350.out 2).trans rfl, (bC BK350.out 3).trans rfl, (bC BK350.out 4).trans rfl, (bC BK350.out 5).trans rfl, (bC BK350.out 6).trans rfl, (bC BK350.out 7).trans rfl, (bC BK350.out 8).trans rfl, (bC BK350.out 9).trans rfl, (bC BK350.out 10).trans rfl⟩ (fun hHeld => ?_)
   clear hK K
   refine norm_ (a' := ?_) ?_ ?_
   rotate_left
   ·show Act.put _ (some 18) _ = _
    simp only [Act.put, List.setIfInBounds_toArray, List.set_cons_zero, List.set_cons_succ, i64_w, i32_w]
    rfl
   refine pure_ (i := 14) (N := some 19) (v := ?_) (a' := ?_) #[true, true, true, true, true, true, true, true, true, true, true, true, true, true, true, false] rfl rfl (any_of HT_.out (by kernel_rfl)) (fun _ _ _ h => h) (Or.inl ⟨by rfl, ?_⟩) ?_ ?_
   rotate_left
   ·intro w'
    go_simp
    with_reducible rfl
   rotate_left
   ·simp only [Act.put, List.setIfInBounds_toArray, List.set_cons_zero, List.set_cons_succ, i64_w, i32_w]
    rfl
   refine pure_ (i := 15) (N := some 4) (v := ?_) (a' := ?_) #[true, true, true, true, true, true, true, true, true, true, true, true, true, true, true, true] rfl rfl (any_of HT_.out (by kernel_rfl)) (fun _ _ _ h => h) (Or.inl ⟨by rfl, ?_⟩) ?_ ?_
   rotate_left
   ·intro w'
    go_simp
    with_reducible rfl
   rotate_left
   ·simp only [Act.put, List.setIfInBounds_toArray, List.set_cons_zero, List.set_cons_succ, i64_w, i32_w]
    rfl
   refine done_ (done_of HT_.out (by kernel_rfl)) ?_
   try go_wp2
   go_ret
   exact ⟨by first | rfl | (simp [*] <;> rfl), by repeat (first | (with_reducible first | exact HB.out | apply pA | apply pN | apply p1 | refine pS ?_ GE350.out) | exact HB.out)⟩
  ·rw [if_neg c10] at H
   exact absurd H (by simp)
end Go.Proofs.YtblmgmhjlbkncaaDoor.PA
