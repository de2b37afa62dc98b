/- Each Go function that the law reaches as a Lean function, and that its call comes to that function's answer. -/
import Derived.Test.YtblmgmhjlbkncaaDoorCOrderFits4
import Derived.Test.YtblmgmhjlbkncaaDoorVOrderFits
import Derived.Test.YtblmgmhjlbkncaaDoorProg
import Derived.Test.YtblmgmhjlbkncaaDoorShelf
import Derived.Below
import Derived.Deep.Draws
import Derived.Deep.AppendLies
import Derived.Maps.AppendAt
import Derived.OwnWalk
import Derived.Laws.BytesArg
import Derived.Laws.MakeOwn
import Derived.Laws.OwnMore
import Derived.Deep.OwnRows
import Derived.Tactics
import Derived.Lib.ConvBytes
import Derived.Laws.Slices
import Derived.WalkKit
import Derived.KernelRfl
import Derived.RowKit3
import Derived.Deep.LoopGhost
import Derived.Deep.QuietTactic
import Derived.BigQuiet
import Derived.WideLaws
import Derived.Deep.DeepCutAuto
import Derived.Deep.CutBlock
import Derived.Deep.RegionHeld3
import Derived.Laws.Rows
import Derived.Lib.AppendStr
import Derived.ArgAppend
import Derived.Laws.IdiomCopy
import Derived.OrdersHeld
import Derived.Laws.BitsLemmas
import Derived.RowKit
import Derived.LoopN
import Derived.Laws.EntriesVeiled
import Derived.LaidSub
import Derived.MakeChecks
import Derived.Lib.LaidTab
import Derived.Maps.OwnOps
import Derived.Maps.Views
import Derived.Maps.Keyed
import Derived.Shelf.SlicesQ.Load
import Derived.Laws.Tables
namespace Go.Proofs.YtblmgmhjlbkncaaDoor.PA
open Go.RowKit Go.Proofs.YtblmgmhjlbkncaaDoorW.PrintWords Go.Proofs.YtblmgmhjlbkncaaDoorW.PrintLast Go.Proofs.YtblmgmhjlbkncaaDoorW.PrintMore
attribute [local go_sem] max2_int min2_int max_two min_two max_three min_three max_four min_four
set_option linter.unusedVariables false
set_option linter.unusedSimpArgs false
def sawmillref30_within.f (a0_0 : Int) (a0_1 : Int) (a1 : Int) (a2 : Int) : Option (Bool) := if a0_0 ≥ a1 then (if a0_0 ≤ a2 then (if a0_1 ≥ a1 then (some (decide (a0_1 ≤ a2))) else (some false)) else (some false)) else (some false)
set_option maxHeartbeats 8000000 in
set_option maxRecDepth 100000 in
theorem sawmillref30_within.calls (a0_0 : Int) (a0_1 : Int) (a1 : Int) (a2 : Int) (r : Bool) (w : World) (h : sawmillref30_within.f a0_0 a0_1 a1 a2 = some r) :
  Calls Tryd.prog 71 #[.agg #[.int .i64 a0_0, .int .i64 a0_1], .int .i64 a1, .int .i64 a2] w fun e w' => e = .returned (.bool r) ∧ Below w.heap.size w w' := by
 have hu31 := Tryd.underlying31
 have HB := q_ (Below.refl w.heap.size w)
 have H : (if a0_0 ≥ a1 then (if a0_0 ≤ a2 then (if a0_1 ≥ a1 then (some (decide (a0_1 ≤ a2))) else (some false)) else (some false)) else (some false)) = some r := h
 clear h
 by_cases c4 : a0_0 ≥ a1
 ·rw [if_pos c4] at H
  have c4b0 : decide (a1 ≤ a0_0) = true := decide_eq_true c4
  clear c4
  by_cases c5 : a0_0 ≤ a2
  ·rw [if_pos c5] at H
   have c5b0 : decide (a0_0 ≤ a2) = true := decide_eq_true c5
   clear c5
   by_cases c6 : a0_1 ≥ a1
   ·rw [if_pos c6] at H
    have c6b0 : decide (a1 ≤ a0_1) = true := decide_eq_true c6
    clear c6
    obtain rfl := Option.some.inj H
    go_enter Tryd.func71, Tryd.ntmps71
    go_wp2_with (first | ((with_reducible refine gate_dst (N := 3) rfl ?_); refine box_event ?hg (N := 3) ?hd (cs := #[.int .i64 a0_0, .int .i64 a0_1]) (t := 31) ?hr ?_; (case hd => rfl); (case hg => rfl); (case hr => first | (go_simp; done) | (go_simp; rfl)); intro gb317 hg w7 hbox hb; have n0_ := q_ (pT (by repeat (first | (with_reducible first | exact HB.out | apply pA | apply pN | apply p1) | exact HB.out)) hb); have n1_ := q_ (hbox); have n2_ := q_ ((by rw [hg]; exact (pZ (by repeat (first | (with_reducible first | exact HB.out | apply pA | apply pN | apply p1) | exact HB.out))) : w.heap.size ≤ gb317)); have n3_ := n2_; clear HB; have HB := n0_; have BK317 := n1_; have GW317 := n2_; have GE317 := n3_; clear n0_ n1_ n2_ n3_; clear hb hbox hg; have hcz8_0 : w7.cell? ⟨gb317, 0, none⟩ = some (.int .i64 a0_0) := (bC BK317.out 0).trans rfl; have hcz8_1 : w7.cell? ⟨gb317, 1, none⟩ = some (.int .i64 a0_1) := (bC BK317.out 1).trans rfl; have hfz8_0 := bF BK317.out 0; have hfz8_1 := bF BK317.out 1))
    go_ret
    exact ⟨by first | rfl | (simp [*] <;> rfl), by repeat (first | (with_reducible first | exact HB.out | apply pA | apply pN | apply p1 | refine pS ?_ GE317.out) | exact HB.out)⟩
   ·rw [if_neg c6] at H
    have c6b0 : decide (a1 ≤ a0_1) = false := decide_eq_false c6
    clear c6
    obtain rfl := Option.some.inj H
    go_enter Tryd.func71, Tryd.ntmps71
    go_wp2_with (first | ((with_reducible refine gate_dst (N := 3) rfl ?_); refine box_event ?hg (N := 3) ?hd (cs := #[.int .i64 a0_0, .int .i64 a0_1]) (t := 31) ?hr ?_; (case hd => rfl); (case hg => rfl); (case hr => first | (go_simp; done) | (go_simp; rfl)); intro gb317 hg w9 hbox hb; have n0_ := q_ (pT (by repeat (first | (with_reducible first | exact HB.out | apply pA | apply pN | apply p1) | exact HB.out)) hb); have n1_ := q_ (hbox); have n2_ := q_ ((by rw [hg]; exact (pZ (by repeat (first | (with_reducible first | exact HB.out | apply pA | apply pN | apply p1) | exact HB.out))) : w.heap.size ≤ gb317)); have n3_ := n2_; clear HB; have HB := n0_; have BK317 := n1_; have GW317 := n2_; have GE317 := n3_; clear n0_ n1_ n2_ n3_; clear hb hbox hg; have hcz10_0 : w9.cell? ⟨gb317, 0, none⟩ = some (.int .i64 a0_0) := (bC BK317.out 0).trans rfl; have hcz10_1 : w9.cell? ⟨gb317, 1, none⟩ = some (.int .i64 a0_1) := (bC BK317.out 1).trans rfl; have hfz10_0 := bF BK317.out 0; have hfz10_1 := bF BK317.out 1))
    go_ret
    exact ⟨by first | rfl | (simp [*] <;> rfl), by repeat (first | (with_reducible first | exact HB.out | apply pA | apply pN | apply p1 | refine pS ?_ GE317.out) | exact HB.out)⟩
  ·rw [if_neg c5] at H
   have c5b0 : decide (a0_0 ≤ a2) = false := decide_eq_false c5
   clear c5
   obtain rfl := Option.some.inj H
   go_enter Tryd.func71, Tryd.ntmps71
   go_wp2_with (first | ((with_reducible refine gate_dst (N := 3) rfl ?_); refine box_event ?hg (N := 3) ?hd (cs := #[.int .i64 a0_0, .int .i64 a0_1]) (t := 31) ?hr ?_; (case hd => rfl); (case hg => rfl); (case hr => first | (go_simp; done) | (go_simp; rfl)); intro gb317 hg w11 hbox hb; have n0_ := q_ (pT (by repeat (first | (with_reducible first | exact HB.out | apply pA | apply pN | apply p1) | exact HB.out)) hb); have n1_ := q_ (hbox); have n2_ := q_ ((by rw [hg]; exact (pZ (by repeat (first | (with_reducible first | exact HB.out | apply pA | apply pN | apply p1) | exact HB.out))) : w.heap.size ≤ gb317)); have n3_ := n2_; clear HB; have HB := n0_; have BK317 := n1_; have GW317 := n2_; have GE317 := n3_; clear n0_ n1_ n2_ n3_; clear hb hbox hg; have hcz12_0 : w11.cell? ⟨gb317, 0, none⟩ = some (.int .i64 a0_0) := (bC BK317.out 0).trans rfl; have hcz12_1 : w11.cell? ⟨gb317, 1, none⟩ = some (.int .i64 a0_1) := (bC BK317.out 1).trans rfl; have hfz12_0 := bF BK317.out 0; have hfz12_1 := bF BK317.out 1))
   go_ret
   exact ⟨by first | rfl | (simp [*] <;> rfl), by repeat (first | (with_reducible first | exact HB.out | apply pA | apply pN | apply p1 | refine pS ?_ GE317.out) | exact HB.out)⟩
 ·rw [if_neg c4] at H
  have c4b0 : decide (a1 ≤ a0_0) = false := decide_eq_false c4
  clear c4
  obtain rfl := Option.some.inj H
  go_enter Tryd.func71, Tryd.ntmps71
  go_wp2_with (first | ((with_reducible refine gate_dst (N := 3) rfl ?_); refine box_event ?hg (N := 3) ?hd (cs := #[.int .i64 a0_0, .int .i64 a0_1]) (t := 31) ?hr ?_; (case hd => rfl); (case hg => rfl); (case hr => first | (go_simp; done) | (go_simp; rfl)); intro gb317 hg w13 hbox hb; have n0_ := q_ (pT (by repeat (first | (with_reducible first | exact HB.out | apply pA | apply pN | apply p1) | exact HB.out)) hb); have n1_ := q_ (hbox); have n2_ := q_ ((by rw [hg]; exact (pZ (by repeat (first | (with_reducible first | exact HB.out | apply pA | apply pN | apply p1) | exact HB.out))) : w.heap.size ≤ gb317)); have n3_ := n2_; clear HB; have HB := n0_; have BK317 := n1_; have GW317 := n2_; have GE317 := n3_; clear n0_ n1_ n2_ n3_; clear hb hbox hg; have hcz14_0 : w13.cell? ⟨gb317, 0, none⟩ = some (.int .i64 a0_0) := (bC BK317.out 0).trans rfl; have hcz14_1 : w13.cell? ⟨gb317, 1, none⟩ = some (.int .i64 a0_1) := (bC BK317.out 1).trans rfl; have hfz14_0 := bF BK317.out 0; have hfz14_1 := bF BK317.out 1))
  go_ret
  exact ⟨by first | rfl | (simp [*] <;> rfl), by repeat (first | (with_reducible first | exact HB.out | apply pA | apply pN | apply p1 | refine pS ?_ GE317.out) | exact HB.out)⟩
def sawmillref30_length.f (a0_0 : Int) (a0_1 : Int) : Option (Int) := some (wrap64 (a0_1 - a0_0))
set_option maxHeartbeats 8000000 in
set_option maxRecDepth 100000 in
theorem sawmillref30_length.calls (a0_0 : Int) (a0_1 : Int) (r : Int) (w : World) (h : sawmillref30_length.f a0_0 a0_1 = some r) :
  Calls Tryd.prog 72 #[.agg #[.int .i64 a0_0, .int .i64 a0_1]] w fun e w' => e = .returned (.int .i64 r) ∧ Below w.heap.size w w' := by
 have hu31 := Tryd.underlying31
 have HB := q_ (Below.refl w.heap.size w)
 have H : (some (wrap64 (a0_1 - a0_0))) = some r := h
 clear h
 obtain rfl := Option.some.inj H
 go_enter Tryd.func72, Tryd.ntmps72
 go_wp2_with (first | ((with_reducible refine gate_dst (N := 1) rfl ?_); refine box_event ?hg (N := 1) ?hd (cs := #[.int .i64 a0_0, .int .i64 a0_1]) (t := 31) ?hr ?_; (case hd => rfl); (case hg => rfl); (case hr => first | (go_simp; done) | (go_simp; rfl)); intro gb318 hg w2 hbox hb; have n0_ := q_ (pT (by repeat (first | (with_reducible first | exact HB.out | apply pA | apply pN | apply p1) | exact HB.out)) hb); have n1_ := q_ (hbox); have n2_ := q_ ((by rw [hg]; exact (pZ (by repeat (first | (with_reducible first | exact HB.out | apply pA | apply pN | apply p1) | exact HB.out))) : w.heap.size ≤ gb318)); have n3_ := n2_; clear HB; have HB := n0_; have BK318 := n1_; have GW318 := n2_; have GE318 := n3_; clear n0_ n1_ n2_ n3_; clear hb hbox hg; have hcz3_0 : w2.cell? ⟨gb318, 0, none⟩ = some (.int .i64 a0_0) := (bC BK318.out 0).trans rfl; have hcz3_1 : w2.cell? ⟨gb318, 1, none⟩ = some (.int .i64 a0_1) := (bC BK318.out 1).trans rfl; have hfz3_0 := bF BK318.out 0; have hfz3_1 := bF BK318.out 1))
 go_ret
 exact ⟨by first | rfl | (simp [*] <;> rfl), by repeat (first | (with_reducible first | exact HB.out | apply pA | apply pN | apply p1 | refine pS ?_ GE318.out) | exact HB.out)⟩
def sawmillref30_Length.f (a0_0 : ByteArray) (a0_1 : ByteArray) (a0_2 : ByteArray) (a0_3 : Int) (a0_4 : Int) (a0_5 : Int) (a0_6 : Int) (a0_7 : Int) (a0_8 : Int) (a0_9 : Int) (a0_10 : Int) (l0_11 : List (S176)) (a0_12 : Int) (a0_13 : Int) (a0_14 : Int) (a0_15 : Int) (a0_16 : Bool) (a0_17 : Int) : Option (Int) := (sawmillref30_within.f a0_8 a0_9 0 20000).bind fun t320 => (if t320 = true then ((sawmillref30_length.f a0_8 a0_9).bind fun t321 => (some (mx 0 t321))) else (some 0))
set_option maxHeartbeats 8000000 in
set_option maxRecDepth 100000 in
theorem sawmillref30_Length.calls (a0_0 : ByteArray) (a0_1 : ByteArray) (a0_2 : ByteArray) (a0_3 : Int) (a0_4 : Int) (a0_5 : Int) (a0_6 : Int) (a0_7 : Int) (a0_8 : Int) (a0_9 : Int) (a0_10 : Int) (A0_11 : Option Addr) (c0_11 : Nat) (l0_11 : List (S176)) (a0_12 : Int) (a0_13 : Int) (a0_14 : Int) (a0_15 : Int) (a0_16 : Bool) (a0_17 : Int) (r : Int) (w : World) (hr0_11 : Kd.C k176 w A0_11 l0_11.length l0_11) (hc0_11 : l0_11.length ≤ c0_11) (h : sawmillref30_Length.f a0_0 a0_1 a0_2 a0_3 a0_4 a0_5 a0_6 a0_7 a0_8 a0_9 a0_10 l0_11 a0_12 a0_13 a0_14 a0_15 a0_16 a0_17 = some r) :
  Calls Tryd.prog 39 #[.agg #[.string a0_0, .string a0_1, .string a0_2, .int .i64 a0_3, .int .i64 a0_4, .int .i64 a0_5, .int .i64 a0_6, .int .i64 a0_7, .int .i64 a0_8, .int .i64 a0_9, .int .i64 a0_10, .slice A0_11 l0_11.length c0_11, .int .i64 a0_12, .int .i64 a0_13, .int .i64 a0_14, .int .i64 a0_15, .bool a0_16, .int .i64 a0_17]] w fun e w' => e = .returned (.int .i64 r) ∧ Below w.heap.size w w' := by
 have hu38 := Tryd.underlying38
 have hu31 := Tryd.underlying31
 have HR0_11 := Aside0.mk hr0_11
 have HC0_11 := Aside0.mk hc0_11
 clear hr0_11 hc0_11
 have HB := q_ (Below.refl w.heap.size w)
 have H : ((sawmillref30_within.f a0_8 a0_9 0 20000).bind fun t320 => (if t320 = true then ((sawmillref30_length.f a0_8 a0_9).bind fun t321 => (some (mx 0 t321))) else (some 0))) = some r := h
 clear h
 replace H := oB H
 obtain ⟨t320, A20, H⟩ := H
 replace H : (if t320 = true then ((sawmillref30_length.f a0_8 a0_9).bind fun t321 => (some (mx 0 t321))) else (some 0)) = some r := H
 have A2 := Aside0.mk A20
 clear A20
 by_cases c3 : t320 = true
 ·subst c3
  have H1 : ((sawmillref30_length.f a0_8 a0_9).bind fun t321 => (some (mx 0 t321))) = some r := by rw [if_pos rfl] at H; exact H
  clear H
  have H := H1
  clear H1
  replace H := oB H
  obtain ⟨t321, A40, H⟩ := H
  replace H : (some (mx 0 t321)) = some r := H
  have A4 := Aside0.mk A40
  clear A40
  obtain ⟨ji5, hji5⟩ : ∃ j_ : Int, (mx 0 t321) = j_ := ⟨_, rfl⟩
  replace H : (some ji5) = some r := by first | (rw [hji5] at H; exact H) | (simp only [hji5] at H ⊢; exact H)
  (try rw [hji5] at A2)
  (try rw [hji5] at A4)
  (try (have hji5l : 0 ≤ ji5 := by (rw [← hji5]; unfold mx; (repeat' split) <;> omega)))
  (try (have hji5m : 0 ≤ ji5 := by omega))
  have hji5_ : (if 0 < t321 then t321 else 0) = ji5 := hji5
  obtain rfl := Option.some.inj H
  go_enter Tryd.func39, Tryd.ntmps39
  go_wp2_with (first | (refine wpList_load_cells (by rfl) 38 _ (by exact rfl) ⟨gb319, 0, none⟩ (by rfl) _ _ (cells_of_blk (by (with_reducible repeat (first | refine bN ?_ _ | refine bW ?_ | refine bA ?_ _)); exact BK319.out)) Tryd.underlying38 rfl (by kernel_rfl) ?_) | ((with_reducible refine gate_dst (N := 1) rfl ?_); refine box_event ?hg (N := 1) ?hd (cs := #[.string a0_0, .string a0_1, .string a0_2, .int .i64 a0_3, .int .i64 a0_4, .int .i64 a0_5, .int .i64 a0_6, .int .i64 a0_7, .int .i64 a0_8, .int .i64 a0_9, .int .i64 a0_10, .slice A0_11 l0_11.length c0_11, .int .i64 a0_12, .int .i64 a0_13, .int .i64 a0_14, .int .i64 a0_15, .bool a0_16, .int .i64 a0_17]) (t := 38) ?hr ?_; (case hd => rfl); (case hg => rfl); (case hr => first | (go_simp; done) | (go_simp; rfl)); intro gb319 hg w6 hbox hb; have n0_ := q_ (pT (by repeat (first | (with_reducible first | exact HB.out | apply pA | apply pN | apply p1) | exact HB.out)) hb); have n1_ := q_ (hbox); have n2_ := q_ ((by rw [hg]; exact (pZ (by repeat (first | (with_reducible first | exact HB.out | apply pA | apply pN | apply p1) | exact HB.out))) : w.heap.size ≤ gb319)); have n3_ := n2_; clear HB; have HB := n0_; have BK319 := n1_; have GW319 := n2_; have GE319 := n3_; clear n0_ n1_ n2_ n3_; clear hb hbox hg; have hcz7 := blk_all BK319.out; simp only [CellsAt, List.toList_toArray, Nat.reduceAdd, and_true] at hcz7; have hfz7 := bF BK319.out) | ((with_reducible refine gate_callee (f := 71) rfl ?_); refine goesL_ (some 6) rfl rfl Tryd.func71 (by kernel_rfl) rfl #[.agg #[.int .i64 a0_8, .int .i64 a0_9], .int .i64 0, .int .i64 20000] rfl (by first | rfl | (simp only [List.map_toArray]; rfl)) ?_; (with_reducible refine (sawmillref30_within.calls a0_8 a0_9 0 20000 true _ A2.out).mono ?_); rintro e w8 ⟨rfl, hb⟩; refine ⟨_, rfl, ?_⟩; have n0_ := q_ (bB (g := gb319) (by (with_reducible repeat (first | refine bN ?_ _ | refine bW ?_ | refine bA ?_ _)); exact BK319.out) hb); have n1_ := q_ (pT (by repeat (first | (with_reducible first | exact HB.out | apply pA | apply pN | apply p1 | refine pS ?_ GE319.out) | exact HB.out)) hb); clear BK319; clear HB; have BK319 := n0_; have HB := n1_; clear n0_ n1_; (try clear hb); (try clear hb2); (try clear hk); (try clear hi); have hcz9 := blk_all BK319.out; simp only [CellsAt, List.toList_toArray, Nat.reduceAdd, and_true] at hcz9; have hfz9 := bF BK319.out) | ((with_reducible refine gate_callee (f := 72) rfl ?_); refine goesL_ (some 11) rfl rfl Tryd.func72 (by kernel_rfl) rfl #[.agg #[.int .i64 a0_8, .int .i64 a0_9]] rfl (by first | rfl | (simp only [List.map_toArray]; rfl)) ?_; (with_reducible refine (sawmillref30_length.calls a0_8 a0_9 t321 _ A4.out).mono ?_); rintro e w10 ⟨rfl, hb⟩; refine ⟨_, rfl, ?_⟩; have n0_ := q_ (bB (g := gb319) (by (with_reducible repeat (first | refine bN ?_ _ | refine bW ?_ | refine bA ?_ _)); exact BK319.out) hb); have n1_ := q_ (pT (by repeat (first | (with_reducible first | exact HB.out | apply pA | apply pN | apply p1 | refine pS ?_ GE319.out) | exact HB.out)) hb); clear BK319; clear HB; have BK319 := n0_; have HB := n1_; clear n0_ n1_; (try clear hb); (try clear hb2); (try clear hk); (try clear hi)))
  go_ret
  exact ⟨by first | rfl | (simp [errW_none, errW_some] <;> rfl) | (simp only [← hji5]; first | rfl | (simp [errW_none, errW_some] <;> rfl)) | (simp [*, errW_none, errW_some] <;> rfl), by repeat (first | (with_reducible first | exact HB.out | apply pA | apply pN | apply p1 | refine pS ?_ GE319.out) | exact HB.out)⟩
 ·replace c3 := Bool.eq_false_iff.mpr c3
  subst c3
  have H1 : (some 0) = some r := by rw [if_neg (show ¬ (false = true) by decide)] at H; exact H
  clear H
  have H := H1
  clear H1
  obtain rfl := Option.some.inj H
  go_enter Tryd.func39, Tryd.ntmps39
  go_wp2_with (first | (refine wpList_load_cells (by rfl) 38 _ (by exact rfl) ⟨gb319, 0, none⟩ (by rfl) _ _ (cells_of_blk (by (with_reducible repeat (first | refine bN ?_ _ | refine bW ?_ | refine bA ?_ _)); exact BK319.out)) Tryd.underlying38 rfl (by kernel_rfl) ?_) | ((with_reducible refine gate_dst (N := 1) rfl ?_); refine box_event ?hg (N := 1) ?hd (cs := #[.string a0_0, .string a0_1, .string a0_2, .int .i64 a0_3, .int .i64 a0_4, .int .i64 a0_5, .int .i64 a0_6, .int .i64 a0_7, .int .i64 a0_8, .int .i64 a0_9, .int .i64 a0_10, .slice A0_11 l0_11.length c0_11, .int .i64 a0_12, .int .i64 a0_13, .int .i64 a0_14, .int .i64 a0_15, .bool a0_16, .int .i64 a0_17]) (t := 38) ?hr ?_; (case hd => rfl); (case hg => rfl); (case hr => first | (go_simp; done) | (go_simp; rfl)); intro gb319 hg w11 hbox hb; have n0_ := q_ (pT (by repeat (first | (with_reducible first | exact HB.out | apply pA | apply pN | apply p1) | exact HB.out)) hb); have n1_ := q_ (hbox); have n2_ := q_ ((by rw [hg]; exact (pZ (by repeat (first | (with_reducible first | exact HB.out | apply pA | apply pN | apply p1) | exact HB.out))) : w.heap.size ≤ gb319)); have n3_ := n2_; clear HB; have HB := n0_; have BK319 := n1_; have GW319 := n2_; have GE319 := n3_; clear n0_ n1_ n2_ n3_; clear hb hbox hg; have hcz12 := blk_all BK319.out; simp only [CellsAt, List.toList_toArray, Nat.reduceAdd, and_true] at hcz12; have hfz12 := bF BK319.out) | ((with_reducible refine gate_callee (f := 71) rfl ?_); refine goesL_ (some 6) rfl rfl Tryd.func71 (by kernel_rfl) rfl #[.agg #[.int .i64 a0_8, .int .i64 a0_9], .int .i64 0, .int .i64 20000] rfl (by first | rfl | (simp only [List.map_toArray]; rfl)) ?_; (with_reducible refine (sawmillref30_within.calls a0_8 a0_9 0 20000 false _ A2.out).mono ?_); rintro e w13 ⟨rfl, hb⟩; refine ⟨_, rfl, ?_⟩; have n0_ := q_ (bB (g := gb319) (by (with_reducible repeat (first | refine bN ?_ _ | refine bW ?_ | refine bA ?_ _)); exact BK319.out) hb); have n1_ := q_ (pT (by repeat (first | (with_reducible first | exact HB.out | apply pA | apply pN | apply p1 | refine pS ?_ GE319.out) | exact HB.out)) hb); clear BK319; clear HB; have BK319 := n0_; have HB := n1_; clear n0_ n1_; (try clear hb); (try clear hb2); (try clear hk); (try clear hi)))
  go_ret
  exact ⟨by first | rfl | (simp [*] <;> rfl), by repeat (first | (with_reducible first | exact HB.out | apply pA | apply pN | apply p1 | refine pS ?_ GE319.out) | exact HB.out)⟩
def sawmillref36_Check.j0 : Nat → Bool → Int → Int → Int → Option (Int)
 | 0, _, _, _, _ => none
 | k + 1, x20, x323000, x323001, x323002 => if x20 = true then (some 25) else (if x323002 < 0 then (some 9) else (if x323002 > 1099511627776 then (some 9) else (some 0)))
def sawmillref36_Check.f (k : Nat) (a0_0 : Int) (a0_1 : Int) (a0_2 : Int) : Option (Int) := if a0_0 < 0 then (sawmillref36_Check.j0 k true a0_0 a0_1 a0_2) else (if a0_0 > 20000 then (sawmillref36_Check.j0 k true a0_0 a0_1 a0_2) else (if a0_1 < 0 then (sawmillref36_Check.j0 k true a0_0 a0_1 a0_2) else (sawmillref36_Check.j0 k (decide (a0_1 > 20000)) a0_0 a0_1 a0_2)))
set_option maxHeartbeats 8000000 in
set_option maxRecDepth 100000 in
theorem sawmillref36_Check.calls (k : Nat) (a0_0 : Int) (a0_1 : Int) (a0_2 : Int) (r : Int) (w : World) (h : sawmillref36_Check.f k a0_0 a0_1 a0_2 = some r) :
  Calls Tryd.prog 73 #[.agg #[.int .i64 a0_0, .int .i64 a0_1, .int .i64 a0_2]] w fun e w' => e = .returned (.int .i64 r) ∧ Below w.heap.size w w' := by
 have hu36 := Tryd.underlying36
 have HB := q_ (Below.refl w.heap.size w)
 have H : (if a0_0 < 0 then (sawmillref36_Check.j0 k true a0_0 a0_1 a0_2) else (if a0_0 > 20000 then (sawmillref36_Check.j0 k true a0_0 a0_1 a0_2) else (if a0_1 < 0 then (sawmillref36_Check.j0 k true a0_0 a0_1 a0_2) else (sawmillref36_Check.j0 k (decide (a0_1 > 20000)) a0_0 a0_1 a0_2)))) = some r := h
 clear h
 have HC2 := Aside0.mk H
 clear H
 go_enter Tryd.func73, Tryd.ntmps73
 go_upto_region 1 with (first | ((with_reducible refine gate_dst (N := 1) rfl ?_); refine box_event ?hg (N := 1) ?hd (cs := #[.int .i64 a0_0, .int .i64 a0_1, .int .i64 a0_2]) (t := 36) ?hr ?_; (case hd => rfl); (case hg => rfl); (case hr => first | (go_simp; done) | (go_simp; rfl)); intro gb322 hg w3 hbox hb; have n0_ := q_ (pT (by repeat (first | (with_reducible first | exact HB.out | apply pA | apply pN | apply p1) | exact HB.out)) hb); have n1_ := q_ (hbox); have n2_ := q_ ((by rw [hg]; exact (pZ (by repeat (first | (with_reducible first | exact HB.out | apply pA | apply pN | apply p1) | exact HB.out))) : w.heap.size ≤ gb322)); have n3_ := n2_; clear HB; have HB := n0_; have BK322 := n1_; have GW322 := n2_; have GE322 := n3_; clear n0_ n1_ n2_ n3_; clear hb hbox hg))
 (try simp only [Act.put, List.setIfInBounds_toArray, List.set_cons_zero, List.set_cons_succ])
 go_cut [20] (fun v20 wc => ∃ (kq : Nat) (x20_1 : Bool), v20 = .bool x20_1 ∧ Aside0 (sawmillref36_Check.j0 kq x20_1 a0_0 a0_1 a0_2 = some r) ∧ Aside0 (kq ≤ k) ∧ Aside0 (wc.heap[gb322]? = some (.cells #[.int .i64 a0_0, .int .i64 a0_1, .int .i64 a0_2] 36 (0, 0))) ∧ Aside0 (Below w.heap.size w wc))
 case first =>
  have H := HC2.out
  clear HC2
  by_cases c4 : a0_0 < 0
  ·rw [if_pos c4] at H
   have c4b0 : decide (a0_0 < 0) = true := decide_eq_true c4
   clear c4
   (first | rw [c4b0] | (simp only [i64_w, i32_w]; rw [c4b0]) | skip)
   have H' := Aside0.mk H
   clear H
   have hcz5_0 : w3.cell? ⟨gb322, 0, none⟩ = some (.int .i64 a0_0) := (bC BK322.out 0).trans rfl
   have hcz5_1 : w3.cell? ⟨gb322, 1, none⟩ = some (.int .i64 a0_1) := (bC BK322.out 1).trans rfl
   have hcz5_2 : w3.cell? ⟨gb322, 2, none⟩ = some (.int .i64 a0_2) := (bC BK322.out 2).trans rfl
   have hfz5_0 := bF BK322.out 0
   have hfz5_1 := bF BK322.out 1
   have hfz5_2 := bF BK322.out 2
   go_wp2
   go_meet
   case rel => exact ⟨_, (true), (by first | rfl | (simp; done) | (simp [*]; done)), H', ⟨by first | omega | exact Nat.le_refl _⟩, ⟨by (with_reducible repeat (first | refine bN ?_ _ | refine bW ?_ | refine bA ?_ _)); exact BK322.out⟩, ⟨by repeat (first | (with_reducible first | exact HB.out | apply pA | apply pN | apply p1 | refine pS ?_ GE322.out) | exact HB.out)⟩⟩
  ·rw [if_neg c4] at H
   have c4b0 : decide (a0_0 < 0) = false := decide_eq_false c4
   clear c4
   (first | rw [c4b0] | (simp only [i64_w, i32_w]; rw [c4b0]) | skip)
   by_cases c6 : a0_0 > 20000
   ·rw [if_pos c6] at H
    have c6b0 : decide (20000 < a0_0) = true := decide_eq_true c6
    clear c6
    have H' := Aside0.mk H
    clear H
    have hcz7_0 : w3.cell? ⟨gb322, 0, none⟩ = some (.int .i64 a0_0) := (bC BK322.out 0).trans rfl
    have hcz7_1 : w3.cell? ⟨gb322, 1, none⟩ = some (.int .i64 a0_1) := (bC BK322.out 1).trans rfl
    have hcz7_2 : w3.cell? ⟨gb322, 2, none⟩ = some (.int .i64 a0_2) := (bC BK322.out 2).trans rfl
    have hfz7_0 := bF BK322.out 0
    have hfz7_1 := bF BK322.out 1
    have hfz7_2 := bF BK322.out 2
    go_wp2
    go_meet
    case rel => exact ⟨_, (true), (by first | rfl | (simp; done) | (simp [*]; done)), H', ⟨by first | omega | exact Nat.le_refl _⟩, ⟨by (with_reducible repeat (first | refine bN ?_ _ | refine bW ?_ | refine bA ?_ _)); exact BK322.out⟩, ⟨by repeat (first | (with_reducible first | exact HB.out | apply pA | apply pN | apply p1 | refine pS ?_ GE322.out) | exact HB.out)⟩⟩
   ·rw [if_neg c6] at H
    have c6b0 : decide (20000 < a0_0) = false := decide_eq_false c6
    clear c6
    by_cases c8 : a0_1 < 0
    ·rw [if_pos c8] at H
     have c8b0 : decide (a0_1 < 0) = true := decide_eq_true c8
     clear c8
     have H' := Aside0.mk H
     clear H
     have hcz9_0 : w3.cell? ⟨gb322, 0, none⟩ = some (.int .i64 a0_0) := (bC BK322.out 0).trans rfl
     have hcz9_1 : w3.cell? ⟨gb322, 1, none⟩ = some (.int .i64 a0_1) := (bC BK322.out 1).trans rfl
     have hcz9_2 : w3.cell? ⟨gb322, 2, none⟩ = some (.int .i64 a0_2) := (bC BK322.out 2).trans rfl
     have hfz9_0 := bF BK322.out 0
     have hfz9_1 := bF BK322.out 1
     have hfz9_2 := bF BK322.out 2
     go_wp2
     go_meet
     case rel => exact ⟨_, (true), (by first | rfl | (simp; done) | (simp [*]; done)), H', ⟨by first | omega | exact Nat.le_refl _⟩, ⟨by (with_reducible repeat (first | refine bN ?_ _ | refine bW ?_ | refine bA ?_ _)); exact BK322.out⟩, ⟨by repeat (first | (with_reducible first | exact HB.out | apply pA | apply pN | apply p1 | refine pS ?_ GE322.out) | exact HB.out)⟩⟩
    ·rw [if_neg c8] at H
     have c8b0 : decide (a0_1 < 0) = false := decide_eq_false c8
     clear c8
     have H' := Aside0.mk H
     clear H
     have hcz10_0 : w3.cell? ⟨gb322, 0, none⟩ = some (.int .i64 a0_0) := (bC BK322.out 0).trans rfl
     have hcz10_1 : w3.cell? ⟨gb322, 1, none⟩ = some (.int .i64 a0_1) := (bC BK322.out 1).trans rfl
     have hcz10_2 : w3.cell? ⟨gb322, 2, none⟩ = some (.int .i64 a0_2) := (bC BK322.out 2).trans rfl
     have hfz10_0 := bF BK322.out 0
     have hfz10_1 := bF BK322.out 1
     have hfz10_2 := bF BK322.out 2
     go_wp2
     go_meet
     case rel => exact ⟨_, (decide (a0_1 > 20000)), (by first | rfl | (simp; done) | (simp [*]; done)), H', ⟨by first | omega | exact Nat.le_refl _⟩, ⟨by (with_reducible repeat (first | refine bN ?_ _ | refine bW ?_ | refine bA ?_ _)); exact BK322.out⟩, ⟨by repeat (first | (with_reducible first | exact HB.out | apply pA | apply pN | apply p1 | refine pS ?_ GE322.out) | exact HB.out)⟩⟩
 case rest =>
  clear HC2
  try clear p2
  try clear c4
  try clear c4b0
  try clear c6
  try clear c6b0
  try clear c7
  try clear c8
  try clear c8b0
  try clear hcz10_0
  try clear hcz10_1
  try clear hcz10_2
  try clear hcz5_0
  try clear hcz5_1
  try clear hcz5_2
  try clear hcz7_0
  try clear hcz7_1
  try clear hcz7_2
  try clear hcz9_0
  try clear hcz9_1
  try clear hcz9_2
  try clear hfz10_0
  try clear hfz10_1
  try clear hfz10_2
  try clear hfz5_0
  try clear hfz5_1
  try clear hfz5_2
  try clear hfz7_0
  try clear hfz7_1
  try clear hfz7_2
  try clear hfz9_0
  try clear hfz9_1
  try clear hfz9_2
  obtain ⟨kq, x20_1, rfl, HA, HJ1, BK322, HB⟩ := hcut
  cases kq with
  | zero => exact absurd HA.out (by simp [sawmillref36_Check.j0])
  | succ kj1 =>
   have H := HA.out
   clear HA
   simp only [sawmillref36_Check.j0] at H
   by_cases c11 : x20_1 = true
   ·subst c11
    have H1 : (some 25) = some r := by rw [if_pos rfl] at H; exact H
    clear H
    have H := H1
    clear H1
    obtain rfl := Option.some.inj H
    go_wp2
    go_ret
    exact ⟨by first | rfl | (simp [*] <;> rfl), by repeat (first | (with_reducible first | exact HB.out | apply pA | apply pN | apply p1 | refine pS ?_ GE322.out) | exact HB.out)⟩
   ·replace c11 := Bool.eq_false_iff.mpr c11
    subst c11
    have H1 : (if a0_2 < 0 then (some 9) else (if a0_2 > 1099511627776 then (some 9) else (some 0))) = some r := by rw [if_neg (show ¬ (false = true) by decide)] at H; exact H
    clear H
    have H := H1
    clear H1
    by_cases c12 : a0_2 < 0
    ·rw [if_pos c12] at H
     have c12b0 : decide (a0_2 < 0) = true := decide_eq_true c12
     clear c12
     obtain rfl := Option.some.inj H
     have hcz13_0 : wc.cell? ⟨gb322, 0, none⟩ = some (.int .i64 a0_0) := (bC BK322.out 0).trans rfl
     have hcz13_1 : wc.cell? ⟨gb322, 1, none⟩ = some (.int .i64 a0_1) := (bC BK322.out 1).trans rfl
     have hcz13_2 : wc.cell? ⟨gb322, 2, none⟩ = some (.int .i64 a0_2) := (bC BK322.out 2).trans rfl
     have hfz13_0 := bF BK322.out 0
     have hfz13_1 := bF BK322.out 1
     have hfz13_2 := bF BK322.out 2
     go_wp2
     go_ret
     exact ⟨by first | rfl | (simp [*] <;> rfl), by repeat (first | (with_reducible first | exact HB.out | apply pA | apply pN | apply p1 | refine pS ?_ GE322.out) | exact HB.out)⟩
    ·rw [if_neg c12] at H
     have c12b0 : decide (a0_2 < 0) = false := decide_eq_false c12
     clear c12
     by_cases c14 : a0_2 > 1099511627776
     ·rw [if_pos c14] at H
      have c14b0 : decide (1099511627776 < a0_2) = true := decide_eq_true c14
      clear c14
      obtain rfl := Option.some.inj H
      have hcz15_0 : wc.cell? ⟨gb322, 0, none⟩ = some (.int .i64 a0_0) := (bC BK322.out 0).trans rfl
      have hcz15_1 : wc.cell? ⟨gb322, 1, none⟩ = some (.int .i64 a0_1) := (bC BK322.out 1).trans rfl
      have hcz15_2 : wc.cell? ⟨gb322, 2, none⟩ = some (.int .i64 a0_2) := (bC BK322.out 2).trans rfl
      have hfz15_0 := bF BK322.out 0
      have hfz15_1 := bF BK322.out 1
      have hfz15_2 := bF BK322.out 2
      go_wp2
      go_ret
      exact ⟨by first | rfl | (simp [*] <;> rfl), by repeat (first | (with_reducible first | exact HB.out | apply pA | apply pN | apply p1 | refine pS ?_ GE322.out) | exact HB.out)⟩
     ·rw [if_neg c14] at H
      have c14b0 : decide (1099511627776 < a0_2) = false := decide_eq_false c14
      clear c14
      obtain rfl := Option.some.inj H
      have hcz16_0 : wc.cell? ⟨gb322, 0, none⟩ = some (.int .i64 a0_0) := (bC BK322.out 0).trans rfl
      have hcz16_1 : wc.cell? ⟨gb322, 1, none⟩ = some (.int .i64 a0_1) := (bC BK322.out 1).trans rfl
      have hcz16_2 : wc.cell? ⟨gb322, 2, none⟩ = some (.int .i64 a0_2) := (bC BK322.out 2).trans rfl
      have hfz16_0 := bF BK322.out 0
      have hfz16_1 := bF BK322.out 1
      have hfz16_2 := bF BK322.out 2
      go_wp2
      go_ret
      exact ⟨by first | rfl | (simp [*] <;> rfl), by repeat (first | (with_reducible first | exact HB.out | apply pA | apply pN | apply p1 | refine pS ?_ GE322.out) | exact HB.out)⟩
def sawmillref36_Mean.f (k : Nat) (a0_0 : Int) (a0_1 : Int) (a0_2 : Int) : Option (Int) := (sawmillref36_Check.f k a0_0 a0_1 a0_2).bind fun t324 => (if t324 = 0 then (some (wrap64 (Int.tdiv (wrap64 (a0_0 + (wrap64 (2 * a0_1)))) 3))) else (some 0))
set_option maxHeartbeats 8000000 in
set_option maxRecDepth 100000 in
theorem sawmillref36_Mean.calls (k : Nat) (a0_0 : Int) (a0_1 : Int) (a0_2 : Int) (r : Int) (w : World) (h : sawmillref36_Mean.f k a0_0 a0_1 a0_2 = some r) :
  Calls Tryd.prog 40 #[.agg #[.int .i64 a0_0, .int .i64 a0_1, .int .i64 a0_2]] w fun e w' => e = .returned (.int .i64 r) ∧ Below w.heap.size w w' := by
 have hu36 := Tryd.underlying36
 have HB := q_ (Below.refl w.heap.size w)
 have H : ((sawmillref36_Check.f k a0_0 a0_1 a0_2).bind fun t324 => (if t324 = 0 then (some (wrap64 (Int.tdiv (wrap64 (a0_0 + (wrap64 (2 * a0_1)))) 3))) else (some 0))) = some r := h
 clear h
 replace H := oB H
 obtain ⟨t324, A20, H⟩ := H
 replace H : (if t324 = 0 then (some (wrap64 (Int.tdiv (wrap64 (a0_0 + (wrap64 (2 * a0_1)))) 3))) else (some 0)) = some r := H
 have A2 := Aside0.mk A20
 clear A20
 by_cases c3 : t324 = 0
 ·rw [if_pos c3] at H
  have c3b0 : (t324 == 0) = true := beq_iff_eq.mpr c3
  have c3b1 : (t324 != 0) = false := oD c3
  clear c3
  obtain rfl := Option.some.inj H
  go_enter Tryd.func40, Tryd.ntmps40
  go_wp2_with (first | ((with_reducible refine gate_dst (N := 1) rfl ?_); refine box_event ?hg (N := 1) ?hd (cs := #[.int .i64 a0_0, .int .i64 a0_1, .int .i64 a0_2]) (t := 36) ?hr ?_; (case hd => rfl); (case hg => rfl); (case hr => first | (go_simp; done) | (go_simp; rfl)); intro gb323 hg w4 hbox hb; have n0_ := q_ (pT (by repeat (first | (with_reducible first | exact HB.out | apply pA | apply pN | apply p1) | exact HB.out)) hb); have n1_ := q_ (hbox); have n2_ := q_ ((by rw [hg]; exact (pZ (by repeat (first | (with_reducible first | exact HB.out | apply pA | apply pN | apply p1) | exact HB.out))) : w.heap.size ≤ gb323)); have n3_ := n2_; clear HB; have HB := n0_; have BK323 := n1_; have GW323 := n2_; have GE323 := n3_; clear n0_ n1_ n2_ n3_; clear hb hbox hg; have hcz5_0 : w4.cell? ⟨gb323, 0, none⟩ = some (.int .i64 a0_0) := (bC BK323.out 0).trans rfl; have hcz5_1 : w4.cell? ⟨gb323, 1, none⟩ = some (.int .i64 a0_1) := (bC BK323.out 1).trans rfl; have hcz5_2 : w4.cell? ⟨gb323, 2, none⟩ = some (.int .i64 a0_2) := (bC BK323.out 2).trans rfl; have hfz5_0 := bF BK323.out 0; have hfz5_1 := bF BK323.out 1; have hfz5_2 := bF BK323.out 2) | ((with_reducible refine gate_callee (f := 73) rfl ?_); refine goesL_ (some 4) rfl rfl Tryd.func73 (by kernel_rfl) rfl #[.agg #[.int .i64 a0_0, .int .i64 a0_1, .int .i64 a0_2]] rfl (by first | rfl | (simp only [List.map_toArray]; rfl)) ?_; (with_reducible refine (sawmillref36_Check.calls k a0_0 a0_1 a0_2 t324 _ A2.out).mono ?_); rintro e w6 ⟨rfl, hb⟩; refine ⟨_, rfl, ?_⟩; have n0_ := q_ (bB (g := gb323) (by (with_reducible repeat (first | refine bN ?_ _ | refine bW ?_ | refine bA ?_ _)); exact BK323.out) hb); have n1_ := q_ (pT (by repeat (first | (with_reducible first | exact HB.out | apply pA | apply pN | apply p1 | refine pS ?_ GE323.out) | exact HB.out)) hb); clear BK323; clear HB; have BK323 := n0_; have HB := n1_; clear n0_ n1_; (try clear hb); (try clear hb2); (try clear hk); (try clear hi); have hcz7_0 : w6.cell? ⟨gb323, 0, none⟩ = some (.int .i64 a0_0) := (bC BK323.out 0).trans rfl; have hcz7_1 : w6.cell? ⟨gb323, 1, none⟩ = some (.int .i64 a0_1) := (bC BK323.out 1).trans rfl; have hcz7_2 : w6.cell? ⟨gb323, 2, none⟩ = some (.int .i64 a0_2) := (bC BK323.out 2).trans rfl; have hfz7_0 := bF BK323.out 0; have hfz7_1 := bF BK323.out 1; have hfz7_2 := bF BK323.out 2))
  go_ret
  exact ⟨by first | rfl | (simp [*] <;> rfl), by repeat (first | (with_reducible first | exact HB.out | apply pA | apply pN | apply p1 | refine pS ?_ GE323.out) | exact HB.out)⟩
 ·rw [if_neg c3] at H
  have c3b0 : (t324 == 0) = false := oC c3
  have c3b1 : (t324 != 0) = true := bne_iff_ne.mpr c3
  obtain rfl := Option.some.inj H
  go_enter Tryd.func40, Tryd.ntmps40
  go_wp2_with (first | ((with_reducible refine gate_dst (N := 1) rfl ?_); refine box_event ?hg (N := 1) ?hd (cs := #[.int .i64 a0_0, .int .i64 a0_1, .int .i64 a0_2]) (t := 36) ?hr ?_; (case hd => rfl); (case hg => rfl); (case hr => first | (go_simp; done) | (go_simp; rfl)); intro gb323 hg w8 hbox hb; have n0_ := q_ (pT (by repeat (first | (with_reducible first | exact HB.out | apply pA | apply pN | apply p1) | exact HB.out)) hb); have n1_ := q_ (hbox); have n2_ := q_ ((by rw [hg]; exact (pZ (by repeat (first | (with_reducible first | exact HB.out | apply pA | apply pN | apply p1) | exact HB.out))) : w.heap.size ≤ gb323)); have n3_ := n2_; clear HB; have HB := n0_; have BK323 := n1_; have GW323 := n2_; have GE323 := n3_; clear n0_ n1_ n2_ n3_; clear hb hbox hg; have hcz9_0 : w8.cell? ⟨gb323, 0, none⟩ = some (.int .i64 a0_0) := (bC BK323.out 0).trans rfl; have hcz9_1 : w8.cell? ⟨gb323, 1, none⟩ = some (.int .i64 a0_1) := (bC BK323.out 1).trans rfl; have hcz9_2 : w8.cell? ⟨gb323, 2, none⟩ = some (.int .i64 a0_2) := (bC BK323.out 2).trans rfl; have hfz9_0 := bF BK323.out 0; have hfz9_1 := bF BK323.out 1; have hfz9_2 := bF BK323.out 2) | ((with_reducible refine gate_callee (f := 73) rfl ?_); refine goesL_ (some 4) rfl rfl Tryd.func73 (by kernel_rfl) rfl #[.agg #[.int .i64 a0_0, .int .i64 a0_1, .int .i64 a0_2]] rfl (by first | rfl | (simp only [List.map_toArray]; rfl)) ?_; (with_reducible refine (sawmillref36_Check.calls k a0_0 a0_1 a0_2 t324 _ A2.out).mono ?_); rintro e w10 ⟨rfl, hb⟩; refine ⟨_, rfl, ?_⟩; have n0_ := q_ (bB (g := gb323) (by (with_reducible repeat (first | refine bN ?_ _ | refine bW ?_ | refine bA ?_ _)); exact BK323.out) hb); have n1_ := q_ (pT (by repeat (first | (with_reducible first | exact HB.out | apply pA | apply pN | apply p1 | refine pS ?_ GE323.out) | exact HB.out)) hb); clear BK323; clear HB; have BK323 := n0_; have HB := n1_; clear n0_ n1_; (try clear hb); (try clear hb2); (try clear hk); (try clear hi)))
  go_ret
  exact ⟨by first | rfl | (simp [*] <;> rfl), by repeat (first | (with_reducible first | exact HB.out | apply pA | apply pN | apply p1 | refine pS ?_ GE323.out) | exact HB.out)⟩
end Go.Proofs.YtblmgmhjlbkncaaDoor.PA
namespace Go.Proofs.YtblmgmhjlbkncaaDoor.PA
open Go.RowKit Go.Proofs.YtblmgmhjlbkncaaDoorW.PrintWords Go.Proofs.YtblmgmhjlbkncaaDoorW.PrintLast Go.Proofs.YtblmgmhjlbkncaaDoorW.PrintMore
attribute [local go_sem] max2_int min2_int max_two min_two max_three min_three max_four min_four
set_option linter.unusedVariables false
set_option linter.unusedSimpArgs false
def sawmillref46_Fits.f (k : Nat) (a0_0 : ByteArray) (a0_1 : ByteArray) (a0_2 : Int) (a0_3 : Int) (a0_4 : Int) (a0_5 : Int) (a0_6 : Int) (a0_7 : Int) (a0_8 : Int) (a0_9 : Int) (a0_10 : Int) (a1_0 : ByteArray) (a1_1 : ByteArray) (a1_2 : ByteArray) (a1_3 : Int) (a1_4 : Int) (a1_5 : Int) (a1_6 : Int) (a1_7 : Int) (a1_8 : Int) (a1_9 : Int) (a1_10 : Int) (l1_11 : List (S176)) (a1_12 : Int) (a1_13 : Int) (a1_14 : Int) (a1_15 : Int) (a1_16 : Bool) (a1_17 : Int) : Option (Int) := if a1_2.toList = a0_1.toList then (if a1_3 = a0_2 then ((sawmillref30_Length.f a1_0 a1_1 a1_2 a1_3 a1_4 a1_5 a1_6 a1_7 a1_8 a1_9 a1_10 l1_11 a1_12 a1_13 a1_14 a1_15 a1_16 a1_17).bind fun t327 => (if t327 = a0_3 then (if a1_16 = true then ((sawmillref36_Mean.f k a1_13 a1_14 a1_15).bind fun t328 => (if t328 > a0_5 then (some 25) else (if a1_17 < 1 then (some 26) else (if a1_17 > a0_4 then (some 26) else (some 0))))) else (some 14)) else (some 20))) else (some 8)) else (some 24)
set_option maxHeartbeats 8000000 in
set_option maxRecDepth 100000 in
theorem sawmillref46_Fits.calls (k : Nat) (a0_0 : ByteArray) (a0_1 : ByteArray) (a0_2 : Int) (a0_3 : Int) (a0_4 : Int) (a0_5 : Int) (a0_6 : Int) (a0_7 : Int) (a0_8 : Int) (a0_9 : Int) (a0_10 : Int) (a1_0 : ByteArray) (a1_1 : ByteArray) (a1_2 : ByteArray) (a1_3 : Int) (a1_4 : Int) (a1_5 : Int) (a1_6 : Int) (a1_7 : Int) (a1_8 : Int) (a1_9 : Int) (a1_10 : Int) (A1_11 : Option Addr) (c1_11 : Nat) (l1_11 : List (S176)) (a1_12 : Int) (a1_13 : Int) (a1_14 : Int) (a1_15 : Int) (a1_16 : Bool) (a1_17 : Int) (r : Int) (w : World) (hr1_11 : Kd.C k176 w A1_11 l1_11.length l1_11) (hc1_11 : l1_11.length ≤ c1_11) (h : sawmillref46_Fits.f k a0_0 a0_1 a0_2 a0_3 a0_4 a0_5 a0_6 a0_7 a0_8 a0_9 a0_10 a1_0 a1_1 a1_2 a1_3 a1_4 a1_5 a1_6 a1_7 a1_8 a1_9 a1_10 l1_11 a1_12 a1_13 a1_14 a1_15 a1_16 a1_17 = some r) :
  Calls Tryd.prog 15 #[.agg #[.string a0_0, .string a0_1, .int .i64 a0_2, .int .i64 a0_3, .int .i64 a0_4, .int .i64 a0_5, .int .i64 a0_6, .int .i64 a0_7, .int .i64 a0_8, .int .i64 a0_9, .int .i64 a0_10], .agg #[.string a1_0, .string a1_1, .string a1_2, .int .i64 a1_3, .int .i64 a1_4, .int .i64 a1_5, .int .i64 a1_6, .int .i64 a1_7, .int .i64 a1_8, .int .i64 a1_9, .int .i64 a1_10, .slice A1_11 l1_11.length c1_11, .int .i64 a1_12, .int .i64 a1_13, .int .i64 a1_14, .int .i64 a1_15, .bool a1_16, .int .i64 a1_17]] w fun e w' => e = .returned (.int .i64 r) ∧ Below w.heap.size w w' := by
 have hu23 := Tryd.underlying23
 have hu38 := Tryd.underlying38
 have hu36 := Tryd.underlying36
 have HB := q_ (Below.refl w.heap.size w)
 have HR := Aside0.mk hr1_11
 have HL := Aside0.mk hc1_11
 clear hr1_11 hc1_11
 unfold sawmillref46_Fits.f at h
 go_enter Tryd.func15, Tryd.ntmps15
 go_upto_region 1 with (first | ((with_reducible refine gate_dst (N := 2) rfl ?_); refine box_event ?hg (N := 2) ?hd (cs := #[.string a0_0, .string a0_1, .int .i64 a0_2, .int .i64 a0_3, .int .i64 a0_4, .int .i64 a0_5, .int .i64 a0_6, .int .i64 a0_7, .int .i64 a0_8, .int .i64 a0_9, .int .i64 a0_10]) (t := 23) ?hr ?_; (case hd => rfl); (case hg => rfl); (case hr => first | (go_simp; done) | (go_simp; rfl)); intro go hg w1 hbox hb; have BKo := Aside0.mk hbox; replace HB := q_ (pT HB.out hb); clear hb hbox hg) | ((with_reducible refine gate_dst (N := 3) rfl ?_); refine box_event ?hg (N := 3) ?hd (cs := #[.string a1_0, .string a1_1, .string a1_2, .int .i64 a1_3, .int .i64 a1_4, .int .i64 a1_5, .int .i64 a1_6, .int .i64 a1_7, .int .i64 a1_8, .int .i64 a1_9, .int .i64 a1_10, .slice A1_11 l1_11.length c1_11, .int .i64 a1_12, .int .i64 a1_13, .int .i64 a1_14, .int .i64 a1_15, .bool a1_16, .int .i64 a1_17]) (t := 38) ?hr ?_; (case hd => rfl); (case hg => rfl); (case hr => first | (go_simp; done) | (go_simp; rfl)); intro gb hg w2 hbox hb; replace BKo := q_ (bB BKo.out hb); have BKb := Aside0.mk hbox; replace HB := q_ (pT HB.out hb); clear hb hbox hg))
 try simp only [Act.put, List.setIfInBounds_toArray, List.set_cons_zero, List.set_cons_succ]
 have czo := blk_all BKo.out
 simp only [CellsAt, List.toList_toArray, Nat.reduceAdd, and_true] at czo
 have fzo := bF BKo.out
 have czb := blk_all BKb.out
 simp only [CellsAt, List.toList_toArray, Nat.reduceAdd, and_true] at czb
 have fzb := bF BKb.out
 by_cases c1 : a1_2.toList = a0_1.toList
 case neg =>
  rw [if_neg c1] at h
  have c1a : (a1_2.toList == a0_1.toList) = false := oC c1
  have c1b : (a1_2.toList != a0_1.toList) = true := bne_iff_ne.mpr c1
  obtain rfl := Option.some.inj h
  go_wp2
  go_ret
  exact ⟨rfl, HB.out⟩
 rw [if_pos c1] at h
 have c1a : (a1_2.toList == a0_1.toList) = true := beq_iff_eq.mpr c1
 have c1b : (a1_2.toList != a0_1.toList) = false := oD c1
 clear c1
 by_cases c2 : a1_3 = a0_2
 case neg =>
  rw [if_neg c2] at h
  have c2a : (a1_3 == a0_2) = false := oC c2
  have c2b : (a1_3 != a0_2) = true := bne_iff_ne.mpr c2
  obtain rfl := Option.some.inj h
  go_wp2
  go_ret
  exact ⟨rfl, HB.out⟩
 rw [if_pos c2] at h
 have c2a : (a1_3 == a0_2) = true := beq_iff_eq.mpr c2
 have c2b : (a1_3 != a0_2) = false := oD c2
 clear c2
 replace h := oB h
 obtain ⟨t1, hl_, h⟩ := h
 have HT1 := Aside0.mk hl_
 clear hl_
 replace h : (if t1 = a0_3 then _ else _) = some r := h
 have h' := Aside0.mk h
 clear h
 go_wp2
 clear c1a c1b c2a c2b
 clear czo fzo czb fzb
 replace BKo := q_ (bW BKo.out)
 replace BKb := q_ (bW BKb.out)
 replace HB := q_ (p1 HB.out)
 try simp only [Act.put, List.setIfInBounds_toArray, List.set_cons_zero, List.set_cons_succ]
 refine start_ (n := 5) (S := fun w' => w'.heap[go]? = some (.cells #[.string a0_0, .string a0_1, .int .i64 a0_2, .int .i64 a0_3, .int .i64 a0_4, .int .i64 a0_5, .int .i64 a0_6, .int .i64 a0_7, .int .i64 a0_8, .int .i64 a0_9, .int .i64 a0_10] 23 (0, 0)) ∧ w'.heap[gb]? = some (.cells #[.string a1_0, .string a1_1, .string a1_2, .int .i64 a1_3, .int .i64 a1_4, .int .i64 a1_5, .int .i64 a1_6, .int .i64 a1_7, .int .i64 a1_8, .int .i64 a1_9, .int .i64 a1_10, .slice A1_11 l1_11.length c1_11, .int .i64 a1_12, .int .i64 a1_13, .int .i64 a1_14, .int .i64 a1_15, .bool a1_16, .int .i64 a1_17] 38 (0, 0))) (ds := []) #[false, false, false, false, false] (by kernel_rfl) rfl rfl ⟨BKo.out, BKb.out⟩ (fun hHeld => ?_)
 clear hHeld
 generalize w2.drew = w3 at BKo BKb HB ⊢
 refine pure_ (i := 2) (N := some 17) (v := ?_) (a' := ?_) #[false, false, true, false, false] rfl rfl (by kernel_rfl) (fun _ _ _ h => h) (Or.inl ⟨by rfl, ?_⟩) ?_ ?_
 rotate_left
 ·intro w'
  go_simp
  with_reducible rfl
 rotate_left
 ·simp only [Act.put, List.setIfInBounds_toArray, List.set_cons_zero, List.set_cons_succ, i64_w, i32_w]
  rfl
 refine take_ (i := 0) (N := some 15) (v := ?_) (a' := ?_) #[true, false, true, false, false] rfl rfl (by kernel_rfl) (fun _ _ _ h => h) (Or.inl ⟨by rfl, ?_⟩) ⟨BKo.out, BKb.out⟩ ?_ ?_
 rotate_left
 ·rintro w' ⟨s0, s1⟩
  refine exec_load_blk 38 (.tmp 3) ?_ gb ?_ s1 hu38 rfl ?_
  ·exact rfl
  ·exact rfl
  ·kernel_rfl
 rotate_left
 ·simp only [Act.put, List.setIfInBounds_toArray, List.set_cons_zero, List.set_cons_succ, i64_w, i32_w]
  rfl
 refine take_ (i := 3) (N := some 18) (v := ?_) (a' := ?_) #[true, false, true, true, false] rfl rfl (by kernel_rfl) (fun _ _ _ h => h) (Or.inl ⟨by rfl, ?_⟩) ⟨BKo.out, BKb.out⟩ ?_ ?_
 rotate_left
 ·rintro w' ⟨s0, s1⟩
  have hz := blk_all s0
  simp only [CellsAt, List.toList_toArray, Nat.reduceAdd, and_true] at hz
  go_simp
  with_reducible rfl
 rotate_left
 ·simp only [Act.put, List.setIfInBounds_toArray, List.set_cons_zero, List.set_cons_succ, i64_w, i32_w]
  rfl
 refine one_ (i := 1) (N := some 16) #[true, true, true, true, false] rfl rfl (by kernel_rfl) (by decide) (fun K hK => ?_)
 refine goes_ Tryd.func39 (by kernel_rfl) rfl #[.agg #[.string a1_0, .string a1_1, .string a1_2, .int .i64 a1_3, .int .i64 a1_4, .int .i64 a1_5, .int .i64 a1_6, .int .i64 a1_7, .int .i64 a1_8, .int .i64 a1_9, .int .i64 a1_10, .slice A1_11 l1_11.length c1_11, .int .i64 a1_12, .int .i64 a1_13, .int .i64 a1_14, .int .i64 a1_15, .bool a1_16, .int .i64 a1_17]] (by rfl) rfl rfl (by first | rfl | (simp only [List.map_toArray, List.map_cons, List.map_nil]; rfl)) ?_
 refine (sawmillref30_Length.calls a1_0 a1_1 a1_2 a1_3 a1_4 a1_5 a1_6 a1_7 a1_8 a1_9 a1_10 A1_11 c1_11 l1_11 a1_12 a1_13 a1_14 a1_15 a1_16 a1_17 t1 _ ?_ ?_ HT1.out).mono ?_
 ·exact Kd.C_below HR.out HB.out
 ·exact HL.out
 rintro e w4 ⟨rfl, hb⟩
 refine ⟨_, rfl, ?_⟩
 replace HB := q_ (pT HB.out hb)
 replace BKo := q_ (bB BKo.out hb)
 replace BKb := q_ (bB BKb.out hb)
 clear hb
 refine hK.out _ _ ⟨BKo.out, BKb.out⟩ (fun hHeld => ?_)
 clear hK K hHeld
 refine norm_ (a' := ?_) ?_ ?_
 rotate_left
 ·show Act.put _ (some 16) _ = _
  simp only [Act.put, List.setIfInBounds_toArray, List.set_cons_zero, List.set_cons_succ, i64_w, i32_w]
  rfl
 refine pure_ (i := 4) (N := some 19) (v := ?_) (a' := ?_) #[true, true, true, true, true] rfl rfl (by kernel_rfl) (fun _ _ _ h => h) (Or.inl ⟨by rfl, ?_⟩) ?_ ?_
 rotate_left
 ·intro w'
  go_simp
  with_reducible rfl
 rotate_left
 ·simp only [Act.put, List.setIfInBounds_toArray, List.set_cons_zero, List.set_cons_succ, i64_w, i32_w]
  rfl
 refine done_ (by kernel_rfl) ?_
 have czo := blk_all BKo.out
 simp only [CellsAt, List.toList_toArray, Nat.reduceAdd, and_true] at czo
 have fzo := bF BKo.out
 have czb := blk_all BKb.out
 simp only [CellsAt, List.toList_toArray, Nat.reduceAdd, and_true] at czb
 have fzb := bF BKb.out
 by_cases c3 : t1 = a0_3
 case neg =>
  have h := h'.out
  clear h'
  rw [if_neg c3] at h
  have c3a : (t1 == a0_3) = false := oC c3
  have c3b : (t1 != a0_3) = true := bne_iff_ne.mpr c3
  obtain rfl := Option.some.inj h
  go_wp2
  go_ret
  exact ⟨rfl, HB.out⟩
 have h := h'.out
 clear h'
 rw [if_pos c3] at h
 have c3a : (t1 == a0_3) = true := beq_iff_eq.mpr c3
 have c3b : (t1 != a0_3) = false := oD c3
 clear c3
 cases a1_16 with
 | false =>
  rw [if_neg (by decide)] at h
  obtain rfl := Option.some.inj h
  go_wp2
  go_ret
  exact ⟨rfl, HB.out⟩
 | true =>
  rw [if_pos rfl] at h
  replace h := oB h
  obtain ⟨t2, hl_, h⟩ := h
  have HT2 := Aside0.mk hl_
  clear hl_
  replace h : (if t2 > a0_5 then _ else _) = some r := h
  have h' := Aside0.mk h
  clear h
  go_wp2
  clear c3a c3b
  clear czo fzo czb fzb
  replace BKo := q_ (bW BKo.out)
  replace BKb := q_ (bW BKb.out)
  replace HB := q_ (p1 HB.out)
  try simp only [Act.put, List.setIfInBounds_toArray, List.set_cons_zero, List.set_cons_succ]
  refine start_ (n := 6) (S := fun w' => w'.heap[go]? = some (.cells #[.string a0_0, .string a0_1, .int .i64 a0_2, .int .i64 a0_3, .int .i64 a0_4, .int .i64 a0_5, .int .i64 a0_6, .int .i64 a0_7, .int .i64 a0_8, .int .i64 a0_9, .int .i64 a0_10] 23 (0, 0)) ∧ w'.heap[gb]? = some (.cells #[.string a1_0, .string a1_1, .string a1_2, .int .i64 a1_3, .int .i64 a1_4, .int .i64 a1_5, .int .i64 a1_6, .int .i64 a1_7, .int .i64 a1_8, .int .i64 a1_9, .int .i64 a1_10, .slice A1_11 l1_11.length c1_11, .int .i64 a1_12, .int .i64 a1_13, .int .i64 a1_14, .int .i64 a1_15, .bool true, .int .i64 a1_17] 38 (0, 0))) (ds := []) #[false, false, false, false, false, false] (by kernel_rfl) rfl rfl ⟨BKo.out, BKb.out⟩ (fun hHeld => ?_)
  clear hHeld
  generalize w4.drew = w5 at BKo BKb HB ⊢
  refine pure_ (i := 0) (N := some 23) (v := ?_) (a' := ?_) #[true, false, false, false, false, false] rfl rfl (by kernel_rfl) (fun _ _ _ h => h) (Or.inl ⟨by rfl, ?_⟩) ?_ ?_
  rotate_left
  ·intro w'
   go_simp
   with_reducible rfl
  rotate_left
  ·simp only [Act.put, List.setIfInBounds_toArray, List.set_cons_zero, List.set_cons_succ, i64_w, i32_w]
   rfl
  refine pure_ (i := 3) (N := some 26) (v := ?_) (a' := ?_) #[true, false, false, true, false, false] rfl rfl (by kernel_rfl) (fun _ _ _ h => h) (Or.inl ⟨by rfl, ?_⟩) ?_ ?_
  rotate_left
  ·intro w'
   go_simp
   with_reducible rfl
  rotate_left
  ·simp only [Act.put, List.setIfInBounds_toArray, List.set_cons_zero, List.set_cons_succ, i64_w, i32_w]
   rfl
  refine take_ (i := 1) (N := some 24) (v := ?_) (a' := ?_) #[true, true, false, true, false, false] rfl rfl (by kernel_rfl) (fun _ _ _ h => h) (Or.inl ⟨by rfl, ?_⟩) ⟨BKo.out, BKb.out⟩ ?_ ?_
  rotate_left
  ·rintro w' ⟨s0, s1⟩
   have hz := blk_all s1
   simp only [CellsAt, List.toList_toArray, Nat.reduceAdd, and_true] at hz
   go_simp
   with_reducible rfl
  rotate_left
  ·simp only [Act.put, List.setIfInBounds_toArray, List.set_cons_zero, List.set_cons_succ, i64_w, i32_w]
   rfl
  refine take_ (i := 4) (N := some 27) (v := ?_) (a' := ?_) #[true, true, false, true, true, false] rfl rfl (by kernel_rfl) (fun _ _ _ h => h) (Or.inl ⟨by rfl, ?_⟩) ⟨BKo.out, BKb.out⟩ ?_ ?_
  rotate_left
  ·rintro w' ⟨s0, s1⟩
   have hz := blk_all s0
   simp only [CellsAt, List.toList_toArray, Nat.reduceAdd, and_true] at hz
   go_simp
   with_reducible rfl
  rotate_left
  ·simp only [Act.put, List.setIfInBounds_toArray, List.set_cons_zero, List.set_cons_succ, i64_w, i32_w]
   rfl
  refine one_ (i := 2) (N := some 25) #[true, true, true, true, true, false] rfl rfl (by kernel_rfl) (by decide) (fun K hK => ?_)
  refine goes_ Tryd.func40 (by kernel_rfl) rfl #[.agg #[.int .i64 a1_13, .int .i64 a1_14, .int .i64 a1_15]] (by rfl) rfl rfl (by first | rfl | (simp only [List.map_toArray, List.map_cons, List.map_nil]; rfl)) ?_
  refine (sawmillref36_Mean.calls k a1_13 a1_14 a1_15 t2 _ HT2.out).mono ?_
  rintro e w6 ⟨rfl, hb⟩
  refine ⟨_, rfl, ?_⟩
  replace HB := q_ (pT HB.out hb)
  replace BKo := q_ (bB BKo.out hb)
  replace BKb := q_ (bB BKb.out hb)
  clear hb
  refine hK.out _ _ ⟨BKo.out, BKb.out⟩ (fun hHeld => ?_)
  clear hK K hHeld
  refine norm_ (a' := ?_) ?_ ?_
  rotate_left
  ·show Act.put _ (some 25) _ = _
   simp only [Act.put, List.setIfInBounds_toArray, List.set_cons_zero, List.set_cons_succ, i64_w, i32_w]
   rfl
  refine pure_ (i := 5) (N := some 28) (v := ?_) (a' := ?_) #[true, true, true, true, true, true] rfl rfl (by kernel_rfl) (fun _ _ _ h => h) (Or.inl ⟨by rfl, ?_⟩) ?_ ?_
  rotate_left
  ·intro w'
   go_simp
   with_reducible rfl
  rotate_left
  ·simp only [Act.put, List.setIfInBounds_toArray, List.set_cons_zero, List.set_cons_succ, i64_w, i32_w]
   rfl
  refine done_ (by kernel_rfl) ?_
  have czo := blk_all BKo.out
  simp only [CellsAt, List.toList_toArray, Nat.reduceAdd, and_true] at czo
  have fzo := bF BKo.out
  have czb := blk_all BKb.out
  simp only [CellsAt, List.toList_toArray, Nat.reduceAdd, and_true] at czb
  have fzb := bF BKb.out
  have h := h'.out
  clear h'
  by_cases c5 : t2 > a0_5
  case pos =>
   rw [if_pos c5] at h
   have c5a : decide (t2 > a0_5) = true := decide_eq_true c5
   obtain rfl := Option.some.inj h
   go_wp2
   go_ret
   exact ⟨rfl, HB.out⟩
  rw [if_neg c5] at h
  have c5a : decide (t2 > a0_5) = false := decide_eq_false c5
  have c5b : (a0_5 < t2) = False := eq_false c5
  by_cases c6 : a1_17 < 1
  case pos =>
   rw [if_pos c6] at h
   have c6a : decide (a1_17 < 1) = true := decide_eq_true c6
   obtain rfl := Option.some.inj h
   go_wp2
   go_ret
   exact ⟨rfl, HB.out⟩
  rw [if_neg c6] at h
  have c6a : decide (a1_17 < 1) = false := decide_eq_false c6
  by_cases c7 : a1_17 > a0_4
  case pos =>
   rw [if_pos c7] at h
   have c7a : decide (a1_17 > a0_4) = true := decide_eq_true c7
   obtain rfl := Option.some.inj h
   go_wp2
   go_ret
   exact ⟨rfl, HB.out⟩
  rw [if_neg c7] at h
  have c7a : decide (a1_17 > a0_4) = false := decide_eq_false c7
  obtain rfl := Option.some.inj h
  go_wp2
  go_ret
  exact ⟨rfl, HB.out⟩
end Go.Proofs.YtblmgmhjlbkncaaDoor.PA
namespace Go.Proofs.YtblmgmhjlbkncaaDoor.PA
open Go.RowKit Go.Proofs.YtblmgmhjlbkncaaDoorW.PrintWords Go.Proofs.YtblmgmhjlbkncaaDoorW.PrintLast Go.Proofs.YtblmgmhjlbkncaaDoorW.PrintMore
attribute [local go_sem] max2_int min2_int max_two min_two max_three min_three max_four min_four
set_option linter.unusedVariables false
set_option linter.unusedSimpArgs false
def sawmillref46_Least.f (a0_0 : ByteArray) (a0_1 : ByteArray) (a0_2 : Int) (a0_3 : Int) (a0_4 : Int) (a0_5 : Int) (a0_6 : Int) (a0_7 : Int) (a0_8 : Int) (a0_9 : Int) (a0_10 : Int) : Option (Int) := (sawmillref46_Sound.f a0_0 a0_1 a0_2 a0_3 a0_4 a0_5 a0_6 a0_7 a0_8 a0_9 a0_10).bind fun t330 => (if t330 = true then (some (wrap64 (a0_6 - a0_7))) else (some 0))
set_option maxHeartbeats 8000000 in
set_option maxRecDepth 100000 in
theorem sawmillref46_Least.calls (a0_0 : ByteArray) (a0_1 : ByteArray) (a0_2 : Int) (a0_3 : Int) (a0_4 : Int) (a0_5 : Int) (a0_6 : Int) (a0_7 : Int) (a0_8 : Int) (a0_9 : Int) (a0_10 : Int) (r : Int) (w : World) (h : sawmillref46_Least.f a0_0 a0_1 a0_2 a0_3 a0_4 a0_5 a0_6 a0_7 a0_8 a0_9 a0_10 = some r) :
  Calls Tryd.prog 17 #[.agg #[.string a0_0, .string a0_1, .int .i64 a0_2, .int .i64 a0_3, .int .i64 a0_4, .int .i64 a0_5, .int .i64 a0_6, .int .i64 a0_7, .int .i64 a0_8, .int .i64 a0_9, .int .i64 a0_10]] w fun e w' => e = .returned (.int .i64 r) ∧ Below w.heap.size w w' := by
 have hu23 := Tryd.underlying23
 have HB := q_ (Below.refl w.heap.size w)
 have H : ((sawmillref46_Sound.f a0_0 a0_1 a0_2 a0_3 a0_4 a0_5 a0_6 a0_7 a0_8 a0_9 a0_10).bind fun t330 => (if t330 = true then (some (wrap64 (a0_6 - a0_7))) else (some 0))) = some r := h
 clear h
 replace H := oB H
 obtain ⟨t330, A20, H⟩ := H
 replace H : (if t330 = true then (some (wrap64 (a0_6 - a0_7))) else (some 0)) = some r := H
 have A2 := Aside0.mk A20
 clear A20
 by_cases c3 : t330 = true
 ·subst c3
  have H1 : (some (wrap64 (a0_6 - a0_7))) = some r := by rw [if_pos rfl] at H; exact H
  clear H
  have H := H1
  clear H1
  obtain rfl := Option.some.inj H
  go_enter Tryd.func17, Tryd.ntmps17
  go_wp2_with (first | (refine wpList_load_cells (by rfl) 23 _ (by exact rfl) ⟨gb329, 0, none⟩ (by rfl) _ _ (cells_of_blk (by (with_reducible repeat (first | refine bN ?_ _ | refine bW ?_ | refine bA ?_ _)); exact BK329.out)) Tryd.underlying23 rfl (by kernel_rfl) ?_) | ((with_reducible refine gate_dst (N := 1) rfl ?_); refine box_event ?hg (N := 1) ?hd (cs := #[.string a0_0, .string a0_1, .int .i64 a0_2, .int .i64 a0_3, .int .i64 a0_4, .int .i64 a0_5, .int .i64 a0_6, .int .i64 a0_7, .int .i64 a0_8, .int .i64 a0_9, .int .i64 a0_10]) (t := 23) ?hr ?_; (case hd => rfl); (case hg => rfl); (case hr => first | (go_simp; done) | (go_simp; rfl)); intro gb329 hg w4 hbox hb; have n0_ := q_ (pT (by repeat (first | (with_reducible first | exact HB.out | apply pA | apply pN | apply p1) | exact HB.out)) hb); have n1_ := q_ (hbox); have n2_ := q_ ((by rw [hg]; exact (pZ (by repeat (first | (with_reducible first | exact HB.out | apply pA | apply pN | apply p1) | exact HB.out))) : w.heap.size ≤ gb329)); have n3_ := n2_; clear HB; have HB := n0_; have BK329 := n1_; have GW329 := n2_; have GE329 := n3_; clear n0_ n1_ n2_ n3_; clear hb hbox hg; have hcz5 := blk_all BK329.out; simp only [CellsAt, List.toList_toArray, Nat.reduceAdd, and_true] at hcz5; have hfz5 := bF BK329.out) | ((with_reducible refine gate_callee (f := 36) rfl ?_); refine goesL_ (some 4) rfl rfl Tryd.func36 (by kernel_rfl) rfl #[.agg #[.string a0_0, .string a0_1, .int .i64 a0_2, .int .i64 a0_3, .int .i64 a0_4, .int .i64 a0_5, .int .i64 a0_6, .int .i64 a0_7, .int .i64 a0_8, .int .i64 a0_9, .int .i64 a0_10]] rfl (by first | rfl | (simp only [List.map_toArray]; rfl)) ?_; (with_reducible refine (sawmillref46_Sound.calls a0_0 a0_1 a0_2 a0_3 a0_4 a0_5 a0_6 a0_7 a0_8 a0_9 a0_10 true _ A2.out).mono ?_); rintro e w6 ⟨rfl, hb⟩; refine ⟨_, rfl, ?_⟩; have n0_ := q_ (bB (g := gb329) (by (with_reducible repeat (first | refine bN ?_ _ | refine bW ?_ | refine bA ?_ _)); exact BK329.out) hb); have n1_ := q_ (pT (by repeat (first | (with_reducible first | exact HB.out | apply pA | apply pN | apply p1 | refine pS ?_ GE329.out) | exact HB.out)) hb); clear BK329; clear HB; have BK329 := n0_; have HB := n1_; clear n0_ n1_; (try clear hb); (try clear hb2); (try clear hk); (try clear hi); have hcz7 := blk_all BK329.out; simp only [CellsAt, List.toList_toArray, Nat.reduceAdd, and_true] at hcz7; have hfz7 := bF BK329.out))
  go_ret
  exact ⟨by first | rfl | (simp [*] <;> rfl), by repeat (first | (with_reducible first | exact HB.out | apply pA | apply pN | apply p1 | refine pS ?_ GE329.out) | exact HB.out)⟩
 ·replace c3 := Bool.eq_false_iff.mpr c3
  subst c3
  have H1 : (some 0) = some r := by rw [if_neg (show ¬ (false = true) by decide)] at H; exact H
  clear H
  have H := H1
  clear H1
  obtain rfl := Option.some.inj H
  go_enter Tryd.func17, Tryd.ntmps17
  go_wp2_with (first | (refine wpList_load_cells (by rfl) 23 _ (by exact rfl) ⟨gb329, 0, none⟩ (by rfl) _ _ (cells_of_blk (by (with_reducible repeat (first | refine bN ?_ _ | refine bW ?_ | refine bA ?_ _)); exact BK329.out)) Tryd.underlying23 rfl (by kernel_rfl) ?_) | ((with_reducible refine gate_dst (N := 1) rfl ?_); refine box_event ?hg (N := 1) ?hd (cs := #[.string a0_0, .string a0_1, .int .i64 a0_2, .int .i64 a0_3, .int .i64 a0_4, .int .i64 a0_5, .int .i64 a0_6, .int .i64 a0_7, .int .i64 a0_8, .int .i64 a0_9, .int .i64 a0_10]) (t := 23) ?hr ?_; (case hd => rfl); (case hg => rfl); (case hr => first | (go_simp; done) | (go_simp; rfl)); intro gb329 hg w8 hbox hb; have n0_ := q_ (pT (by repeat (first | (with_reducible first | exact HB.out | apply pA | apply pN | apply p1) | exact HB.out)) hb); have n1_ := q_ (hbox); have n2_ := q_ ((by rw [hg]; exact (pZ (by repeat (first | (with_reducible first | exact HB.out | apply pA | apply pN | apply p1) | exact HB.out))) : w.heap.size ≤ gb329)); have n3_ := n2_; clear HB; have HB := n0_; have BK329 := n1_; have GW329 := n2_; have GE329 := n3_; clear n0_ n1_ n2_ n3_; clear hb hbox hg; have hcz9 := blk_all BK329.out; simp only [CellsAt, List.toList_toArray, Nat.reduceAdd, and_true] at hcz9; have hfz9 := bF BK329.out) | ((with_reducible refine gate_callee (f := 36) rfl ?_); refine goesL_ (some 4) rfl rfl Tryd.func36 (by kernel_rfl) rfl #[.agg #[.string a0_0, .string a0_1, .int .i64 a0_2, .int .i64 a0_3, .int .i64 a0_4, .int .i64 a0_5, .int .i64 a0_6, .int .i64 a0_7, .int .i64 a0_8, .int .i64 a0_9, .int .i64 a0_10]] rfl (by first | rfl | (simp only [List.map_toArray]; rfl)) ?_; (with_reducible refine (sawmillref46_Sound.calls a0_0 a0_1 a0_2 a0_3 a0_4 a0_5 a0_6 a0_7 a0_8 a0_9 a0_10 false _ A2.out).mono ?_); rintro e w10 ⟨rfl, hb⟩; refine ⟨_, rfl, ?_⟩; have n0_ := q_ (bB (g := gb329) (by (with_reducible repeat (first | refine bN ?_ _ | refine bW ?_ | refine bA ?_ _)); exact BK329.out) hb); have n1_ := q_ (pT (by repeat (first | (with_reducible first | exact HB.out | apply pA | apply pN | apply p1 | refine pS ?_ GE329.out) | exact HB.out)) hb); clear BK329; clear HB; have BK329 := n0_; have HB := n1_; clear n0_ n1_; (try clear hb); (try clear hb2); (try clear hk); (try clear hi)))
  go_ret
  exact ⟨by first | rfl | (simp [*] <;> rfl), by repeat (first | (with_reducible first | exact HB.out | apply pA | apply pN | apply p1 | refine pS ?_ GE329.out) | exact HB.out)⟩
def sawmillref46_Most.f (a0_0 : ByteArray) (a0_1 : ByteArray) (a0_2 : Int) (a0_3 : Int) (a0_4 : Int) (a0_5 : Int) (a0_6 : Int) (a0_7 : Int) (a0_8 : Int) (a0_9 : Int) (a0_10 : Int) : Option (Int) := (sawmillref46_Sound.f a0_0 a0_1 a0_2 a0_3 a0_4 a0_5 a0_6 a0_7 a0_8 a0_9 a0_10).bind fun t332 => (if t332 = true then (some (wrap64 (a0_6 + a0_8))) else (some 0))
set_option maxHeartbeats 8000000 in
set_option maxRecDepth 100000 in
theorem sawmillref46_Most.calls (a0_0 : ByteArray) (a0_1 : ByteArray) (a0_2 : Int) (a0_3 : Int) (a0_4 : Int) (a0_5 : Int) (a0_6 : Int) (a0_7 : Int) (a0_8 : Int) (a0_9 : Int) (a0_10 : Int) (r : Int) (w : World) (h : sawmillref46_Most.f a0_0 a0_1 a0_2 a0_3 a0_4 a0_5 a0_6 a0_7 a0_8 a0_9 a0_10 = some r) :
  Calls Tryd.prog 19 #[.agg #[.string a0_0, .string a0_1, .int .i64 a0_2, .int .i64 a0_3, .int .i64 a0_4, .int .i64 a0_5, .int .i64 a0_6, .int .i64 a0_7, .int .i64 a0_8, .int .i64 a0_9, .int .i64 a0_10]] w fun e w' => e = .returned (.int .i64 r) ∧ Below w.heap.size w w' := by
 have hu23 := Tryd.underlying23
 have HB := q_ (Below.refl w.heap.size w)
 have H : ((sawmillref46_Sound.f a0_0 a0_1 a0_2 a0_3 a0_4 a0_5 a0_6 a0_7 a0_8 a0_9 a0_10).bind fun t332 => (if t332 = true then (some (wrap64 (a0_6 + a0_8))) else (some 0))) = some r := h
 clear h
 replace H := oB H
 obtain ⟨t332, A20, H⟩ := H
 replace H : (if t332 = true then (some (wrap64 (a0_6 + a0_8))) else (some 0)) = some r := H
 have A2 := Aside0.mk A20
 clear A20
 by_cases c3 : t332 = true
 ·subst c3
  have H1 : (some (wrap64 (a0_6 + a0_8))) = some r := by rw [if_pos rfl] at H; exact H
  clear H
  have H := H1
  clear H1
  obtain rfl := Option.some.inj H
  go_enter Tryd.func19, Tryd.ntmps19
  go_wp2_with (first | (refine wpList_load_cells (by rfl) 23 _ (by exact rfl) ⟨gb331, 0, none⟩ (by rfl) _ _ (cells_of_blk (by (with_reducible repeat (first | refine bN ?_ _ | refine bW ?_ | refine bA ?_ _)); exact BK331.out)) Tryd.underlying23 rfl (by kernel_rfl) ?_) | ((with_reducible refine gate_dst (N := 1) rfl ?_); refine box_event ?hg (N := 1) ?hd (cs := #[.string a0_0, .string a0_1, .int .i64 a0_2, .int .i64 a0_3, .int .i64 a0_4, .int .i64 a0_5, .int .i64 a0_6, .int .i64 a0_7, .int .i64 a0_8, .int .i64 a0_9, .int .i64 a0_10]) (t := 23) ?hr ?_; (case hd => rfl); (case hg => rfl); (case hr => first | (go_simp; done) | (go_simp; rfl)); intro gb331 hg w4 hbox hb; have n0_ := q_ (pT (by repeat (first | (with_reducible first | exact HB.out | apply pA | apply pN | apply p1) | exact HB.out)) hb); have n1_ := q_ (hbox); have n2_ := q_ ((by rw [hg]; exact (pZ (by repeat (first | (with_reducible first | exact HB.out | apply pA | apply pN | apply p1) | exact HB.out))) : w.heap.size ≤ gb331)); have n3_ := n2_; clear HB; have HB := n0_; have BK331 := n1_; have GW331 := n2_; have GE331 := n3_; clear n0_ n1_ n2_ n3_; clear hb hbox hg; have hcz5 := blk_all BK331.out; simp only [CellsAt, List.toList_toArray, Nat.reduceAdd, and_true] at hcz5; have hfz5 := bF BK331.out) | ((with_reducible refine gate_callee (f := 36) rfl ?_); refine goesL_ (some 4) rfl rfl Tryd.func36 (by kernel_rfl) rfl #[.agg #[.string a0_0, .string a0_1, .int .i64 a0_2, .int .i64 a0_3, .int .i64 a0_4, .int .i64 a0_5, .int .i64 a0_6, .int .i64 a0_7, .int .i64 a0_8, .int .i64 a0_9, .int .i64 a0_10]] rfl (by first | rfl | (simp only [List.map_toArray]; rfl)) ?_; (with_reducible refine (sawmillref46_Sound.calls a0_0 a0_1 a0_2 a0_3 a0_4 a0_5 a0_6 a0_7 a0_8 a0_9 a0_10 true _ A2.out).mono ?_); rintro e w6 ⟨rfl, hb⟩; refine ⟨_, rfl, ?_⟩; have n0_ := q_ (bB (g := gb331) (by (with_reducible repeat (first | refine bN ?_ _ | refine bW ?_ | refine bA ?_ _)); exact BK331.out) hb); have n1_ := q_ (pT (by repeat (first | (with_reducible first | exact HB.out | apply pA | apply pN | apply p1 | refine pS ?_ GE331.out) | exact HB.out)) hb); clear BK331; clear HB; have BK331 := n0_; have HB := n1_; clear n0_ n1_; (try clear hb); (try clear hb2); (try clear hk); (try clear hi); have hcz7 := blk_all BK331.out; simp only [CellsAt, List.toList_toArray, Nat.reduceAdd, and_true] at hcz7; have hfz7 := bF BK331.out))
  go_ret
  exact ⟨by first | rfl | (simp [*] <;> rfl), by repeat (first | (with_reducible first | exact HB.out | apply pA | apply pN | apply p1 | refine pS ?_ GE331.out) | exact HB.out)⟩
 ·replace c3 := Bool.eq_false_iff.mpr c3
  subst c3
  have H1 : (some 0) = some r := by rw [if_neg (show ¬ (false = true) by decide)] at H; exact H
  clear H
  have H := H1
  clear H1
  obtain rfl := Option.some.inj H
  go_enter Tryd.func19, Tryd.ntmps19
  go_wp2_with (first | (refine wpList_load_cells (by rfl) 23 _ (by exact rfl) ⟨gb331, 0, none⟩ (by rfl) _ _ (cells_of_blk (by (with_reducible repeat (first | refine bN ?_ _ | refine bW ?_ | refine bA ?_ _)); exact BK331.out)) Tryd.underlying23 rfl (by kernel_rfl) ?_) | ((with_reducible refine gate_dst (N := 1) rfl ?_); refine box_event ?hg (N := 1) ?hd (cs := #[.string a0_0, .string a0_1, .int .i64 a0_2, .int .i64 a0_3, .int .i64 a0_4, .int .i64 a0_5, .int .i64 a0_6, .int .i64 a0_7, .int .i64 a0_8, .int .i64 a0_9, .int .i64 a0_10]) (t := 23) ?hr ?_; (case hd => rfl); (case hg => rfl); (case hr => first | (go_simp; done) | (go_simp; rfl)); intro gb331 hg w8 hbox hb; have n0_ := q_ (pT (by repeat (first | (with_reducible first | exact HB.out | apply pA | apply pN | apply p1) | exact HB.out)) hb); have n1_ := q_ (hbox); have n2_ := q_ ((by rw [hg]; exact (pZ (by repeat (first | (with_reducible first | exact HB.out | apply pA | apply pN | apply p1) | exact HB.out))) : w.heap.size ≤ gb331)); have n3_ := n2_; clear HB; have HB := n0_; have BK331 := n1_; have GW331 := n2_; have GE331 := n3_; clear n0_ n1_ n2_ n3_; clear hb hbox hg; have hcz9 := blk_all BK331.out; simp only [CellsAt, List.toList_toArray, Nat.reduceAdd, and_true] at hcz9; have hfz9 := bF BK331.out) | ((with_reducible refine gate_callee (f := 36) rfl ?_); refine goesL_ (some 4) rfl rfl Tryd.func36 (by kernel_rfl) rfl #[.agg #[.string a0_0, .string a0_1, .int .i64 a0_2, .int .i64 a0_3, .int .i64 a0_4, .int .i64 a0_5, .int .i64 a0_6, .int .i64 a0_7, .int .i64 a0_8, .int .i64 a0_9, .int .i64 a0_10]] rfl (by first | rfl | (simp only [List.map_toArray]; rfl)) ?_; (with_reducible refine (sawmillref46_Sound.calls a0_0 a0_1 a0_2 a0_3 a0_4 a0_5 a0_6 a0_7 a0_8 a0_9 a0_10 false _ A2.out).mono ?_); rintro e w10 ⟨rfl, hb⟩; refine ⟨_, rfl, ?_⟩; have n0_ := q_ (bB (g := gb331) (by (with_reducible repeat (first | refine bN ?_ _ | refine bW ?_ | refine bA ?_ _)); exact BK331.out) hb); have n1_ := q_ (pT (by repeat (first | (with_reducible first | exact HB.out | apply pA | apply pN | apply p1 | refine pS ?_ GE331.out) | exact HB.out)) hb); clear BK331; clear HB; have BK331 := n0_; have HB := n1_; clear n0_ n1_; (try clear hb); (try clear hb2); (try clear hk); (try clear hi)))
  go_ret
  exact ⟨by first | rfl | (simp [*] <;> rfl), by repeat (first | (with_reducible first | exact HB.out | apply pA | apply pN | apply p1 | refine pS ?_ GE331.out) | exact HB.out)⟩
def sawmilllaw46_OrderFits.f (k : Nat) (a0_0 : ByteArray) (a0_1 : ByteArray) (a0_2 : Int) (a0_3 : Int) (a0_4 : Int) (a0_5 : Int) (a0_6 : Int) (a0_7 : Int) (a0_8 : Int) (a0_9 : Int) (a0_10 : Int) (a1_0 : ByteArray) (a1_1 : ByteArray) (a1_2 : ByteArray) (a1_3 : Int) (a1_4 : Int) (a1_5 : Int) (a1_6 : Int) (a1_7 : Int) (a1_8 : Int) (a1_9 : Int) (a1_10 : Int) (l1_11 : List (S176)) (a1_12 : Int) (a1_13 : Int) (a1_14 : Int) (a1_15 : Int) (a1_16 : Bool) (a1_17 : Int) : Option (Bool) := (order_Fits.f k a0_0 a0_1 a0_2 a0_3 a0_4 a0_5 a0_6 a0_7 a0_8 a0_9 a0_10 a1_0 a1_1 a1_2 a1_3 a1_4 a1_5 a1_6 a1_7 a1_8 a1_9 a1_10 l1_11 a1_12 a1_13 a1_14 a1_15 a1_16 a1_17).bind fun t335 => ((sawmillref46_Fits.f k a0_0 a0_1 a0_2 a0_3 a0_4 a0_5 a0_6 a0_7 a0_8 a0_9 a0_10 a1_0 a1_1 a1_2 a1_3 a1_4 a1_5 a1_6 a1_7 a1_8 a1_9 a1_10 l1_11 a1_12 a1_13 a1_14 a1_15 a1_16 a1_17).bind fun t336 => (if t335 = t336 then ((order_Least.f a0_0 a0_1 a0_2 a0_3 a0_4 a0_5 a0_6 a0_7 a0_8 a0_9 a0_10).bind fun t337 => ((sawmillref46_Least.f a0_0 a0_1 a0_2 a0_3 a0_4 a0_5 a0_6 a0_7 a0_8 a0_9 a0_10).bind fun t338 => (if t337 = t338 then ((order_Most.f a0_0 a0_1 a0_2 a0_3 a0_4 a0_5 a0_6 a0_7 a0_8 a0_9 a0_10).bind fun t339 => ((sawmillref46_Most.f a0_0 a0_1 a0_2 a0_3 a0_4 a0_5 a0_6 a0_7 a0_8 a0_9 a0_10).bind fun t340 => (if t339 = t340 then ((sawmilllaw46_awake.f).bind fun t341 => (some t341)) else (none)))) else (none)))) else (none)))
def sawmilllaw46_OrderFits.T1 : Bool × List (List Nat × List Nat) := (true, [([], []), ([], []), ([0, 1], [0, 1]), ([], []), ([], []), ([3, 4, 2], [3, 4]), ([2, 5], [2, 5]), ([6, 5], [6]), ([7], [7]), ([8, 7, 7], [7, 8]), ([7], [7]), ([10, 9, 7], [7, 10]), ([9, 11, 7], [7, 9, 11]), ([7, 12], [7, 12]), ([13, 11], [13]), ([14], [14]), ([15, 14, 14], [14, 15]), ([14], [14]), ([17, 16, 14], [14, 17]), ([16, 18, 14], [14, 16, 18]), ([14, 19], [14, 19]), ([20, 18], [20]), ([21, 21], [21]), ([21, 22], [21, 22]), ([23, 22, 0, 1, 2, 3, 4, 5, 6, 7, 8, 9, 10, 11, 12, 13, 14, 15, 16, 17, 18, 19, 20, 21, 22, 23], [23])])
def sawmilllaw46_OrderFits.B1 : List Nat := [0, 0, 3, 0, 0, 31, 63, 127, 255, 511, 255, 2047, 4095, 8191, 16383, 32767, 65535, 32767, 262143, 524287, 1048575, 2097151, 4194303, 8388607, 16777215]
theorem sawmilllaw46_OrderFits.tab1 : rtab .any (opsOf Tryd.f4 1) = sawmilllaw46_OrderFits.T1 := by kernel_rfl
theorem sawmilllaw46_OrderFits.bits1 : waitsOk sawmilllaw46_OrderFits.T1.2 sawmilllaw46_OrderFits.B1 = true := by kernel_rfl
set_option maxHeartbeats 8000000 in
set_option maxRecDepth 100000 in
theorem sawmilllaw46_OrderFits.calls (k : Nat) (a0_0 : ByteArray) (a0_1 : ByteArray) (a0_2 : Int) (a0_3 : Int) (a0_4 : Int) (a0_5 : Int) (a0_6 : Int) (a0_7 : Int) (a0_8 : Int) (a0_9 : Int) (a0_10 : Int) (a1_0 : ByteArray) (a1_1 : ByteArray) (a1_2 : ByteArray) (a1_3 : Int) (a1_4 : Int) (a1_5 : Int) (a1_6 : Int) (a1_7 : Int) (a1_8 : Int) (a1_9 : Int) (a1_10 : Int) (A1_11 : Option Addr) (c1_11 : Nat) (l1_11 : List (S176)) (a1_12 : Int) (a1_13 : Int) (a1_14 : Int) (a1_15 : Int) (a1_16 : Bool) (a1_17 : Int) (r : Bool) (w : World) (hr1_11 : Kd.C k176 w A1_11 l1_11.length l1_11) (hc1_11 : l1_11.length ≤ c1_11) (h : sawmilllaw46_OrderFits.f k a0_0 a0_1 a0_2 a0_3 a0_4 a0_5 a0_6 a0_7 a0_8 a0_9 a0_10 a1_0 a1_1 a1_2 a1_3 a1_4 a1_5 a1_6 a1_7 a1_8 a1_9 a1_10 l1_11 a1_12 a1_13 a1_14 a1_15 a1_16 a1_17 = some r) :
  Calls Tryd.prog 4 #[.agg #[.string a0_0, .string a0_1, .int .i64 a0_2, .int .i64 a0_3, .int .i64 a0_4, .int .i64 a0_5, .int .i64 a0_6, .int .i64 a0_7, .int .i64 a0_8, .int .i64 a0_9, .int .i64 a0_10], .agg #[.string a1_0, .string a1_1, .string a1_2, .int .i64 a1_3, .int .i64 a1_4, .int .i64 a1_5, .int .i64 a1_6, .int .i64 a1_7, .int .i64 a1_8, .int .i64 a1_9, .int .i64 a1_10, .slice A1_11 l1_11.length c1_11, .int .i64 a1_12, .int .i64 a1_13, .int .i64 a1_14, .int .i64 a1_15, .bool a1_16, .int .i64 a1_17]] w fun e w' => e = .returned (.bool r) ∧ Below w.heap.size w w' := by
 have hu23 := Tryd.underlying23
 have hu38 := Tryd.underlying38
 have HR1_11 := Aside0.mk hr1_11
 have HC1_11 := Aside0.mk hc1_11
 clear hr1_11 hc1_11
 have HB := q_ (Below.refl w.heap.size w)
 have H : ((order_Fits.f k a0_0 a0_1 a0_2 a0_3 a0_4 a0_5 a0_6 a0_7 a0_8 a0_9 a0_10 a1_0 a1_1 a1_2 a1_3 a1_4 a1_5 a1_6 a1_7 a1_8 a1_9 a1_10 l1_11 a1_12 a1_13 a1_14 a1_15 a1_16 a1_17).bind fun t335 => ((sawmillref46_Fits.f k a0_0 a0_1 a0_2 a0_3 a0_4 a0_5 a0_6 a0_7 a0_8 a0_9 a0_10 a1_0 a1_1 a1_2 a1_3 a1_4 a1_5 a1_6 a1_7 a1_8 a1_9 a1_10 l1_11 a1_12 a1_13 a1_14 a1_15 a1_16 a1_17).bind fun t336 => (if t335 = t336 then ((order_Least.f a0_0 a0_1 a0_2 a0_3 a0_4 a0_5 a0_6 a0_7 a0_8 a0_9 a0_10).bind fun t337 => ((sawmillref46_Least.f a0_0 a0_1 a0_2 a0_3 a0_4 a0_5 a0_6 a0_7 a0_8 a0_9 a0_10).bind fun t338 => (if t337 = t338 then ((order_Most.f a0_0 a0_1 a0_2 a0_3 a0_4 a0_5 a0_6 a0_7 a0_8 a0_9 a0_10).bind fun t339 => ((sawmillref46_Most.f a0_0 a0_1 a0_2 a0_3 a0_4 a0_5 a0_6 a0_7 a0_8 a0_9 a0_10).bind fun t340 => (if t339 = t340 then ((sawmilllaw46_awake.f).bind fun t341 => (some t341)) else (none)))) else (none)))) else (none)))) = some r := h
 clear h
 replace H := oB H
 obtain ⟨t335, A30, H⟩ := H
 replace H : ((sawmillref46_Fits.f k a0_0 a0_1 a0_2 a0_3 a0_4 a0_5 a0_6 a0_7 a0_8 a0_9 a0_10 a1_0 a1_1 a1_2 a1_3 a1_4 a1_5 a1_6 a1_7 a1_8 a1_9 a1_10 l1_11 a1_12 a1_13 a1_14 a1_15 a1_16 a1_17).bind fun t336 => (if t335 = t336 then ((order_Least.f a0_0 a0_1 a0_2 a0_3 a0_4 a0_5 a0_6 a0_7 a0_8 a0_9 a0_10).bind fun t337 => ((sawmillref46_Least.f a0_0 a0_1 a0_2 a0_3 a0_4 a0_5 a0_6 a0_7 a0_8 a0_9 a0_10).bind fun t338 => (if t337 = t338 then ((order_Most.f a0_0 a0_1 a0_2 a0_3 a0_4 a0_5 a0_6 a0_7 a0_8 a0_9 a0_10).bind fun t339 => ((sawmillref46_Most.f a0_0 a0_1 a0_2 a0_3 a0_4 a0_5 a0_6 a0_7 a0_8 a0_9 a0_10).bind fun t340 => (if t339 = t340 then ((sawmilllaw46_awake.f).bind fun t341 => (some t341)) else (none)))) else (none)))) else (none))) = some r := H
 have A3 := Aside0.mk A30
 clear A30
 replace H := oB H
 obtain ⟨t336, A40, H⟩ := H
 replace H : (if t335 = t336 then ((order_Least.f a0_0 a0_1 a0_2 a0_3 a0_4 a0_5 a0_6 a0_7 a0_8 a0_9 a0_10).bind fun t337 => ((sawmillref46_Least.f a0_0 a0_1 a0_2 a0_3 a0_4 a0_5 a0_6 a0_7 a0_8 a0_9 a0_10).bind fun t338 => (if t337 = t338 then ((order_Most.f a0_0 a0_1 a0_2 a0_3 a0_4 a0_5 a0_6 a0_7 a0_8 a0_9 a0_10).bind fun t339 => ((sawmillref46_Most.f a0_0 a0_1 a0_2 a0_3 a0_4 a0_5 a0_6 a0_7 a0_8 a0_9 a0_10).bind fun t340 => (if t339 = t340 then ((sawmilllaw46_awake.f).bind fun t341 => (some t341)) else (none)))) else (none)))) else (none)) = some r := H
 have A4 := Aside0.mk A40
 clear A40
 by_cases c5 : t335 = t336
 ·rw [if_pos c5] at H
  have c5b0 : (t335 == t336) = true := beq_iff_eq.mpr c5
  have c5b1 : (t335 != t336) = false := oD c5
  clear c5
  replace H := oB H
  obtain ⟨t337, A60, H⟩ := H
  replace H : ((sawmillref46_Least.f a0_0 a0_1 a0_2 a0_3 a0_4 a0_5 a0_6 a0_7 a0_8 a0_9 a0_10).bind fun t338 => (if t337 = t338 then ((order_Most.f a0_0 a0_1 a0_2 a0_3 a0_4 a0_5 a0_6 a0_7 a0_8 a0_9 a0_10).bind fun t339 => ((sawmillref46_Most.f a0_0 a0_1 a0_2 a0_3 a0_4 a0_5 a0_6 a0_7 a0_8 a0_9 a0_10).bind fun t340 => (if t339 = t340 then ((sawmilllaw46_awake.f).bind fun t341 => (some t341)) else (none)))) else (none))) = some r := H
  have A6 := Aside0.mk A60
  clear A60
  replace H := oB H
  obtain ⟨t338, A70, H⟩ := H
  replace H : (if t337 = t338 then ((order_Most.f a0_0 a0_1 a0_2 a0_3 a0_4 a0_5 a0_6 a0_7 a0_8 a0_9 a0_10).bind fun t339 => ((sawmillref46_Most.f a0_0 a0_1 a0_2 a0_3 a0_4 a0_5 a0_6 a0_7 a0_8 a0_9 a0_10).bind fun t340 => (if t339 = t340 then ((sawmilllaw46_awake.f).bind fun t341 => (some t341)) else (none)))) else (none)) = some r := H
  have A7 := Aside0.mk A70
  clear A70
  by_cases c8 : t337 = t338
  ·rw [if_pos c8] at H
   have c8b0 : (t337 == t338) = true := beq_iff_eq.mpr c8
   have c8b1 : (t337 != t338) = false := oD c8
   clear c8
   replace H := oB H
   obtain ⟨t339, A90, H⟩ := H
   replace H : ((sawmillref46_Most.f a0_0 a0_1 a0_2 a0_3 a0_4 a0_5 a0_6 a0_7 a0_8 a0_9 a0_10).bind fun t340 => (if t339 = t340 then ((sawmilllaw46_awake.f).bind fun t341 => (some t341)) else (none))) = some r := H
   have A9 := Aside0.mk A90
   clear A90
   replace H := oB H
   obtain ⟨t340, A100, H⟩ := H
   replace H : (if t339 = t340 then ((sawmilllaw46_awake.f).bind fun t341 => (some t341)) else (none)) = some r := H
   have A10 := Aside0.mk A100
   clear A100
   by_cases c11 : t339 = t340
   ·rw [if_pos c11] at H
    have c11b0 : (t339 == t340) = true := beq_iff_eq.mpr c11
    have c11b1 : (t339 != t340) = false := oD c11
    clear c11
    replace H := oB H
    obtain ⟨t341, A120, H⟩ := H
    replace H : (some t341) = some r := H
    have A12 := Aside0.mk A120
    clear A120
    obtain rfl := Option.some.inj H
    go_enter Tryd.func4, Tryd.ntmps4
    try go_wp2_with (first | (refine wpList_load_cells (by rfl) 23 _ (by exact rfl) ⟨gb333, 0, none⟩ (by rfl) _ _ (cells_of_blk (by (with_reducible repeat (first | refine bN ?_ _ | refine bW ?_ | refine bA ?_ _)); exact BK333.out)) Tryd.underlying23 rfl (by kernel_rfl) ?_) | (refine wpList_load_cells (by rfl) 38 _ (by exact rfl) ⟨gb334, 0, none⟩ (by rfl) _ _ (cells_of_blk (by (with_reducible repeat (first | refine bN ?_ _ | refine bW ?_ | refine bA ?_ _)); exact BK334.out)) Tryd.underlying38 rfl (by kernel_rfl) ?_) | ((with_reducible refine gate_dst (N := 2) rfl ?_); refine box_event ?hg (N := 2) ?hd (cs := #[.string a0_0, .string a0_1, .int .i64 a0_2, .int .i64 a0_3, .int .i64 a0_4, .int .i64 a0_5, .int .i64 a0_6, .int .i64 a0_7, .int .i64 a0_8, .int .i64 a0_9, .int .i64 a0_10]) (t := 23) ?hr ?_; (case hd => rfl); (case hg => rfl); (case hr => first | (go_simp; done) | (go_simp; rfl)); intro gb333 hg w13 hbox hb; have n0_ := q_ (pT (by repeat (first | (with_reducible first | exact HB.out | apply pA | apply pN | apply p1) | exact HB.out)) hb); have n1_ := q_ (hbox); have n2_ := q_ ((by rw [hg]; exact (pZ (by repeat (first | (with_reducible first | exact HB.out | apply pA | apply pN | apply p1) | exact HB.out))) : w.heap.size ≤ gb333)); have n3_ := n2_; clear HB; have HB := n0_; have BK333 := n1_; have GW333 := n2_; have GE333 := n3_; clear n0_ n1_ n2_ n3_; clear hb hbox hg) | ((with_reducible refine gate_dst (N := 3) rfl ?_); refine box_event ?hg (N := 3) ?hd (cs := #[.string a1_0, .string a1_1, .string a1_2, .int .i64 a1_3, .int .i64 a1_4, .int .i64 a1_5, .int .i64 a1_6, .int .i64 a1_7, .int .i64 a1_8, .int .i64 a1_9, .int .i64 a1_10, .slice A1_11 l1_11.length c1_11, .int .i64 a1_12, .int .i64 a1_13, .int .i64 a1_14, .int .i64 a1_15, .bool a1_16, .int .i64 a1_17]) (t := 38) ?hr ?_; (case hd => rfl); (case hg => rfl); (case hr => first | (go_simp; done) | (go_simp; rfl)); intro gb334 hg w14 hbox hb; have n0_ := q_ (bB (g := gb333) (by (with_reducible repeat (first | refine bN ?_ _ | refine bW ?_ | refine bA ?_ _)); exact BK333.out) hb); have n1_ := q_ (pT (by repeat (first | (with_reducible first | exact HB.out | apply pA | apply pN | apply p1 | refine pS ?_ GE333.out) | exact HB.out)) hb); have n2_ := q_ (hbox); have n3_ := q_ ((by rw [hg]; exact (pZ (by repeat (first | (with_reducible first | exact HB.out | apply pA | apply pN | apply p1 | refine pS ?_ GE333.out) | exact HB.out))) : w.heap.size ≤ gb334)); have n4_ := n3_; have n5_ := q_ ((by rw [hg]; exact Nat.ne_of_lt (blk_lt (g := gb333) (by (with_reducible repeat (first | refine bN ?_ _ | refine bW ?_ | refine bA ?_ _)); exact BK333.out)) : gb333 ≠ gb334)); have n6_ := q_ ((by rw [hg]; exact Nat.ne_of_gt (blk_lt (g := gb333) (by (with_reducible repeat (first | refine bN ?_ _ | refine bW ?_ | refine bA ?_ _)); exact BK333.out)) : gb334 ≠ gb333)); clear BK333; clear HB; have BK333 := n0_; have HB := n1_; have BK334 := n2_; have GW334 := n3_; have GE334 := n4_; have NB333_334 := n5_; have NB334_333 := n6_; clear n0_ n1_ n2_ n3_ n4_ n5_ n6_; clear hb hbox hg))
    have n0_ := q_ (bW BK333.out)
    have n1_ := q_ (bW BK334.out)
    have n2_ := q_ (p1 HB.out)
    clear BK333
    clear BK334
    clear HB
    have BK333 := n0_
    have BK334 := n1_
    have HB := n2_
    clear n0_ n1_ n2_
    refine start_ (n := 25) (S := fun w' => w'.cell? ⟨gb333, 0, none⟩ = some (.string a0_0) ∧ w'.cell? ⟨gb333, 1, none⟩ = some (.string a0_1) ∧ w'.cell? ⟨gb333, 2, none⟩ = some (.int .i64 a0_2) ∧ w'.cell? ⟨gb333, 3, none⟩ = some (.int .i64 a0_3) ∧ w'.cell? ⟨gb333, 4, none⟩ = some (.int .i64 a0_4) ∧ w'.cell? ⟨gb333, 5, none⟩ = some (.int .i64 a0_5) ∧ w'.cell? ⟨gb333, 6, none⟩ = some (.int .i64 a0_6) ∧ w'.cell? ⟨gb333, 7, none⟩ = some (.int .i64 a0_7) ∧ w'.cell? ⟨gb333, 8, none⟩ = some (.int .i64 a0_8) ∧ w'.cell? ⟨gb333, 9, none⟩ = some (.int .i64 a0_9) ∧ w'.cell? ⟨gb333, 10, none⟩ = some (.int .i64 a0_10) ∧ w'.cell? ⟨gb334, 0, none⟩ = some (.string a1_0) ∧ w'.cell? ⟨gb334, 1, none⟩ = some (.string a1_1) ∧ w'.cell? ⟨gb334, 2, none⟩ = some (.string a1_2) ∧ w'.cell? ⟨gb334, 3, none⟩ = some (.int .i64 a1_3) ∧ w'.cell? ⟨gb334, 4, none⟩ = some (.int .i64 a1_4) ∧ w'.cell? ⟨gb334, 5, none⟩ = some (.int .i64 a1_5) ∧ w'.cell? ⟨gb334, 6, none⟩ = some (.int .i64 a1_6) ∧ w'.cell? ⟨gb334, 7, none⟩ = some (.int .i64 a1_7) ∧ w'.cell? ⟨gb334, 8, none⟩ = some (.int .i64 a1_8) ∧ w'.cell? ⟨gb334, 9, none⟩ = some (.int .i64 a1_9) ∧ w'.cell? ⟨gb334, 10, none⟩ = some (.int .i64 a1_10) ∧ w'.cell? ⟨gb334, 11, none⟩ = some (.slice A1_11 l1_11.length c1_11) ∧ w'.cell? ⟨gb334, 12, none⟩ = some (.int .i64 a1_12) ∧ w'.cell? ⟨gb334, 13, none⟩ = some (.int .i64 a1_13) ∧ w'.cell? ⟨gb334, 14, none⟩ = some (.int .i64 a1_14) ∧ w'.cell? ⟨gb334, 15, none⟩ = some (.int .i64 a1_15) ∧ w'.cell? ⟨gb334, 16, none⟩ = some (.bool a1_16) ∧ w'.cell? ⟨gb334, 17, none⟩ = some (.int .i64 a1_17)) (ds := []) #[false, false, false, false, false, false, false, false, false, false, false, false, false, false, false, false, false, false, false, false, false, false, false, false, false] (by kernel_rfl) rfl rfl ⟨(bC BK333.out 0).trans rfl, (bC BK333.out 1).trans rfl, (bC BK333.out 2).trans rfl, (bC BK333.out 3).trans rfl, (bC BK333.out 4).trans rfl, (bC BK333.out 5).trans rfl, (bC BK333.out 6).trans rfl, (bC BK333.out 7).trans rfl, (bC BK333.out 8).trans rfl, (bC BK333.out 9).trans rfl, (bC BK333.out 10).trans rfl, (bC BK334.out 0).trans rfl, (bC BK334.out 1).trans rfl, (bC BK334.out 2).trans rfl, (bC BK334.out 3).trans rfl, (bC BK334.out 4).trans rfl, (bC BK334.out 5).trans rfl, (bC BK334.out 6).trans rfl, (bC BK334.out 7).trans rfl, (bC BK334.out 8).trans rfl, (bC BK334.out 9).trans rfl, (bC BK334.out 10).trans rfl, (bC BK334.out 11).trans rfl, (bC BK334.out 12).trans rfl, (bC BK334.out 13).trans rfl, (bC BK334.out 14).trans rfl, (bC BK334.out 15).trans rfl, (bC BK334.out 16).trans rfl, (bC BK334.out 17).trans rfl⟩ (fun hHeld => ?_); refine with_tabW sawmilllaw46_OrderFits.tab1 sawmilllaw46_OrderFits.bits1 (fun HT_ HW_ => ?_)
    generalize w14.drew = w15 at BK333 BK334 HB hHeld ⊢
    refine take_ (i := 0) (N := some 5) (v := ?_) (a' := ?_) #[true, false, false, false, false, false, false, false, false, false, false, false, false, false, false, false, false, false, false, false, false, false, false, false, false] rfl rfl (take_ofW HT_.out HW_.out (by kernel_rfl)) (fun _ _ _ h => h) (Or.inl ⟨by rfl, ?_⟩) hHeld ?_ ?_
    rotate_left
    ·rintro w' ⟨s0, s1, s2, s3, s4, s5, s6, s7, s8, s9, s10, s11, s12, s13, s14, s15, s16, s17, s18, s19, s20, s21, s22, s23, s24, s25, s26, s27, s28⟩
     first
     | (refine exec_load_cells 23 ?lx85 ?la85 gb333 ?lb85 #[.string a0_0, .string a0_1, .int .i64 a0_2, .int .i64 a0_3, .int .i64 a0_4, .int .i64 a0_5, .int .i64 a0_6, .int .i64 a0_7, .int .i64 a0_8, .int .i64 a0_9, .int .i64 a0_10] _ ?lc85 Tryd.underlying23 rfl ?ld85; (case la85 => exact rfl); (case lb85 => exact rfl); (case lc85 => exact ⟨s0, s1, s2, s3, s4, s5, s6, s7, s8, s9, s10, trivial⟩); (case ld85 => kernel_rfl))
     | (refine exec_load_cells 38 ?lx86 ?la86 gb334 ?lb86 #[.string a1_0, .string a1_1, .string a1_2, .int .i64 a1_3, .int .i64 a1_4, .int .i64 a1_5, .int .i64 a1_6, .int .i64 a1_7, .int .i64 a1_8, .int .i64 a1_9, .int .i64 a1_10, .slice A1_11 l1_11.length c1_11, .int .i64 a1_12, .int .i64 a1_13, .int .i64 a1_14, .int .i64 a1_15, .bool a1_16, .int .i64 a1_17] _ ?lc86 Tryd.underlying38 rfl ?ld86; (case la86 => exact rfl); (case lb86 => exact rfl); (case lc86 => exact ⟨s11, s12, s13, s14, s15, s16, s17, s18, s19, s20, s21, s22, s23, s24, s25, s26, s27, s28, trivial⟩); (case ld86 => kernel_rfl))
     | (go_simp; with_reducible rfl)
    rotate_left
    ·simp only [Act.put, List.setIfInBounds_toArray, List.set_cons_zero, List.set_cons_succ, i64_w, i32_w]
     rfl
    refine take_ (i := 1) (N := some 6) (v := ?_) (a' := ?_) #[true, true, false, false, false, false, false, false, false, false, false, false, false, false, false, false, false, false, false, false, false, false, false, false, false] rfl rfl (take_ofW HT_.out HW_.out (by kernel_rfl)) (fun _ _ _ h => h) (Or.inl ⟨by rfl, ?_⟩) hHeld ?_ ?_
    rotate_left
    ·rintro w' ⟨s0, s1, s2, s3, s4, s5, s6, s7, s8, s9, s10, s11, s12, s13, s14, s15, s16, s17, s18, s19, s20, s21, s22, s23, s24, s25, s26, s27, s28⟩
     first
     | (refine exec_load_cells 23 ?lx87 ?la87 gb333 ?lb87 #[.string a0_0, .string a0_1, .int .i64 a0_2, .int .i64 a0_3, .int .i64 a0_4, .int .i64 a0_5, .int .i64 a0_6, .int .i64 a0_7, .int .i64 a0_8, .int .i64 a0_9, .int .i64 a0_10] _ ?lc87 Tryd.underlying23 rfl ?ld87; (case la87 => exact rfl); (case lb87 => exact rfl); (case lc87 => exact ⟨s0, s1, s2, s3, s4, s5, s6, s7, s8, s9, s10, trivial⟩); (case ld87 => kernel_rfl))
     | (refine exec_load_cells 38 ?lx88 ?la88 gb334 ?lb88 #[.string a1_0, .string a1_1, .string a1_2, .int .i64 a1_3, .int .i64 a1_4, .int .i64 a1_5, .int .i64 a1_6, .int .i64 a1_7, .int .i64 a1_8, .int .i64 a1_9, .int .i64 a1_10, .slice A1_11 l1_11.length c1_11, .int .i64 a1_12, .int .i64 a1_13, .int .i64 a1_14, .int .i64 a1_15, .bool a1_16, .int .i64 a1_17] _ ?lc88 Tryd.underlying38 rfl ?ld88; (case la88 => exact rfl); (case lb88 => exact rfl); (case lc88 => exact ⟨s11, s12, s13, s14, s15, s16, s17, s18, s19, s20, s21, s22, s23, s24, s25, s26, s27, s28, trivial⟩); (case ld88 => kernel_rfl))
     | (go_simp; with_reducible rfl)
    rotate_left
    ·simp only [Act.put, List.setIfInBounds_toArray, List.set_cons_zero, List.set_cons_succ, i64_w, i32_w]
     rfl
    refine take_ (i := 3) (N := some 8) (v := ?_) (a' := ?_) #[true, true, false, true, false, false, false, false, false, false, false, false, false, false, false, false, false, false, false, false, false, false, false, false, false] rfl rfl (take_ofW HT_.out HW_.out (by kernel_rfl)) (fun _ _ _ h => h) (Or.inl ⟨by rfl, ?_⟩) hHeld ?_ ?_
    rotate_left
    ·rintro w' ⟨s0, s1, s2, s3, s4, s5, s6, s7, s8, s9, s10, s11, s12, s13, s14, s15, s16, s17, s18, s19, s20, s21, s22, s23, s24, s25, s26, s27, s28⟩
     first
     | (refine exec_load_cells 23 ?lx89 ?la89 gb333 ?lb89 #[.string a0_0, .string a0_1, .int .i64 a0_2, .int .i64 a0_3, .int .i64 a0_4, .int .i64 a0_5, .int .i64 a0_6, .int .i64 a0_7, .int .i64 a0_8, .int .i64 a0_9, .int .i64 a0_10] _ ?lc89 Tryd.underlying23 rfl ?ld89; (case la89 => exact rfl); (case lb89 => exact rfl); (case lc89 => exact ⟨s0, s1, s2, s3, s4, s5, s6, s7, s8, s9, s10, trivial⟩); (case ld89 => kernel_rfl))
     | (refine exec_load_cells 38 ?lx90 ?la90 gb334 ?lb90 #[.string a1_0, .string a1_1, .string a1_2, .int .i64 a1_3, .int .i64 a1_4, .int .i64 a1_5, .int .i64 a1_6, .int .i64 a1_7, .int .i64 a1_8, .int .i64 a1_9, .int .i64 a1_10, .slice A1_11 l1_11.length c1_11, .int .i64 a1_12, .int .i64 a1_13, .int .i64 a1_14, .int .i64 a1_15, .bool a1_16, .int .i64 a1_17] _ ?lc90 Tryd.underlying38 rfl ?ld90; (case la90 => exact rfl); (case lb90 => exact rfl); (case lc90 => exact ⟨s11, s12, s13, s14, s15, s16, s17, s18, s19, s20, s21, s22, s23, s24, s25, s26, s27, s28, trivial⟩); (case ld90 => kernel_rfl))
     | (go_simp; with_reducible rfl)
    rotate_left
    ·simp only [Act.put, List.setIfInBounds_toArray, List.set_cons_zero, List.set_cons_succ, i64_w, i32_w]
     rfl
    refine take_ (i := 4) (N := some 9) (v := ?_) (a' := ?_) #[true, true, false, true, true, false, false, false, false, false, false, false, false, false, false, false, false, false, false, false, false, false, false, false, false] rfl rfl (take_ofW HT_.out HW_.out (by kernel_rfl)) (fun _ _ _ h => h) (Or.inl ⟨by rfl, ?_⟩) hHeld ?_ ?_
    rotate_left
    ·rintro w' ⟨s0, s1, s2, s3, s4, s5, s6, s7, s8, s9, s10, s11, s12, s13, s14, s15, s16, s17, s18, s19, s20, s21, s22, s23, s24, s25, s26, s27, s28⟩
     first
     | (refine exec_load_cells 23 ?lx91 ?la91 gb333 ?lb91 #[.string a0_0, .string a0_1, .int .i64 a0_2, .int .i64 a0_3, .int .i64 a0_4, .int .i64 a0_5, .int .i64 a0_6, .int .i64 a0_7, .int .i64 a0_8, .int .i64 a0_9, .int .i64 a0_10] _ ?lc91 Tryd.underlying23 rfl ?ld91; (case la91 => exact rfl); (case lb91 => exact rfl); (case lc91 => exact ⟨s0, s1, s2, s3, s4, s5, s6, s7, s8, s9, s10, trivial⟩); (case ld91 => kernel_rfl))
     | (refine exec_load_cells 38 ?lx92 ?la92 gb334 ?lb92 #[.string a1_0, .string a1_1, .string a1_2, .int .i64 a1_3, .int .i64 a1_4, .int .i64 a1_5, .int .i64 a1_6, .int .i64 a1_7, .int .i64 a1_8, .int .i64 a1_9, .int .i64 a1_10, .slice A1_11 l1_11.length c1_11, .int .i64 a1_12, .int .i64 a1_13, .int .i64 a1_14, .int .i64 a1_15, .bool a1_16, .int .i64 a1_17] _ ?lc92 Tryd.underlying38 rfl ?ld92; (case la92 => exact rfl); (case lb92 => exact rfl); (case lc92 => exact ⟨s11, s12, s13, s14, s15, s16, s17, s18, s19, s20, s21, s22, s23, s24, s25, s26, s27, s28, trivial⟩); (case ld92 => kernel_rfl))
     | (go_simp; with_reducible rfl)
    rotate_left
    ·simp only [Act.put, List.setIfInBounds_toArray, List.set_cons_zero, List.set_cons_succ, i64_w, i32_w]
     rfl
    refine one_ (i := 2) (N := some 7) #[true, true, true, true, true, false, false, false, false, false, false, false, false, false, false, false, false, false, false, false, false, false, false, false, false] rfl rfl (one_of HT_.out (by kernel_rfl)) (by decide) (fun K hK => ?_)
    refine goes_ Tryd.func14 (by kernel_rfl) rfl #[.agg #[.string a0_0, .string a0_1, .int .i64 a0_2, .int .i64 a0_3, .int .i64 a0_4, .int .i64 a0_5, .int .i64 a0_6, .int .i64 a0_7, .int .i64 a0_8, .int .i64 a0_9, .int .i64 a0_10], .agg #[.string a1_0, .string a1_1, .string a1_2, .int .i64 a1_3, .int .i64 a1_4, .int .i64 a1_5, .int .i64 a1_6, .int .i64 a1_7, .int .i64 a1_8, .int .i64 a1_9, .int .i64 a1_10, .slice A1_11 l1_11.length c1_11, .int .i64 a1_12, .int .i64 a1_13, .int .i64 a1_14, .int .i64 a1_15, .bool a1_16, .int .i64 a1_17]] (by rfl) rfl rfl (by first | rfl | (simp only [List.map_toArray]; rfl)) ?_
    with_reducible refine (order_Fits.calls k a0_0 a0_1 a0_2 a0_3 a0_4 a0_5 a0_6 a0_7 a0_8 a0_9 a0_10 a1_0 a1_1 a1_2 a1_3 a1_4 a1_5 a1_6 a1_7 a1_8 a1_9 a1_10 _ _ l1_11 a1_12 a1_13 a1_14 a1_15 a1_16 a1_17 t335 _ ?side1 ?side2 A3.out).mono ?_
    (case side1 => repeat (first | exact (Kd.C_below HR1_11.out HB.out) | (with_reducible refine Kd.C_alloc ?_ _) | (with_reducible refine Kd.C_drewN ?_ _) | (with_reducible refine Kd.C_drew ?_)))
    (case side2 => exact HC1_11.out)
    rintro e w16 ⟨rfl, hb⟩
    refine ⟨_, rfl, ?_⟩
    have n0_ := q_ (bB (g := gb333) (by (with_reducible repeat (first | refine bN ?_ _ | refine bW ?_ | refine bA ?_ _)); exact BK333.out) hb)
    have n1_ := q_ (bB (g := gb334) (by (with_reducible repeat (first | refine bN ?_ _ | refine bW ?_ | refine bA ?_ _)); exact BK334.out) hb)
    have n2_ := q_ (pT (by repeat (first | (with_reducible first | exact HB.out | apply pA | apply pN | apply p1 | refine pS ?_ GE333.out | refine pS ?_ GE334.out) | exact HB.out)) hb)
    clear BK333
    clear BK334
    clear HB
    have BK333 := n0_
    have BK334 := n1_
    have HB := n2_
    clear n0_ n1_ n2_
    (try clear hb)
    (try clear hb2)
    (try clear hk)
    (try clear hi)
    refine hK.out _ _ ⟨(bC BK333.out 0).trans rfl, (bC BK333.out 1).trans rfl, (bC BK333.out 2).trans rfl, (bC BK333.out 3).trans rfl, (bC BK333.out 4).trans rfl, (bC BK333.out 5).trans rfl, (bC BK333.out 6).trans rfl, (bC BK333.out 7).trans rfl, (bC BK333.out 8).trans rfl, (bC BK333.out 9).trans rfl, (bC BK333.out 10).trans rfl, (bC BK334.out 0).trans rfl, (bC BK334.out 1).trans rfl, (bC BK334.out 2).trans rfl, (bC BK334.out 3).trans rfl, (bC BK334.out 4).trans rfl, (bC BK334.out 5).trans rfl, (bC BK334.out 6).trans rfl, (bC BK334.out 7).trans rfl, (bC BK334.out 8).trans rfl, (bC BK334.out 9).trans rfl, (bC BK334.out 10).trans rfl, (bC BK334.out 11).trans rfl, (bC BK334.out 12).trans rfl, (bC BK334.out 13).trans rfl, (bC BK334.out 14).trans rfl, (bC BK334.out 15).trans rfl, (bC BK334.out 16).trans rfl, (bC BK334.out 17).trans rfl⟩ (fun hHeld => ?_)
    clear hK K
    refine norm_ (a' := ?_) ?_ ?_
    rotate_left
    ·show Act.put _ (some 7) _ = _
     simp only [Act.put, List.setIfInBounds_toArray, List.set_cons_zero, List.set_cons_succ, i64_w, i32_w]
     rfl
    refine one_ (i := 5) (N := some 10) #[true, true, true, true, true, true, false, false, false, false, false, false, false, false, false, false, false, false, false, false, false, false, false, false, false] rfl rfl (one_of HT_.out (by kernel_rfl)) (by decide) (fun K hK => ?_)
    refine goes_ Tryd.func15 (by kernel_rfl) rfl #[.agg #[.string a0_0, .string a0_1, .int .i64 a0_2, .int .i64 a0_3, .int .i64 a0_4, .int .i64 a0_5, .int .i64 a0_6, .int .i64 a0_7, .int .i64 a0_8, .int .i64 a0_9, .int .i64 a0_10], .agg #[.string a1_0, .string a1_1, .string a1_2, .int .i64 a1_3, .int .i64 a1_4, .int .i64 a1_5, .int .i64 a1_6, .int .i64 a1_7, .int .i64 a1_8, .int .i64 a1_9, .int .i64 a1_10, .slice A1_11 l1_11.length c1_11, .int .i64 a1_12, .int .i64 a1_13, .int .i64 a1_14, .int .i64 a1_15, .bool a1_16, .int .i64 a1_17]] (by rfl) rfl rfl (by first | rfl | (simp only [List.map_toArray]; rfl)) ?_
    with_reducible refine (sawmillref46_Fits.calls k a0_0 a0_1 a0_2 a0_3 a0_4 a0_5 a0_6 a0_7 a0_8 a0_9 a0_10 a1_0 a1_1 a1_2 a1_3 a1_4 a1_5 a1_6 a1_7 a1_8 a1_9 a1_10 _ _ l1_11 a1_12 a1_13 a1_14 a1_15 a1_16 a1_17 t336 _ ?side1 ?side2 A4.out).mono ?_
    (case side1 => repeat (first | exact (Kd.C_below HR1_11.out HB.out) | (with_reducible refine Kd.C_alloc ?_ _) | (with_reducible refine Kd.C_drewN ?_ _) | (with_reducible refine Kd.C_drew ?_)))
    (case side2 => exact HC1_11.out)
    rintro e w17 ⟨rfl, hb⟩
    refine ⟨_, rfl, ?_⟩
    have n0_ := q_ (bB (g := gb333) (by (with_reducible repeat (first | refine bN ?_ _ | refine bW ?_ | refine bA ?_ _)); exact BK333.out) hb)
    have n1_ := q_ (bB (g := gb334) (by (with_reducible repeat (first | refine bN ?_ _ | refine bW ?_ | refine bA ?_ _)); exact BK334.out) hb)
    have n2_ := q_ (pT (by repeat (first | (with_reducible first | exact HB.out | apply pA | apply pN | apply p1 | refine pS ?_ GE333.out | refine pS ?_ GE334.out) | exact HB.out)) hb)
    clear BK333
    clear BK334
    clear HB
    have BK333 := n0_
    have BK334 := n1_
    have HB := n2_
    clear n0_ n1_ n2_
    (try clear hb)
    (try clear hb2)
    (try clear hk)
    (try clear hi)
    refine hK.out _ _ ⟨(bC BK333.out 0).trans rfl, (bC BK333.out 1).trans rfl, (bC BK333.out 2).trans rfl, (bC BK333.out 3).trans rfl, (bC BK333.out 4).trans rfl, (bC BK333.out 5).trans rfl, (bC BK333.out 6).trans rfl, (bC BK333.out 7).trans rfl, (bC BK333.out 8).trans rfl, (bC BK333.out 9).trans rfl, (bC BK333.out 10).trans rfl, (bC BK334.out 0).trans rfl, (bC BK334.out 1).trans rfl, (bC BK334.out 2).trans rfl, (bC BK334.out 3).trans rfl, (bC BK334.out 4).trans rfl, (bC BK334.out 5).trans rfl, (bC BK334.out 6).trans rfl, (bC BK334.out 7).trans rfl, (bC BK334.out 8).trans rfl, (bC BK334.out 9).trans rfl, (bC BK334.out 10).trans rfl, (bC BK334.out 11).trans rfl, (bC BK334.out 12).trans rfl, (bC BK334.out 13).trans rfl, (bC BK334.out 14).trans rfl, (bC BK334.out 15).trans rfl, (bC BK334.out 16).trans rfl, (bC BK334.out 17).trans rfl⟩ (fun hHeld => ?_)
    clear hK K
    refine norm_ (a' := ?_) ?_ ?_
    rotate_left
    ·show Act.put _ (some 10) _ = _
     simp only [Act.put, List.setIfInBounds_toArray, List.set_cons_zero, List.set_cons_succ, i64_w, i32_w]
     rfl
    refine pure_ (i := 6) (N := some 11) (v := ?_) (a' := ?_) #[true, true, true, true, true, true, true, false, false, false, false, false, false, false, false, false, false, false, false, false, false, false, false, false, false] rfl rfl (any_of HT_.out (by kernel_rfl)) (fun _ _ _ h => h) (Or.inl ⟨by rfl, ?_⟩) ?_ ?_
    rotate_left
    ·intro w'
     go_simp
     with_reducible rfl
    rotate_left
    ·simp only [Act.put, List.setIfInBounds_toArray, List.set_cons_zero, List.set_cons_succ, i64_w, i32_w]
     rfl
    refine pure_ (i := 7) (N := some 12) (v := ?_) (a' := ?_) #[true, true, true, true, true, true, true, true, false, false, false, false, false, false, false, false, false, false, false, false, false, false, false, false, false] rfl rfl (any_of HT_.out (by kernel_rfl)) (fun _ _ _ h => h) (Or.inl ⟨by rfl, ?_⟩) ?_ ?_
    rotate_left
    ·intro w'
     go_simp
     with_reducible rfl
    rotate_left
    ·simp only [Act.put, List.setIfInBounds_toArray, List.set_cons_zero, List.set_cons_succ, i64_w, i32_w]
     rfl
    refine take_ (i := 8) (N := some 13) (v := ?_) (a' := ?_) #[true, true, true, true, true, true, true, true, true, false, false, false, false, false, false, false, false, false, false, false, false, false, false, false, false] rfl rfl (take_ofW HT_.out HW_.out (by kernel_rfl)) (fun _ _ _ h => h) (Or.inl ⟨by rfl, ?_⟩) hHeld ?_ ?_
    rotate_left
    ·rintro w' ⟨s0, s1, s2, s3, s4, s5, s6, s7, s8, s9, s10, s11, s12, s13, s14, s15, s16, s17, s18, s19, s20, s21, s22, s23, s24, s25, s26, s27, s28⟩
     first
     | (refine exec_load_cells 23 ?lx93 ?la93 gb333 ?lb93 #[.string a0_0, .string a0_1, .int .i64 a0_2, .int .i64 a0_3, .int .i64 a0_4, .int .i64 a0_5, .int .i64 a0_6, .int .i64 a0_7, .int .i64 a0_8, .int .i64 a0_9, .int .i64 a0_10] _ ?lc93 Tryd.underlying23 rfl ?ld93; (case la93 => exact rfl); (case lb93 => exact rfl); (case lc93 => exact ⟨s0, s1, s2, s3, s4, s5, s6, s7, s8, s9, s10, trivial⟩); (case ld93 => kernel_rfl))
     | (refine exec_load_cells 38 ?lx94 ?la94 gb334 ?lb94 #[.string a1_0, .string a1_1, .string a1_2, .int .i64 a1_3, .int .i64 a1_4, .int .i64 a1_5, .int .i64 a1_6, .int .i64 a1_7, .int .i64 a1_8, .int .i64 a1_9, .int .i64 a1_10, .slice A1_11 l1_11.length c1_11, .int .i64 a1_12, .int .i64 a1_13, .int .i64 a1_14, .int .i64 a1_15, .bool a1_16, .int .i64 a1_17] _ ?lc94 Tryd.underlying38 rfl ?ld94; (case la94 => exact rfl); (case lb94 => exact rfl); (case lc94 => exact ⟨s11, s12, s13, s14, s15, s16, s17, s18, s19, s20, s21, s22, s23, s24, s25, s26, s27, s28, trivial⟩); (case ld94 => kernel_rfl))
     | (go_simp; with_reducible rfl)
    rotate_left
    ·simp only [Act.put, List.setIfInBounds_toArray, List.set_cons_zero, List.set_cons_succ, i64_w, i32_w]
     rfl
    refine take_ (i := 10) (N := some 15) (v := ?_) (a' := ?_) #[true, true, true, true, true, true, true, true, true, false, true, false, false, false, false, false, false, false, false, false, false, false, false, false, false] rfl rfl (take_ofW HT_.out HW_.out (by kernel_rfl)) (fun _ _ _ h => h) (Or.inl ⟨by rfl, ?_⟩) hHeld ?_ ?_
    rotate_left
    ·rintro w' ⟨s0, s1, s2, s3, s4, s5, s6, s7, s8, s9, s10, s11, s12, s13, s14, s15, s16, s17, s18, s19, s20, s21, s22, s23, s24, s25, s26, s27, s28⟩
     first
     | (refine exec_load_cells 23 ?lx95 ?la95 gb333 ?lb95 #[.string a0_0, .string a0_1, .int .i64 a0_2, .int .i64 a0_3, .int .i64 a0_4, .int .i64 a0_5, .int .i64 a0_6, .int .i64 a0_7, .int .i64 a0_8, .int .i64 a0_9, .int .i64 a0_10] _ ?lc95 Tryd.underlying23 rfl ?ld95; (case la95 => exact rfl); (case lb95 => exact rfl); (case lc95 => exact ⟨s0, s1, s2, s3, s4, s5, s6, s7, s8, s9, s10, trivial⟩); (case ld95 => kernel_rfl))
     | (refine exec_load_cells 38 ?lx96 ?la96 gb334 ?lb96 #[.string a1_0, .string a1_1, .string a1_2, .int .i64 a1_3, .int .i64 a1_4, .int .i64 a1_5, .int .i64 a1_6, .int .i64 a1_7, .int .i64 a1_8, .int .i64 a1_9, .int .i64 a1_10, .slice A1_11 l1_11.length c1_11, .int .i64 a1_12, .int .i64 a1_13, .int .i64 a1_14, .int .i64 a1_15, .bool a1_16, .int .i64 a1_17] _ ?lc96 Tryd.underlying38 rfl ?ld96; (case la96 => exact rfl); (case lb96 => exact rfl); (case lc96 => exact ⟨s11, s12, s13, s14, s15, s16, s17, s18, s19, s20, s21, s22, s23, s24, s25, s26, s27, s28, trivial⟩); (case ld96 => kernel_rfl))
     | (go_simp; with_reducible rfl)
    rotate_left
    ·simp only [Act.put, List.setIfInBounds_toArray, List.set_cons_zero, List.set_cons_succ, i64_w, i32_w]
     rfl
    refine one_ (i := 9) (N := some 14) #[true, true, true, true, true, true, true, true, true, true, true, false, false, false, false, false, false, false, false, false, false, false, false, false, false] rfl rfl (one_of HT_.out (by kernel_rfl)) (by decide) (fun K hK => ?_)
    refine goes_ Tryd.func16 (by kernel_rfl) rfl #[.agg #[.string a0_0, .string a0_1, .int .i64 a0_2, .int .i64 a0_3, .int .i64 a0_4, .int .i64 a0_5, .int .i64 a0_6, .int .i64 a0_7, .int .i64 a0_8, .int .i64 a0_9, .int .i64 a0_10]] (by rfl) rfl rfl (by first | rfl | (simp only [List.map_toArray]; rfl)) ?_
    with_reducible refine (order_Least.calls a0_0 a0_1 a0_2 a0_3 a0_4 a0_5 a0_6 a0_7 a0_8 a0_9 a0_10 t337 _ A6.out).mono ?_
    rintro e w18 ⟨rfl, hb⟩
    refine ⟨_, rfl, ?_⟩
    have n0_ := q_ (bB (g := gb333) (by (with_reducible repeat (first | refine bN ?_ _ | refine bW ?_ | refine bA ?_ _)); exact BK333.out) hb)
    have n1_ := q_ (bB (g := gb334) (by (with_reducible repeat (first | refine bN ?_ _ | refine bW ?_ | refine bA ?_ _)); exact BK334.out) hb)
    have n2_ := q_ (pT (by repeat (first | (with_reducible first | exact HB.out | apply pA | apply pN | apply p1 | refine pS ?_ GE333.out | refine pS ?_ GE334.out) | exact HB.out)) hb)
    clear BK333
    clear BK334
    clear HB
    have BK333 := n0_
    have BK334 := n1_
    have HB := n2_
    clear n0_ n1_ n2_
    (try clear hb)
    (try clear hb2)
    (try clear hk)
    (try clear hi)
    refine hK.out _ _ ⟨(bC BK333.out 0).trans rfl, (bC BK333.out 1).trans rfl, (bC BK333.out 2).trans rfl, (bC BK333.out 3).trans rfl, (bC BK333.out 4).trans rfl, (bC BK333.out 5).trans rfl, (bC BK333.out 6).trans rfl, (bC BK333.out 7).trans rfl, (bC BK333.out 8).trans rfl, (bC BK333.out 9).trans rfl, (bC BK333.out 10).trans rfl, (bC BK334.out 0).trans rfl, (bC BK334.out 1).trans rfl, (bC BK334.out 2).trans rfl, (bC BK334.out 3).trans rfl, (bC BK334.out 4).trans rfl, (bC BK334.out 5).trans rfl, (bC BK334.out 6).trans rfl, (bC BK334.out 7).trans rfl, (bC BK334.out 8).trans rfl, (bC BK334.out 9).trans rfl, (bC BK334.out 10).trans rfl, (bC BK334.out 11).trans rfl, (bC BK334.out 12).trans rfl, (bC BK334.out 13).trans rfl, (bC BK334.out 14).trans rfl, (bC BK334.out 15).trans rfl, (bC BK334.out 16).trans rfl, (bC BK334.out 17).trans rfl⟩ (fun hHeld => ?_)
    clear hK K
    refine norm_ (a' := ?_) ?_ ?_
    rotate_left
    ·show Act.put _ (some 14) _ = _
     simp only [Act.put, List.setIfInBounds_toArray, List.set_cons_zero, List.set_cons_succ, i64_w, i32_w]
     rfl
    refine one_ (i := 11) (N := some 16) #[true, true, true, true, true, true, true, true, true, true, true, true, false, false, false, false, false, false, false, false, false, false, false, false, false] rfl rfl (one_of HT_.out (by kernel_rfl)) (by decide) (fun K hK => ?_)
    refine goes_ Tryd.func17 (by kernel_rfl) rfl #[.agg #[.string a0_0, .string a0_1, .int .i64 a0_2, .int .i64 a0_3, .int .i64 a0_4, .int .i64 a0_5, .int .i64 a0_6, .int .i64 a0_7, .int .i64 a0_8, .int .i64 a0_9, .int .i64 a0_10]] (by rfl) rfl rfl (by first | rfl | (simp only [List.map_toArray]; rfl)) ?_
    with_reducible refine (sawmillref46_Least.calls a0_0 a0_1 a0_2 a0_3 a0_4 a0_5 a0_6 a0_7 a0_8 a0_9 a0_10 t338 _ A7.out).mono ?_
    rintro e w19 ⟨rfl, hb⟩
    refine ⟨_, rfl, ?_⟩
    have n0_ := q_ (bB (g := gb333) (by (with_reducible repeat (first | refine bN ?_ _ | refine bW ?_ | refine bA ?_ _)); exact BK333.out) hb)
    have n1_ := q_ (bB (g := gb334) (by (with_reducible repeat (first | refine bN ?_ _ | refine bW ?_ | refine bA ?_ _)); exact BK334.out) hb)
    have n2_ := q_ (pT (by repeat (first | (with_reducible first | exact HB.out | apply pA | apply pN | apply p1 | refine pS ?_ GE333.out | refine pS ?_ GE334.out) | exact HB.out)) hb)
    clear BK333
    clear BK334
    clear HB
    have BK333 := n0_
    have BK334 := n1_
    have HB := n2_
    clear n0_ n1_ n2_
    (try clear hb)
    (try clear hb2)
    (try clear hk)
    (try clear hi)
    refine hK.out _ _ ⟨(bC BK333.out 0).trans rfl, (bC BK333.out 1).trans rfl, (bC BK333.out 2).trans rfl, (bC BK333.out 3).trans rfl, (bC BK333.out 4).trans rfl, (bC BK333.out 5).trans rfl, (bC BK333.out 6).trans rfl, (bC BK333.out 7).trans rfl, (bC BK333.out 8).trans rfl, (bC BK333.out 9).trans rfl, (bC BK333.out 10).trans rfl, (bC BK334.out 0).trans rfl, (bC BK334.out 1).trans rfl, (bC BK334.out 2).trans rfl, (bC BK334.out 3).trans rfl, (bC BK334.out 4).trans rfl, (bC BK334.out 5).trans rfl, (bC BK334.out 6).trans rfl, (bC BK334.out 7).trans rfl, (bC BK334.out 8).trans rfl, (bC BK334.out 9).trans rfl, (bC BK334.out 10).trans rfl, (bC BK334.out 11).trans rfl, (bC BK334.out 12).trans rfl, (bC BK334.out 13).trans rfl, (bC BK334.out 14).trans rfl, (bC BK334.out 15).trans rfl, (bC BK334.out 16).trans rfl, (bC BK334.out 17).trans rfl⟩ (fun hHeld => ?_)
    clear hK K
    refine norm_ (a' := ?_) ?_ ?_
    rotate_left
    ·show Act.put _ (some 16) _ = _
     simp only [Act.put, List.setIfInBounds_toArray, List.set_cons_zero, List.set_cons_succ, i64_w, i32_w]
     rfl
    refine pure_ (i := 12) (N := some 17) (v := ?_) (a' := ?_) #[true, true, true, true, true, true, true, true, true, true, true, true, true, false, false, false, false, false, false, false, false, false, false, false, false] rfl rfl (any_of HT_.out (by kernel_rfl)) (fun _ _ _ h => h) (Or.inl ⟨by rfl, ?_⟩) ?_ ?_
    rotate_left
    ·intro w'
     go_simp
     with_reducible rfl
    rotate_left
    ·simp only [Act.put, List.setIfInBounds_toArray, List.set_cons_zero, List.set_cons_succ, i64_w, i32_w]
     rfl
    refine pure_ (i := 13) (N := some 18) (v := ?_) (a' := ?_) #[true, true, true, true, true, true, true, true, true, true, true, true, true, true, false, false, false, false, false, false, false, false, false, false, false] rfl rfl (any_of HT_.out (by kernel_rfl)) (fun _ _ _ h => h) (Or.inl ⟨by rfl, ?_⟩) ?_ ?_
    rotate_left
    ·intro w'
     go_simp
     with_reducible rfl
    rotate_left
    ·simp only [Act.put, List.setIfInBounds_toArray, List.set_cons_zero, List.set_cons_succ, i64_w, i32_w]
     rfl
    refine pure_ (i := 14) (N := some 19) (v := ?_) (a' := ?_) #[true, true, true, true, true, true, true, true, true, true, true, true, true, true, true, false, false, false, false, false, false, false, false, false, false] rfl rfl (any_of HT_.out (by kernel_rfl)) (fun _ _ _ h => h) (Or.inl ⟨by rfl, ?_⟩) ?_ ?_
    rotate_left
    ·intro w'
     go_simp
     with_reducible rfl
    rotate_left
    ·simp only [Act.put, List.setIfInBounds_toArray, List.set_cons_zero, List.set_cons_succ, i64_w, i32_w]
     rfl
    refine take_ (i := 15) (N := some 20) (v := ?_) (a' := ?_) #[true, true, true, true, true, true, true, true, true, true, true, true, true, true, true, true, false, false, false, false, false, false, false, false, false] rfl rfl (take_ofW HT_.out HW_.out (by kernel_rfl)) (fun _ _ _ h => h) (Or.inl ⟨by rfl, ?_⟩) hHeld ?_ ?_
    rotate_left
    ·rintro w' ⟨s0, s1, s2, s3, s4, s5, s6, s7, s8, s9, s10, s11, s12, s13, s14, s15, s16, s17, s18, s19, s20, s21, s22, s23, s24, s25, s26, s27, s28⟩
     first
     | (refine exec_load_cells 23 ?lx97 ?la97 gb333 ?lb97 #[.string a0_0, .string a0_1, .int .i64 a0_2, .int .i64 a0_3, .int .i64 a0_4, .int .i64 a0_5, .int .i64 a0_6, .int .i64 a0_7, .int .i64 a0_8, .int .i64 a0_9, .int .i64 a0_10] _ ?lc97 Tryd.underlying23 rfl ?ld97; (case la97 => exact rfl); (case lb97 => exact rfl); (case lc97 => exact ⟨s0, s1, s2, s3, s4, s5, s6, s7, s8, s9, s10, trivial⟩); (case ld97 => kernel_rfl))
     | (refine exec_load_cells 38 ?lx98 ?la98 gb334 ?lb98 #[.string a1_0, .string a1_1, .string a1_2, .int .i64 a1_3, .int .i64 a1_4, .int .i64 a1_5, .int .i64 a1_6, .int .i64 a1_7, .int .i64 a1_8, .int .i64 a1_9, .int .i64 a1_10, .slice A1_11 l1_11.length c1_11, .int .i64 a1_12, .int .i64 a1_13, .int .i64 a1_14, .int .i64 a1_15, .bool a1_16, .int .i64 a1_17] _ ?lc98 Tryd.underlying38 rfl ?ld98; (case la98 => exact rfl); (case lb98 => exact rfl); (case lc98 => exact ⟨s11, s12, s13, s14, s15, s16, s17, s18, s19, s20, s21, s22, s23, s24, s25, s26, s27, s28, trivial⟩); (case ld98 => kernel_rfl))
     | (go_simp; with_reducible rfl)
    rotate_left
    ·simp only [Act.put, List.setIfInBounds_toArray, List.set_cons_zero, List.set_cons_succ, i64_w, i32_w]
     rfl
    refine take_ (i := 17) (N := some 22) (v := ?_) (a' := ?_) #[true, true, true, true, true, true, true, true, true, true, true, true, true, true, true, true, false, true, false, false, false, false, false, false, false] rfl rfl (take_ofW HT_.out HW_.out (by kernel_rfl)) (fun _ _ _ h => h) (Or.inl ⟨by rfl, ?_⟩) hHeld ?_ ?_
    rotate_left
    ·rintro w' ⟨s0, s1, s2, s3, s4, s5, s6, s7, s8, s9, s10, s11, s12, s13, s14, s15, s16, s17, s18, s19, s20, s21, s22, s23, s24, s25, s26, s27, s28⟩
     first
     | (refine exec_load_cells 23 ?lx99 ?la99 gb333 ?lb99 #[.string a0_0, .string a0_1, .int .i64 a0_2, .int .i64 a0_3, .int .i64 a0_4, .int .i64 a0_5, .int .i64 a0_6, .int .i64 a0_7, .int .i64 a0_8, .int .i64 a0_9, .int .i64 a0_10] _ ?lc99 Tryd.underlying23 rfl ?ld99; (case la99 => exact rfl); (case lb99 => exact rfl); (case lc99 => exact ⟨s0, s1, s2, s3, s4, s5, s6, s7, s8, s9, s10, trivial⟩); (case ld99 => kernel_rfl))
     | (refine exec_load_cells 38 ?lx100 ?la100 gb334 ?lb100 #[.string a1_0, .string a1_1, .string a1_2, .int .i64 a1_3, .int .i64 a1_4, .int .i64 a1_5, .int .i64 a1_6, .int .i64 a1_7, .int .i64 a1_8, .int .i64 a1_9, .int .i64 a1_10, .slice A1_11 l1_11.length c1_11, .int .i64 a1_12, .int .i64 a1_13, .int .i64 a1_14, .int .i64 a1_15, .bool a1_16, .int .i64 a1_17] _ ?lc100 Tryd.underlying38 rfl ?ld100; (case la100 => exact rfl); (case lb100 => exact rfl); (case lc100 => exact ⟨s11, s12, s13, s14, s15, s16, s17, s18, s19, s20, s21, s22, s23, s24, s25, s26, s27, s28, trivial⟩); (case ld100 => kernel_rfl))
     | (go_simp; with_reducible rfl)
    rotate_left
    ·simp only [Act.put, List.setIfInBounds_toArray, List.set_cons_zero, List.set_cons_succ, i64_w, i32_w]
     rfl
    refine one_ (i := 16) (N := some 21) #[true, true, true, true, true, true, true, true, true, true, true, true, true, true, true, true, true, true, false, false, false, false, false, false, false] rfl rfl (one_of HT_.out (by kernel_rfl)) (by decide) (fun K hK => ?_)
    refine goes_ Tryd.func18 (by kernel_rfl) rfl #[.agg #[.string a0_0, .string a0_1, .int .i64 a0_2, .int .i64 a0_3, .int .i64 a0_4, .int .i64 a0_5, .int .i64 a0_6, .int .i64 a0_7, .int .i64 a0_8, .int .i64 a0_9, .int .i64 a0_10]] (by rfl) rfl rfl (by first | rfl | (simp only [List.map_toArray]; rfl)) ?_
    with_reducible refine (order_Most.calls a0_0 a0_1 a0_2 a0_3 a0_4 a0_5 a0_6 a0_7 a0_8 a0_9 a0_10 t339 _ A9.out).mono ?_
    rintro e w20 ⟨rfl, hb⟩
    refine ⟨_, rfl, ?_⟩
    have n0_ := q_ (bB (g := gb333) (by (with_reducible repeat (first | refine bN ?_ _ | refine bW ?_ | refine bA ?_ _)); exact BK333.out) hb)
    have n1_ := q_ (bB (g := gb334) (by (with_reducible repeat (first | refine bN ?_ _ | refine bW ?_ | refine bA ?_ _)); exact BK334.out) hb)
    have n2_ := q_ (pT (by repeat (first | (with_reducible first | exact HB.out | apply pA | apply pN | apply p1 | refine pS ?_ GE333.out | refine pS ?_ GE334.out) | exact HB.out)) hb)
    clear BK333
    clear BK334
    clear HB
    have BK333 := n0_
    have BK334 := n1_
    have HB := n2_
    clear n0_ n1_ n2_
    (try clear hb)
    (try clear hb2)
    (try clear hk)
    (try clear hi)
    refine hK.out _ _ ⟨(bC BK333.out 0).trans rfl, (bC BK333.out 1).trans rfl, (bC BK333.out 2).trans rfl, (bC BK333.out 3).trans rfl, (bC BK333.out 4).trans rfl, (bC BK333.out 5).trans rfl, (bC BK333.out 6).trans rfl, (bC BK333.out 7).trans rfl, (bC BK333.out 8).trans rfl, (bC BK333.out 9).trans rfl, (bC BK333.out 10).trans rfl, (bC BK334.out 0).trans rfl, (bC BK334.out 1).trans rfl, (bC BK334.out 2).trans rfl, (bC BK334.out 3).trans rfl, (bC BK334.out 4).trans rfl, (bC BK334.out 5).trans rfl, (bC BK334.out 6).trans rfl, (bC BK334.out 7).trans rfl, (bC BK334.out 8).trans rfl, (bC BK334.out 9).trans rfl, (bC BK334.out 10).trans rfl, (bC BK334.out 11).trans rfl, (bC BK334.out 12).trans rfl, (bC BK334.out 13).trans rfl, (bC BK334.out 14).trans rfl, (bC BK334.out 15).trans rfl, (bC BK334.out 16).trans rfl, (bC BK334.out 17).trans rfl⟩ (fun hHeld => ?_)
    clear hK K
    refine norm_ (a' := ?_) ?_ ?_
    rotate_left
    ·show Act.put _ (some 21) _ = _
     simp only [Act.put, List.setIfInBounds_toArray, List.set_cons_zero, List.set_cons_succ, i64_w, i32_w]
     rfl
    refine one_ (i := 18) (N := some 23) #[true, true, true, true, true, true, true, true, true, true, true, true, true, true, true, true, true, true, true, false, false, false, false, false, false] rfl rfl (one_of HT_.out (by kernel_rfl)) (by decide) (fun K hK => ?_)
    refine goes_ Tryd.func19 (by kernel_rfl) rfl #[.agg #[.string a0_0, .string a0_1, .int .i64 a0_2, .int .i64 a0_3, .int .i64 a0_4, .int .i64 a0_5, .int .i64 a0_6, .int .i64 a0_7, .int .i64 a0_8, .int .i64 a0_9, .int .i64 a0_10]] (by rfl) rfl rfl (by first | rfl | (simp only [List.map_toArray]; rfl)) ?_
    with_reducible refine (sawmillref46_Most.calls a0_0 a0_1 a0_2 a0_3 a0_4 a0_5 a0_6 a0_7 a0_8 a0_9 a0_10 t340 _ A10.out).mono ?_
    rintro e w21 ⟨rfl, hb⟩
    refine ⟨_, rfl, ?_⟩
    have n0_ := q_ (bB (g := gb333) (by (with_reducible repeat (first | refine bN ?_ _ | refine bW ?_ | refine bA ?_ _)); exact BK333.out) hb)
    have n1_ := q_ (bB (g := gb334) (by (with_reducible repeat (first | refine bN ?_ _ | refine bW ?_ | refine bA ?_ _)); exact BK334.out) hb)
    have n2_ := q_ (pT (by repeat (first | (with_reducible first | exact HB.out | apply pA | apply pN | apply p1 | refine pS ?_ GE333.out | refine pS ?_ GE334.out) | exact HB.out)) hb)
    clear BK333
    clear BK334
    clear HB
    have BK333 := n0_
    have BK334 := n1_
    have HB := n2_
    clear n0_ n1_ n2_
    (try clear hb)
    (try clear hb2)
    (try clear hk)
    (try clear hi)
    refine hK.out _ _ ⟨(bC BK333.out 0).trans rfl, (bC BK333.out 1).trans rfl, (bC BK333.out 2).trans rfl, (bC BK333.out 3).trans rfl, (bC BK333.out 4).trans rfl, (bC BK333.out 5).trans rfl, (bC BK333.out 6).trans rfl, (bC BK333.out 7).trans rfl, (bC BK333.out 8).trans rfl, (bC BK333.out 9).trans rfl, (bC BK333.out 10).trans rfl, (bC BK334.out 0).trans rfl, (bC BK334.out 1).trans rfl, (bC BK334.out 2).trans rfl, (bC BK334.out 3).trans rfl, (bC BK334.out 4).trans rfl, (bC BK334.out 5).trans rfl, (bC BK334.out 6).trans rfl, (bC BK334.out 7).trans rfl, (bC BK334.out 8).trans rfl, (bC BK334.out 9).trans rfl, (bC BK334.out 10).trans rfl, (bC BK334.out 11).trans rfl, (bC BK334.out 12).trans rfl, (bC BK334.out 13).trans rfl, (bC BK334.out 14).trans rfl, (bC BK334.out 15).trans rfl, (bC BK334.out 16).trans rfl, (bC BK334.out 17).trans rfl⟩ (fun hHeld => ?_)
    clear hK K
    refine norm_ (a' := ?_) ?_ ?_
    rotate_left
    ·show Act.put _ (some 23) _ = _
     simp only [Act.put, List.setIfInBounds_toArray, List.set_cons_zero, List.set_cons_succ, i64_w, i32_w]
     rfl
    refine pure_ (i := 19) (N := some 24) (v := ?_) (a' := ?_) #[true, true, true, true, true, true, true, true, true, true, true, true, true, true, true, true, true, true, true, true, false, false, false, false, false] rfl rfl (any_of HT_.out (by kernel_rfl)) (fun _ _ _ h => h) (Or.inl ⟨by rfl, ?_⟩) ?_ ?_
    rotate_left
    ·intro w'
     go_simp
     with_reducible rfl
    rotate_left
    ·simp only [Act.put, List.setIfInBounds_toArray, List.set_cons_zero, List.set_cons_succ, i64_w, i32_w]
     rfl
    refine pure_ (i := 20) (N := some 25) (v := ?_) (a' := ?_) #[true, true, true, true, true, true, true, true, true, true, true, true, true, true, true, true, true, true, true, true, true, false, false, false, false] rfl rfl (any_of HT_.out (by kernel_rfl)) (fun _ _ _ h => h) (Or.inl ⟨by rfl, ?_⟩) ?_ ?_
    rotate_left
    ·intro w'
     go_simp
     with_reducible rfl
    rotate_left
    ·simp only [Act.put, List.setIfInBounds_toArray, List.set_cons_zero, List.set_cons_succ, i64_w, i32_w]
     rfl
    refine pure_ (i := 21) (N := some 26) (v := ?_) (a' := ?_) #[true, true, true, true, true, true, true, true, true, true, true, true, true, true, true, true, true, true, true, true, true, true, false, false, false] rfl rfl (any_of HT_.out (by kernel_rfl)) (fun _ _ _ h => h) (Or.inl ⟨by rfl, ?_⟩) ?_ ?_
    rotate_left
    ·intro w'
     go_simp
     with_reducible rfl
    rotate_left
    ·simp only [Act.put, List.setIfInBounds_toArray, List.set_cons_zero, List.set_cons_succ, i64_w, i32_w]
     rfl
    refine one_ (i := 22) (N := some 27) #[true, true, true, true, true, true, true, true, true, true, true, true, true, true, true, true, true, true, true, true, true, true, true, false, false] rfl rfl (one_of HT_.out (by kernel_rfl)) (by decide) (fun K hK => ?_)
    refine goes_ Tryd.func11 (by kernel_rfl) rfl #[] (by rfl) rfl rfl (by first | rfl | (simp only [List.map_toArray]; rfl)) ?_
    with_reducible refine (sawmilllaw46_awake.calls  t341 _ A12.out).mono ?_
    rintro e w22 ⟨rfl, hb⟩
    refine ⟨_, rfl, ?_⟩
    have n0_ := q_ (bB (g := gb333) (by (with_reducible repeat (first | refine bN ?_ _ | refine bW ?_ | refine bA ?_ _)); exact BK333.out) hb)
    have n1_ := q_ (bB (g := gb334) (by (with_reducible repeat (first | refine bN ?_ _ | refine bW ?_ | refine bA ?_ _)); exact BK334.out) hb)
    have n2_ := q_ (pT (by repeat (first | (with_reducible first | exact HB.out | apply pA | apply pN | apply p1 | refine pS ?_ GE333.out | refine pS ?_ GE334.out) | exact HB.out)) hb)
    clear BK333
    clear BK334
    clear HB
    have BK333 := n0_
    have BK334 := n1_
    have HB := n2_
    clear n0_ n1_ n2_
    (try clear hb)
    (try clear hb2)
    (try clear hk)
    (try clear hi)
    refine hK.out _ _ ⟨(bC BK333.out 0).trans rfl, (bC BK333.out 1).trans rfl, (bC BK333.out 2).trans rfl, (bC BK333.out 3).trans rfl, (bC BK333.out 4).trans rfl, (bC BK333.out 5).trans rfl, (bC BK333.out 6).trans rfl, (bC BK333.out 7).trans rfl, (bC BK333.out 8).trans rfl, (bC BK333.out 9).trans rfl, (bC BK333.out 10).trans rfl, (bC BK334.out 0).trans rfl, (bC BK334.out 1).trans rfl, (bC BK334.out 2).trans rfl, (bC BK334.out 3).trans rfl, (bC BK334.out 4).trans rfl, (bC BK334.out 5).trans rfl, (bC BK334.out 6).trans rfl, (bC BK334.out 7).trans rfl, (bC BK334.out 8).trans rfl, (bC BK334.out 9).trans rfl, (bC BK334.out 10).trans rfl, (bC BK334.out 11).trans rfl, (bC BK334.out 12).trans rfl, (bC BK334.out 13).trans rfl, (bC BK334.out 14).trans rfl, (bC BK334.out 15).trans rfl, (bC BK334.out 16).trans rfl, (bC BK334.out 17).trans rfl⟩ (fun hHeld => ?_)
    clear hK K
    refine norm_ (a' := ?_) ?_ ?_
    rotate_left
    ·show Act.put _ (some 27) _ = _
     simp only [Act.put, List.setIfInBounds_toArray, List.set_cons_zero, List.set_cons_succ, i64_w, i32_w]
     rfl
    refine pure_ (i := 23) (N := some 28) (v := ?_) (a' := ?_) #[true, true, true, true, true, true, true, true, true, true, true, true, true, true, true, true, true, true, true, true, true, true, true, true, false] rfl rfl (any_of HT_.out (by kernel_rfl)) (fun _ _ _ h => h) (Or.inl ⟨by rfl, ?_⟩) ?_ ?_
    rotate_left
    ·intro w'
     go_simp
     with_reducible rfl
    rotate_left
    ·simp only [Act.put, List.setIfInBounds_toArray, List.set_cons_zero, List.set_cons_succ, i64_w, i32_w]
     rfl
    refine pure_ (i := 24) (N := some 4) (v := ?_) (a' := ?_) #[true, true, true, true, true, true, true, true, true, true, true, true, true, true, true, true, true, true, true, true, true, true, true, true, true] rfl rfl (any_of HT_.out (by kernel_rfl)) (fun _ _ _ h => h) (Or.inl ⟨by rfl, ?_⟩) ?_ ?_
    rotate_left
    ·intro w'
     go_simp
     with_reducible rfl
    rotate_left
    ·simp only [Act.put, List.setIfInBounds_toArray, List.set_cons_zero, List.set_cons_succ, i64_w, i32_w]
     rfl
    refine done_ (done_of HT_.out (by kernel_rfl)) ?_
    try go_wp2
    go_ret
    exact ⟨by first | rfl | (simp [*] <;> rfl), by repeat (first | (with_reducible first | exact HB.out | apply pA | apply pN | apply p1 | refine pS ?_ GE333.out | refine pS ?_ GE334.out) | exact HB.out)⟩
   ·rw [if_neg c11] at H
    exact absurd H (by simp)
  ·rw [if_neg c8] at H
   exact absurd H (by simp)
 ·rw [if_neg c5] at H
  exact absurd H (by simp)
end Go.Proofs.YtblmgmhjlbkncaaDoor.PA
namespace Go.Proofs.YtblmgmhjlbkncaaDoor.PA
open Go.RowKit Go.Proofs.YtblmgmhjlbkncaaDoorW.PrintWords Go.Proofs.YtblmgmhjlbkncaaDoorW.PrintLast Go.Proofs.YtblmgmhjlbkncaaDoorW.PrintMore
attribute [local go_sem] max2_int min2_int max_two min_two max_three min_three max_four min_four
set_option linter.unusedVariables false
set_option linter.unusedSimpArgs false
end Go.Proofs.YtblmgmhjlbkncaaDoor.PA
