/- Each Go function that the law reaches as a Lean function, and that its call comes to that function's answer. -/
import Derived.Test.YtblmgmhjlbkncaaDoorCOrderChecks2
import Derived.Test.YtblmgmhjlbkncaaDoorVOrderChecks
import Derived.Test.YtblmgmhjlbkncaaDoorProg
import Derived.Test.YtblmgmhjlbkncaaDoorShelf
import Derived.Below
import Derived.Deep.Draws
import Derived.Deep.AppendLies
import Derived.Maps.AppendAt
import Derived.OwnWalk
import Derived.Laws.BytesArg
import Derived.Laws.MakeOwn
import Derived.Laws.OwnMore
import Derived.Deep.OwnRows
import Derived.Tactics
import Derived.Lib.ConvBytes
import Derived.Laws.Slices
import Derived.WalkKit
import Derived.KernelRfl
import Derived.RowKit3
import Derived.Deep.LoopGhost
import Derived.Deep.QuietTactic
import Derived.BigQuiet
import Derived.WideLaws
import Derived.Deep.DeepCutAuto
import Derived.Deep.CutBlock
import Derived.Deep.RegionHeld3
import Derived.Laws.Rows
import Derived.Lib.AppendStr
import Derived.ArgAppend
import Derived.Laws.IdiomCopy
import Derived.OrdersHeld
import Derived.Laws.BitsLemmas
import Derived.RowKit
import Derived.LoopN
import Derived.Laws.EntriesVeiled
import Derived.LaidSub
import Derived.MakeChecks
import Derived.Lib.LaidTab
import Derived.Maps.OwnOps
import Derived.Maps.Views
import Derived.Maps.Keyed
import Derived.Shelf.SlicesQ.Load
import Derived.Laws.Tables
namespace Go.Proofs.YtblmgmhjlbkncaaDoor.PA
open Go.RowKit Go.Proofs.YtblmgmhjlbkncaaDoorW.PrintWords Go.Proofs.YtblmgmhjlbkncaaDoorW.PrintLast Go.Proofs.YtblmgmhjlbkncaaDoorW.PrintMore
attribute [local go_sem] max2_int min2_int max_two min_two max_three min_three max_four min_four
set_option linter.unusedVariables false
set_option linter.unusedSimpArgs false
def order_Least.f (a0_0 : ByteArray) (a0_1 : ByteArray) (a0_2 : Int) (a0_3 : Int) (a0_4 : Int) (a0_5 : Int) (a0_6 : Int) (a0_7 : Int) (a0_8 : Int) (a0_9 : Int) (a0_10 : Int) : Option (Int) := (order_sound.f a0_0 a0_1 a0_2 a0_3 a0_4 a0_5 a0_6 a0_7 a0_8 a0_9 a0_10).bind fun t156 => (if t156 = true then (some (wrap64 (a0_6 - a0_7))) else (some 0))
set_option maxHeartbeats 8000000 in
set_option maxRecDepth 100000 in
theorem order_Least.calls (a0_0 : ByteArray) (a0_1 : ByteArray) (a0_2 : Int) (a0_3 : Int) (a0_4 : Int) (a0_5 : Int) (a0_6 : Int) (a0_7 : Int) (a0_8 : Int) (a0_9 : Int) (a0_10 : Int) (r : Int) (w : World) (h : order_Least.f a0_0 a0_1 a0_2 a0_3 a0_4 a0_5 a0_6 a0_7 a0_8 a0_9 a0_10 = some r) :
  Calls Tryd.prog 16 #[.agg #[.string a0_0, .string a0_1, .int .i64 a0_2, .int .i64 a0_3, .int .i64 a0_4, .int .i64 a0_5, .int .i64 a0_6, .int .i64 a0_7, .int .i64 a0_8, .int .i64 a0_9, .int .i64 a0_10]] w fun e w' => e = .returned (.int .i64 r) ∧ Below w.heap.size w w' := by
 have hu23 := Tryd.underlying23
 have HB := q_ (Below.refl w.heap.size w)
 have H : ((order_sound.f a0_0 a0_1 a0_2 a0_3 a0_4 a0_5 a0_6 a0_7 a0_8 a0_9 a0_10).bind fun t156 => (if t156 = true then (some (wrap64 (a0_6 - a0_7))) else (some 0))) = some r := h
 clear h
 replace H := oB H
 obtain ⟨t156, A20, H⟩ := H
 replace H : (if t156 = true then (some (wrap64 (a0_6 - a0_7))) else (some 0)) = some r := H
 have A2 := Aside0.mk A20
 clear A20
 by_cases c3 : t156 = true
 ·subst c3
  have H1 : (some (wrap64 (a0_6 - a0_7))) = some r := by rw [if_pos rfl] at H; exact H
  clear H
  have H := H1
  clear H1
  obtain rfl := Option.some.inj H
  go_enter Tryd.func16, Tryd.ntmps16
  go_wp2_with (first | (refine wpList_load_cells (by rfl) 23 _ (by exact rfl) ⟨gb155, 0, none⟩ (by rfl) _ _ (cells_of_blk (by (with_reducible repeat (first | refine bN ?_ _ | refine bW ?_ | refine bA ?_ _)); exact BK155.out)) Tryd.underlying23 rfl (by kernel_rfl) ?_) | ((with_reducible refine gate_dst (N := 1) rfl ?_); refine box_event ?hg (N := 1) ?hd (cs := #[.string a0_0, .string a0_1, .int .i64 a0_2, .int .i64 a0_3, .int .i64 a0_4, .int .i64 a0_5, .int .i64 a0_6, .int .i64 a0_7, .int .i64 a0_8, .int .i64 a0_9, .int .i64 a0_10]) (t := 23) ?hr ?_; (case hd => rfl); (case hg => rfl); (case hr => first | (go_simp; done) | (go_simp; rfl)); intro gb155 hg w4 hbox hb; have n0_ := q_ (pT (by repeat (first | (with_reducible first | exact HB.out | apply pA | apply pN | apply p1) | exact HB.out)) hb); have n1_ := q_ (hbox); have n2_ := q_ ((by rw [hg]; exact (pZ (by repeat (first | (with_reducible first | exact HB.out | apply pA | apply pN | apply p1) | exact HB.out))) : w.heap.size ≤ gb155)); have n3_ := n2_; clear HB; have HB := n0_; have BK155 := n1_; have GW155 := n2_; have GE155 := n3_; clear n0_ n1_ n2_ n3_; clear hb hbox hg; have hcz5 := blk_all BK155.out; simp only [CellsAt, List.toList_toArray, Nat.reduceAdd, and_true] at hcz5; have hfz5 := bF BK155.out) | ((with_reducible refine gate_callee (f := 31) rfl ?_); refine goesL_ (some 4) rfl rfl Tryd.func31 (by kernel_rfl) rfl #[.agg #[.string a0_0, .string a0_1, .int .i64 a0_2, .int .i64 a0_3, .int .i64 a0_4, .int .i64 a0_5, .int .i64 a0_6, .int .i64 a0_7, .int .i64 a0_8, .int .i64 a0_9, .int .i64 a0_10]] rfl (by first | rfl | (simp only [List.map_toArray]; rfl)) ?_; (with_reducible refine (order_sound.calls a0_0 a0_1 a0_2 a0_3 a0_4 a0_5 a0_6 a0_7 a0_8 a0_9 a0_10 true _ A2.out).mono ?_); rintro e w6 ⟨rfl, hb⟩; refine ⟨_, rfl, ?_⟩; have n0_ := q_ (bB (g := gb155) (by (with_reducible repeat (first | refine bN ?_ _ | refine bW ?_ | refine bA ?_ _)); exact BK155.out) hb); have n1_ := q_ (pT (by repeat (first | (with_reducible first | exact HB.out | apply pA | apply pN | apply p1 | refine pS ?_ GE155.out) | exact HB.out)) hb); clear BK155; clear HB; have BK155 := n0_; have HB := n1_; clear n0_ n1_; (try clear hb); (try clear hb2); (try clear hk); (try clear hi); have hcz7 := blk_all BK155.out; simp only [CellsAt, List.toList_toArray, Nat.reduceAdd, and_true] at hcz7; have hfz7 := bF BK155.out))
  go_ret
  exact ⟨by first | rfl | (simp [*] <;> rfl), by repeat (first | (with_reducible first | exact HB.out | apply pA | apply pN | apply p1 | refine pS ?_ GE155.out) | exact HB.out)⟩
 ·replace c3 := Bool.eq_false_iff.mpr c3
  subst c3
  have H1 : (some 0) = some r := by rw [if_neg (show ¬ (false = true) by decide)] at H; exact H
  clear H
  have H := H1
  clear H1
  obtain rfl := Option.some.inj H
  go_enter Tryd.func16, Tryd.ntmps16
  go_wp2_with (first | (refine wpList_load_cells (by rfl) 23 _ (by exact rfl) ⟨gb155, 0, none⟩ (by rfl) _ _ (cells_of_blk (by (with_reducible repeat (first | refine bN ?_ _ | refine bW ?_ | refine bA ?_ _)); exact BK155.out)) Tryd.underlying23 rfl (by kernel_rfl) ?_) | ((with_reducible refine gate_dst (N := 1) rfl ?_); refine box_event ?hg (N := 1) ?hd (cs := #[.string a0_0, .string a0_1, .int .i64 a0_2, .int .i64 a0_3, .int .i64 a0_4, .int .i64 a0_5, .int .i64 a0_6, .int .i64 a0_7, .int .i64 a0_8, .int .i64 a0_9, .int .i64 a0_10]) (t := 23) ?hr ?_; (case hd => rfl); (case hg => rfl); (case hr => first | (go_simp; done) | (go_simp; rfl)); intro gb155 hg w8 hbox hb; have n0_ := q_ (pT (by repeat (first | (with_reducible first | exact HB.out | apply pA | apply pN | apply p1) | exact HB.out)) hb); have n1_ := q_ (hbox); have n2_ := q_ ((by rw [hg]; exact (pZ (by repeat (first | (with_reducible first | exact HB.out | apply pA | apply pN | apply p1) | exact HB.out))) : w.heap.size ≤ gb155)); have n3_ := n2_; clear HB; have HB := n0_; have BK155 := n1_; have GW155 := n2_; have GE155 := n3_; clear n0_ n1_ n2_ n3_; clear hb hbox hg; have hcz9 := blk_all BK155.out; simp only [CellsAt, List.toList_toArray, Nat.reduceAdd, and_true] at hcz9; have hfz9 := bF BK155.out) | ((with_reducible refine gate_callee (f := 31) rfl ?_); refine goesL_ (some 4) rfl rfl Tryd.func31 (by kernel_rfl) rfl #[.agg #[.string a0_0, .string a0_1, .int .i64 a0_2, .int .i64 a0_3, .int .i64 a0_4, .int .i64 a0_5, .int .i64 a0_6, .int .i64 a0_7, .int .i64 a0_8, .int .i64 a0_9, .int .i64 a0_10]] rfl (by first | rfl | (simp only [List.map_toArray]; rfl)) ?_; (with_reducible refine (order_sound.calls a0_0 a0_1 a0_2 a0_3 a0_4 a0_5 a0_6 a0_7 a0_8 a0_9 a0_10 false _ A2.out).mono ?_); rintro e w10 ⟨rfl, hb⟩; refine ⟨_, rfl, ?_⟩; have n0_ := q_ (bB (g := gb155) (by (with_reducible repeat (first | refine bN ?_ _ | refine bW ?_ | refine bA ?_ _)); exact BK155.out) hb); have n1_ := q_ (pT (by repeat (first | (with_reducible first | exact HB.out | apply pA | apply pN | apply p1 | refine pS ?_ GE155.out) | exact HB.out)) hb); clear BK155; clear HB; have BK155 := n0_; have HB := n1_; clear n0_ n1_; (try clear hb); (try clear hb2); (try clear hk); (try clear hi)))
  go_ret
  exact ⟨by first | rfl | (simp [*] <;> rfl), by repeat (first | (with_reducible first | exact HB.out | apply pA | apply pN | apply p1 | refine pS ?_ GE155.out) | exact HB.out)⟩
def order_Most.f (a0_0 : ByteArray) (a0_1 : ByteArray) (a0_2 : Int) (a0_3 : Int) (a0_4 : Int) (a0_5 : Int) (a0_6 : Int) (a0_7 : Int) (a0_8 : Int) (a0_9 : Int) (a0_10 : Int) : Option (Int) := (order_sound.f a0_0 a0_1 a0_2 a0_3 a0_4 a0_5 a0_6 a0_7 a0_8 a0_9 a0_10).bind fun t158 => (if t158 = true then (some (wrap64 (a0_6 + a0_8))) else (some 0))
set_option maxHeartbeats 8000000 in
set_option maxRecDepth 100000 in
theorem order_Most.calls (a0_0 : ByteArray) (a0_1 : ByteArray) (a0_2 : Int) (a0_3 : Int) (a0_4 : Int) (a0_5 : Int) (a0_6 : Int) (a0_7 : Int) (a0_8 : Int) (a0_9 : Int) (a0_10 : Int) (r : Int) (w : World) (h : order_Most.f a0_0 a0_1 a0_2 a0_3 a0_4 a0_5 a0_6 a0_7 a0_8 a0_9 a0_10 = some r) :
  Calls Tryd.prog 18 #[.agg #[.string a0_0, .string a0_1, .int .i64 a0_2, .int .i64 a0_3, .int .i64 a0_4, .int .i64 a0_5, .int .i64 a0_6, .int .i64 a0_7, .int .i64 a0_8, .int .i64 a0_9, .int .i64 a0_10]] w fun e w' => e = .returned (.int .i64 r) ∧ Below w.heap.size w w' := by
 have hu23 := Tryd.underlying23
 have HB := q_ (Below.refl w.heap.size w)
 have H : ((order_sound.f a0_0 a0_1 a0_2 a0_3 a0_4 a0_5 a0_6 a0_7 a0_8 a0_9 a0_10).bind fun t158 => (if t158 = true then (some (wrap64 (a0_6 + a0_8))) else (some 0))) = some r := h
 clear h
 replace H := oB H
 obtain ⟨t158, A20, H⟩ := H
 replace H : (if t158 = true then (some (wrap64 (a0_6 + a0_8))) else (some 0)) = some r := H
 have A2 := Aside0.mk A20
 clear A20
 by_cases c3 : t158 = true
 ·subst c3
  have H1 : (some (wrap64 (a0_6 + a0_8))) = some r := by rw [if_pos rfl] at H; exact H
  clear H
  have H := H1
  clear H1
  obtain rfl := Option.some.inj H
  go_enter Tryd.func18, Tryd.ntmps18
  go_wp2_with (first | (refine wpList_load_cells (by rfl) 23 _ (by exact rfl) ⟨gb157, 0, none⟩ (by rfl) _ _ (cells_of_blk (by (with_reducible repeat (first | refine bN ?_ _ | refine bW ?_ | refine bA ?_ _)); exact BK157.out)) Tryd.underlying23 rfl (by kernel_rfl) ?_) | ((with_reducible refine gate_dst (N := 1) rfl ?_); refine box_event ?hg (N := 1) ?hd (cs := #[.string a0_0, .string a0_1, .int .i64 a0_2, .int .i64 a0_3, .int .i64 a0_4, .int .i64 a0_5, .int .i64 a0_6, .int .i64 a0_7, .int .i64 a0_8, .int .i64 a0_9, .int .i64 a0_10]) (t := 23) ?hr ?_; (case hd => rfl); (case hg => rfl); (case hr => first | (go_simp; done) | (go_simp; rfl)); intro gb157 hg w4 hbox hb; have n0_ := q_ (pT (by repeat (first | (with_reducible first | exact HB.out | apply pA | apply pN | apply p1) | exact HB.out)) hb); have n1_ := q_ (hbox); have n2_ := q_ ((by rw [hg]; exact (pZ (by repeat (first | (with_reducible first | exact HB.out | apply pA | apply pN | apply p1) | exact HB.out))) : w.heap.size ≤ gb157)); have n3_ := n2_; clear HB; have HB := n0_; have BK157 := n1_; have GW157 := n2_; have GE157 := n3_; clear n0_ n1_ n2_ n3_; clear hb hbox hg; have hcz5 := blk_all BK157.out; simp only [CellsAt, List.toList_toArray, Nat.reduceAdd, and_true] at hcz5; have hfz5 := bF BK157.out) | ((with_reducible refine gate_callee (f := 31) rfl ?_); refine goesL_ (some 4) rfl rfl Tryd.func31 (by kernel_rfl) rfl #[.agg #[.string a0_0, .string a0_1, .int .i64 a0_2, .int .i64 a0_3, .int .i64 a0_4, .int .i64 a0_5, .int .i64 a0_6, .int .i64 a0_7, .int .i64 a0_8, .int .i64 a0_9, .int .i64 a0_10]] rfl (by first | rfl | (simp only [List.map_toArray]; rfl)) ?_; (with_reducible refine (order_sound.calls a0_0 a0_1 a0_2 a0_3 a0_4 a0_5 a0_6 a0_7 a0_8 a0_9 a0_10 true _ A2.out).mono ?_); rintro e w6 ⟨rfl, hb⟩; refine ⟨_, rfl, ?_⟩; have n0_ := q_ (bB (g := gb157) (by (with_reducible repeat (first | refine bN ?_ _ | refine bW ?_ | refine bA ?_ _)); exact BK157.out) hb); have n1_ := q_ (pT (by repeat (first | (with_reducible first | exact HB.out | apply pA | apply pN | apply p1 | refine pS ?_ GE157.out) | exact HB.out)) hb); clear BK157; clear HB; have BK157 := n0_; have HB := n1_; clear n0_ n1_; (try clear hb); (try clear hb2); (try clear hk); (try clear hi); have hcz7 := blk_all BK157.out; simp only [CellsAt, List.toList_toArray, Nat.reduceAdd, and_true] at hcz7; have hfz7 := bF BK157.out))
  go_ret
  exact ⟨by first | rfl | (simp [*] <;> rfl), by repeat (first | (with_reducible first | exact HB.out | apply pA | apply pN | apply p1 | refine pS ?_ GE157.out) | exact HB.out)⟩
 ·replace c3 := Bool.eq_false_iff.mpr c3
  subst c3
  have H1 : (some 0) = some r := by rw [if_neg (show ¬ (false = true) by decide)] at H; exact H
  clear H
  have H := H1
  clear H1
  obtain rfl := Option.some.inj H
  go_enter Tryd.func18, Tryd.ntmps18
  go_wp2_with (first | (refine wpList_load_cells (by rfl) 23 _ (by exact rfl) ⟨gb157, 0, none⟩ (by rfl) _ _ (cells_of_blk (by (with_reducible repeat (first | refine bN ?_ _ | refine bW ?_ | refine bA ?_ _)); exact BK157.out)) Tryd.underlying23 rfl (by kernel_rfl) ?_) | ((with_reducible refine gate_dst (N := 1) rfl ?_); refine box_event ?hg (N := 1) ?hd (cs := #[.string a0_0, .string a0_1, .int .i64 a0_2, .int .i64 a0_3, .int .i64 a0_4, .int .i64 a0_5, .int .i64 a0_6, .int .i64 a0_7, .int .i64 a0_8, .int .i64 a0_9, .int .i64 a0_10]) (t := 23) ?hr ?_; (case hd => rfl); (case hg => rfl); (case hr => first | (go_simp; done) | (go_simp; rfl)); intro gb157 hg w8 hbox hb; have n0_ := q_ (pT (by repeat (first | (with_reducible first | exact HB.out | apply pA | apply pN | apply p1) | exact HB.out)) hb); have n1_ := q_ (hbox); have n2_ := q_ ((by rw [hg]; exact (pZ (by repeat (first | (with_reducible first | exact HB.out | apply pA | apply pN | apply p1) | exact HB.out))) : w.heap.size ≤ gb157)); have n3_ := n2_; clear HB; have HB := n0_; have BK157 := n1_; have GW157 := n2_; have GE157 := n3_; clear n0_ n1_ n2_ n3_; clear hb hbox hg; have hcz9 := blk_all BK157.out; simp only [CellsAt, List.toList_toArray, Nat.reduceAdd, and_true] at hcz9; have hfz9 := bF BK157.out) | ((with_reducible refine gate_callee (f := 31) rfl ?_); refine goesL_ (some 4) rfl rfl Tryd.func31 (by kernel_rfl) rfl #[.agg #[.string a0_0, .string a0_1, .int .i64 a0_2, .int .i64 a0_3, .int .i64 a0_4, .int .i64 a0_5, .int .i64 a0_6, .int .i64 a0_7, .int .i64 a0_8, .int .i64 a0_9, .int .i64 a0_10]] rfl (by first | rfl | (simp only [List.map_toArray]; rfl)) ?_; (with_reducible refine (order_sound.calls a0_0 a0_1 a0_2 a0_3 a0_4 a0_5 a0_6 a0_7 a0_8 a0_9 a0_10 false _ A2.out).mono ?_); rintro e w10 ⟨rfl, hb⟩; refine ⟨_, rfl, ?_⟩; have n0_ := q_ (bB (g := gb157) (by (with_reducible repeat (first | refine bN ?_ _ | refine bW ?_ | refine bA ?_ _)); exact BK157.out) hb); have n1_ := q_ (pT (by repeat (first | (with_reducible first | exact HB.out | apply pA | apply pN | apply p1 | refine pS ?_ GE157.out) | exact HB.out)) hb); clear BK157; clear HB; have BK157 := n0_; have HB := n1_; clear n0_ n1_; (try clear hb); (try clear hb2); (try clear hk); (try clear hi)))
  go_ret
  exact ⟨by first | rfl | (simp [*] <;> rfl), by repeat (first | (with_reducible first | exact HB.out | apply pA | apply pN | apply p1 | refine pS ?_ GE157.out) | exact HB.out)⟩
def fitOf (k : Nat) (a0 a1 : ByteArray) (a2 a3 a4 a5 a6 a7 a8 a9 a10 : Int) (x : S38) : Option Int :=
 order_Fits.f k a0 a1 a2 a3 a4 a5 a6 a7 a8 a9 a10 x.f0 x.f1 x.f2 x.f3 x.f4.f0.f0 x.f4.f0.f1 x.f4.f1.f0 x.f4.f1.f1 x.f4.f2.f0 x.f4.f2.f1 x.f5 x.f6 x.f7 x.f8.f0 x.f8.f1 x.f8.f2 x.f9 x.f10
def order_Filled.g (k : Nat) (a0 a1 : ByteArray) (a2 a3 a4 a5 a6 a7 a8 a9 a10 : Int) : List S38 → List (List UInt8) → Option Bool
 | [], _ => some true
 | x :: r, seen => if x.f0.size ≤ maxLen then (if x.f0.data.toList ∈ seen then some false else (fitOf k a0 a1 a2 a3 a4 a5 a6 a7 a8 a9 a10 x).bind fun t => (if t = 0 then order_Filled.g k a0 a1 a2 a3 a4 a5 a6 a7 a8 a9 a10 r (x.f0.data.toList :: seen) else some false)) else none
def order_Filled.f (k : Nat) (a0_0 a0_1 : ByteArray) (a0_2 a0_3 a0_4 a0_5 a0_6 a0_7 a0_8 a0_9 a0_10 : Int) (l1 : List S38) : Option Bool :=
 if l1.length ≤ 1000000 then ((order_sound.f a0_0 a0_1 a0_2 a0_3 a0_4 a0_5 a0_6 a0_7 a0_8 a0_9 a0_10).bind fun t1 => if t1 = true then ((order_Least.f a0_0 a0_1 a0_2 a0_3 a0_4 a0_5 a0_6 a0_7 a0_8 a0_9 a0_10).bind fun t2 => if (l1.length : Int) < t2 then some false else ((order_Most.f a0_0 a0_1 a0_2 a0_3 a0_4 a0_5 a0_6 a0_7 a0_8 a0_9 a0_10).bind fun t3 => if (l1.length : Int) > t3 then some false else order_Filled.g k a0_0 a0_1 a0_2 a0_3 a0_4 a0_5 a0_6 a0_7 a0_8 a0_9 a0_10 l1 [])) else some false) else none
theorem grown_below {w w' : World} (h : Below w.heap.size w w') (row : Option Nat) : w.grownBy w' row := ⟨h.os, h.tape, h.output, h.size, fun k hk _ => h.block k hk⟩
theorem wpList_lookup_own_bool {H : Type} {P : Program} (w : World) {ops : Array Oper} {rest : List Oper} {o : Oper} {a : Act} {Q : Exit → Act → World → Prop}
  (hg : o.guard = none) (m x : Operand) (t : TypeId) (hop : o.op = Op.lookup t m x false)
  (k e : TypeId) (K : Go.Maps.Keyed P k) (ht : P.underlying t = some (.map k e)) (he : P.underlying e = some .bool) (hz : (zeroValue e).run P w = .ok (.bool false) w) (b n : Nat) (D : DataW H)
  (hm : a.eval m = .map (some b)) (hown : w.ownsMap P k (plainElem P e) b n D) (key : Value) (kl : Lit) (hx : a.eval x = key) (hkey : keyOf P k key = some kl)
  (hK : ∀ c : Bool, D.atKey kl (.lit (.bool false)) = .lit (.bool c) → wpList P ops Q rest (a.put o.dst (.bool c)) w) :
  wpList P ops Q (o :: rest) a w := by
 refine wpList_plain hg fun K' hK' => ?_
 obtain ⟨v, ps, hrun, hv⟩ := hown.lookup K ht hz (plainElem_bool he false) hkey
 obtain ⟨c, rfl, hc⟩ : ∃ c, v = .bool c ∧ D.atKey kl (.lit (.bool false)) = .lit (.bool c) := by
  unfold plainElem at hv
  rw [he] at hv
  cases v <;> simp at hv
  exact ⟨_, rfl, hv.1.symm⟩
 unfold Oper.wp
 simp [execOp, hop, hm, hx, hrun, Result.andThen]
 exact hK' _ _ (hK c hc)
set_option maxHeartbeats 8000000 in
set_option maxRecDepth 100000 in
theorem unfit_calls (k : Nat) (a0 a1 : ByteArray) (a2 a3 a4 a5 a6 a7 a8 a9 a10 : Int) (x : S38) (A : Option Addr) (c : Nat) (w W : World) (Bs Bo Bm n : Nat) (D : DataW Unit) (tw : Bool) (fit : Int) (hb : Below w.heap.size w W) (hBm : w.heap.size ≤ Bm)
  (hs : W.cell? ⟨Bs, 0, none⟩ = some (.map (some Bm))) (ho : W.heap[Bo]? = some (.cells #[.string a0, .string a1, .int .i64 a2, .int .i64 a3, .int .i64 a4, .int .i64 a5, .int .i64 a6, .int .i64 a7, .int .i64 a8, .int .i64 a9, .int .i64 a10] 23 (0, 0)))
  (hm : W.ownsMap Tryd.prog 9 (plainElem Tryd.prog 4) Bm n D) (hn : n < maxLen) (hsz : x.f0.size ≤ maxLen) (hat : D.atKey (.string x.f0.data.toList) (.lit (.bool false)) = .lit (.bool tw))
  (hC : Kd.C k176 w A x.f6.length x.f6) (hc : x.f6.length ≤ c) (hfit : tw = false → fitOf k a0 a1 a2 a3 a4 a5 a6 a7 a8 a9 a10 x = some fit) :
  Calls Tryd.prog 41 #[.agg #[.string x.f0, .string x.f1, .string x.f2, .int .i64 x.f3, .int .i64 x.f4.f0.f0, .int .i64 x.f4.f0.f1, .int .i64 x.f4.f1.f0, .int .i64 x.f4.f1.f1, .int .i64 x.f4.f2.f0, .int .i64 x.f4.f2.f1, .int .i64 x.f5, .slice A x.f6.length c, .int .i64 x.f7, .int .i64 x.f8.f0, .int .i64 x.f8.f1, .int .i64 x.f8.f2, .bool x.f9, .int .i64 x.f10], .pointer (some ⟨Bs, 0, none⟩), .pointer (some ⟨Bo, 0, none⟩)] W fun e W' => e = .returned (.bool (tw || (fit != 0))) ∧ W.grownBy W' (some Bm) ∧ W'.ownsMap Tryd.prog 9 (plainElem Tryd.prog 4) Bm (n + 1) (D.put (.string x.f0.data.toList) (.lit (.bool true))) := by
 have hkey : keyOf Tryd.prog 9 (.string x.f0) = some (.string x.f0.data.toList) := Go.WideMaps.keyOf_string_mk Tryd.underlying9 hsz
 have zb : ∀ w : World, (zeroValue 4).run Tryd.prog w = .ok (.bool false) w := fun w => by kernel_rfl
 have ltm := hm.lt
 have lts : Bs < W.heap.size := World.block_lt_of_cell? W ⟨Bs, 0, none⟩ hs
 have lto : Bo < W.heap.size := (Array.getElem?_eq_some_iff.1 ho).1
 have nes : Bs ≠ W.heap.size := by omega
 have neo : Bo ≠ W.heap.size := by omega
 have neo' : Bo ≠ Bm := by
  rintro rfl
  obtain ⟨es, clock, hb', -⟩ := hm
  rw [ho] at hb'
  cases hb'
 have nem : W.heap.size ≠ Bm := by omega
 have HM := Aside0.mk hm
 have HO := Aside0.mk ho
 have HB := Aside0.mk hb
 have HC := Aside0.mk hC
 have HF := Aside0.mk hfit
 have HT := Aside0.mk hat
 clear hm ho hb hC hfit hat
 cases tw with
 | true =>
  as_aux_lemma =>
  go_enter Tryd.func41, Tryd.ntmps41
  go_wp2_with (first
   | (at_lookup; refine wpList_lookup_own_bool _ rfl _ _ 65 rfl 9 4 (Go.Maps.string_keyed Tryd.underlying9) Tryd.underlying65 Tryd.underlying4 (zb _) Bm n D rfl (HM.out.alloc _) _ _ rfl hkey ?_; intro c' hc'; obtain rfl : c' = true := by (have h_ := hc'.symm.trans HT.out; injection h_ with h_; injection h_))
   | (at_mapUpdate; refine wpList_mapUpdate_own _ rfl _ _ _ 65 rfl 9 4 (Go.Maps.string_keyed Tryd.underlying9) Tryd.underlying65 (plainElem Tryd.prog 4) Bm n D rfl (HM.out.alloc _) hn _ _ _ rfl rfl hkey _ [] (plainElem_bool Tryd.underlying4 true) ?_; intro w1 hown1 hgrow1; have HG := Aside0.mk hgrow1; have HW := Aside0.mk hown1; clear hgrow1 hown1))
  go_ret
  exact ⟨by simp, (World.grownBy_alloc _ _ _).trans HG.out, HW.out⟩
 | false =>
  have hf : order_Fits.f k a0 a1 a2 a3 a4 a5 a6 a7 a8 a9 a10 x.f0 x.f1 x.f2 x.f3 x.f4.f0.f0 x.f4.f0.f1 x.f4.f1.f0 x.f4.f1.f1 x.f4.f2.f0 x.f4.f2.f1 x.f5 x.f6 x.f7 x.f8.f0 x.f8.f1 x.f8.f2 x.f9 x.f10 = some fit := HF.out rfl
  as_aux_lemma =>
  go_enter Tryd.func41, Tryd.ntmps41
  go_wp2_with (first
   | (at_lookup; refine wpList_lookup_own_bool _ rfl _ _ 65 rfl 9 4 (Go.Maps.string_keyed Tryd.underlying9) Tryd.underlying65 Tryd.underlying4 (zb _) Bm n D rfl (HM.out.alloc _) _ _ rfl hkey ?_; intro c' hc'; obtain rfl : c' = false := by (have h_ := hc'.symm.trans HT.out; injection h_ with h_; injection h_))
   | (at_mapUpdate; refine wpList_mapUpdate_own _ rfl _ _ _ 65 rfl 9 4 (Go.Maps.string_keyed Tryd.underlying9) Tryd.underlying65 (plainElem Tryd.prog 4) Bm n D rfl (HM.out.alloc _) hn _ _ _ rfl rfl hkey _ [] (plainElem_bool Tryd.underlying4 true) ?_; intro w1 hown1 hgrow1; have ho1 : w1.heap[Bo]? = some (.cells #[.string a0, .string a1, .int .i64 a2, .int .i64 a3, .int .i64 a4, .int .i64 a5, .int .i64 a6, .int .i64 a7, .int .i64 a8, .int .i64 a9, .int .i64 a10] 23 (0, 0)) := (hgrow1.block Bo (Nat.lt_of_lt_of_le lto (by simp)) (by simpa using neo')).trans ((heap_alloc_old W _ lto).trans HO.out); have hx1 : w1.heap[W.heap.size]? = some (.cells #[.string x.f0, .string x.f1, .string x.f2, .int .i64 x.f3, .int .i64 x.f4.f0.f0, .int .i64 x.f4.f0.f1, .int .i64 x.f4.f1.f0, .int .i64 x.f4.f1.f1, .int .i64 x.f4.f2.f0, .int .i64 x.f4.f2.f1, .int .i64 x.f5, .slice A x.f6.length c, .int .i64 x.f7, .int .i64 x.f8.f0, .int .i64 x.f8.f1, .int .i64 x.f8.f2, .bool x.f9, .int .i64 x.f10] 38 (0, 0)) := (hgrow1.block W.heap.size (by simp) (by simpa using nem)).trans (heap_alloc_new W _); have HG := Aside0.mk hgrow1; have HW := Aside0.mk hown1; clear hgrow1 hown1; have HX := Aside0.mk hx1; have HO1 := Aside0.mk ho1; clear hx1 ho1)
   | (refine wpList_load_cells (by rfl) 23 _ (by exact rfl) ⟨Bo, 0, none⟩ (by rfl) #[.string a0, .string a1, .int .i64 a2, .int .i64 a3, .int .i64 a4, .int .i64 a5, .int .i64 a6, .int .i64 a7, .int .i64 a8, .int .i64 a9, .int .i64 a10] _ (by exact cells_of_blk HO1.out) Tryd.underlying23 rfl (by kernel_rfl) ?_)
   | (refine wpList_load_cells (by rfl) 38 _ (by exact rfl) ⟨W.heap.size, 0, none⟩ (by rfl) #[.string x.f0, .string x.f1, .string x.f2, .int .i64 x.f3, .int .i64 x.f4.f0.f0, .int .i64 x.f4.f0.f1, .int .i64 x.f4.f1.f0, .int .i64 x.f4.f1.f1, .int .i64 x.f4.f2.f0, .int .i64 x.f4.f2.f1, .int .i64 x.f5, .slice A x.f6.length c, .int .i64 x.f7, .int .i64 x.f8.f0, .int .i64 x.f8.f1, .int .i64 x.f8.f2, .bool x.f9, .int .i64 x.f10] _ (by exact cells_of_blk HX.out) Tryd.underlying38 rfl (by kernel_rfl) ?_)
   | (go_at_call 14; (with_reducible refine (order_Fits.calls k a0 a1 a2 a3 a4 a5 a6 a7 a8 a9 a10 x.f0 x.f1 x.f2 x.f3 x.f4.f0.f0 x.f4.f0.f1 x.f4.f1.f0 x.f4.f1.f1 x.f4.f2.f0 x.f4.f2.f1 x.f5 A c x.f6 x.f7 x.f8.f0 x.f8.f1 x.f8.f2 x.f9 x.f10 fit _ (Kd.C_below HC.out ((HB.out.alloc HB.out.size _).grown HG.out (by have := HB.out.size; simp; omega) (fun j hj => by cases hj; exact hBm))) hc hf).mono ?_); rintro e w2 ⟨rfl, hb2⟩))
  go_ret
  exact ⟨by simp, ((World.grownBy_alloc _ _ _).trans HG.out).trans (grown_below hb2 _), HW.out.kept (grown_below hb2 none) (by simp)⟩
theorem add_add (a : Addr) (m n : Nat) : (a.add m).add n = a.add (m + n) := by
 unfold Addr.add
 by_cases h1 : m = 0 <;> by_cases h2 : n = 0 <;> simp [h1, h2, Nat.add_assoc]
structure FilInv (k : Nat) (a0 a1 : ByteArray) (a2 a3 a4 a5 a6 a7 a8 a9 a10 : Int) (l1 : List S38) (w : World) (Bs Bo Bm : Nat) (r : Bool) (kk : Nat) (wr : World) : Prop where
 bel : Below w.heap.size w wr
 seen : wr.cell? ⟨Bs, 0, none⟩ = some (.map (some Bm))
 ord : wr.heap[Bo]? = some (.cells #[.string a0, .string a1, .int .i64 a2, .int .i64 a3, .int .i64 a4, .int .i64 a5, .int .i64 a6, .int .i64 a7, .int .i64 a8, .int .i64 a9, .int .i64 a10] 23 (0, 0))
 ids : ∃ (D : DataW Unit) (ids : List (List UInt8)), wr.ownsMap Tryd.prog 9 (plainElem Tryd.prog 4) Bm kk D ∧ Go.Maps.IsMap D ∧ (∀ s : List UInt8, D.atKey (.string s) (.lit (.bool false)) = .lit (.bool (decide (s ∈ ids)))) ∧ order_Filled.g k a0 a1 a2 a3 a4 a5 a6 a7 a8 a9 a10 (l1.drop kk) ids = some r
theorem FilInv.next {k : Nat} {a0 a1 : ByteArray} {a2 a3 a4 a5 a6 a7 a8 a9 a10 : Int} {l1 : List S38} {w wr w2 : World} {Bs Bo Bm kk : Nat} {r : Bool} (I : FilInv k a0 a1 a2 a3 a4 a5 a6 a7 a8 a9 a10 l1 w Bs Bo Bm r kk wr) (hBm : w.heap.size ≤ Bm) (x : S38) (D : DataW Unit) (ids : List (List UInt8)) (hD : Go.Maps.IsMap D) (hat : ∀ s : List UInt8, D.atKey (.string s) (.lit (.bool false)) = .lit (.bool (decide (s ∈ ids))))
  (hg : wr.grownBy w2 (some Bm)) (hm : w2.ownsMap Tryd.prog 9 (plainElem Tryd.prog 4) Bm (kk + 1) (D.put (.string x.f0.data.toList) (.lit (.bool true)))) (hm0 : ∃ es clock, wr.heap[Bm]? = some (.map es clock)) (hg' : order_Filled.g k a0 a1 a2 a3 a4 a5 a6 a7 a8 a9 a10 (l1.drop (kk + 1)) (x.f0.data.toList :: ids) = some r) : FilInv k a0 a1 a2 a3 a4 a5 a6 a7 a8 a9 a10 l1 w Bs Bo Bm r (kk + 1) w2 := by
 have nes : Bs ≠ Bm := by
  rintro rfl
  obtain ⟨es, clock, h1⟩ := hm0
  have := I.seen
  simp [World.cell?, h1] at this
 have neo : Bo ≠ Bm := by
  rintro rfl
  obtain ⟨es, clock, h1⟩ := hm0
  rw [I.ord] at h1
  cases h1
 have lto : Bo < wr.heap.size := (Array.getElem?_eq_some_iff.1 I.ord).1
 refine ⟨I.bel.grown hg I.bel.size (fun j hj => by cases hj; exact hBm), hg.cell I.seen (by simpa using nes), (hg.block Bo lto (by simpa using neo)).trans I.ord, _, x.f0.data.toList :: ids, hm, ?_, fun s => ?_, hg'⟩
 ·obtain ⟨es, clock, -, -, -, hd⟩ := hm
  exact ⟨_, hd⟩
 ·by_cases h : s = x.f0.data.toList
  ·subst h
   rw [Go.Maps.atKey_put_same hD (by simp [Go.WideAt.IsKeyLit])]
   simp
  ·rw [Go.Maps.atKey_put_other (fun e => h (by injection e)), hat s]
   simp [h]
set_option maxHeartbeats 8000000 in
set_option maxRecDepth 100000 in
theorem unfit_index (k : Nat) (a0 a1 : ByteArray) (a2 a3 a4 a5 a6 a7 a8 a9 a10 : Int) (l1 : List S38) (A1 : Option Addr) (c1 : Nat) (w W : World) (Bs Bo Bm : Nat) (r : Bool) (hr : Kd.C k38 w A1 l1.length l1) (hBm : w.heap.size ≤ Bm) (hlen : l1.length ≤ 1000000) (hI : FilInv k a0 a1 a2 a3 a4 a5 a6 a7 a8 a9 a10 l1 w Bs Bo Bm r 0 W) :
  Calls Tryd.prog 74 #[.slice A1 l1.length c1, .func (.func 41) #[] #[.pointer (some ⟨Bs, 0, none⟩), .pointer (some ⟨Bo, 0, none⟩)]] W fun e W' => (∃ j : Int, e = .returned (.int .i64 j) ∧ decide (0 ≤ j) = !r) ∧ Below w.heap.size w W' := by
 have HI := Aside0.mk hI
 have HR := Aside0.mk hr
 clear hI hr
 generalize hn : l1.length = n at *
 go_enter Tryd.func74, Tryd.ntmps74
 go_wp2
 go_loopg [5, 8] n (fun gg _ s8 wr => ∃ kk : Nat, kk ≤ n ∧ n - kk ≤ gg ∧ s8 = .int .i64 kk ∧ Aside0 (FilInv k a0 a1 a2 a3 a4 a5 a6 a7 a8 a9 a10 l1 w Bs Bo Bm r kk wr))
 case atStart => exact ⟨0, Nat.zero_le _, by omega, rfl, HI⟩
 case round =>
  obtain ⟨kk, hkk, hg, rfl, I⟩ := hrel
  by_cases hlt : kk < n
  ·have hltz : (kk : Int) < (n : Int) := by omega
   have hl : kk < l1.length := by omega
   obtain ⟨ad, cs, rfl, hsz_, hK, hcell⟩ := Kd.C_get HR.out l1[kk] (kk : Int) (by omega) (by omega)
   have hx : l1.getD (kk : Int).toNat l1[kk] = l1[kk] := by simp [List.getD_eq_getElem?_getD, hl]
   rw [hx] at hK
   obtain ⟨D, ids, hm, hD, hat, hgg⟩ := I.out.ids
   have hdrop : l1.drop kk = l1[kk] :: l1.drop (kk + 1) := List.drop_eq_getElem_cons hl
   rw [hdrop] at hgg
   generalize l1[kk] = x at hK hgg
   obtain ⟨A, c, rfl, hlc, hC⟩ := k38_open hK
   have hm0 : ∃ es clock, wr.heap[Bm]? = some (.map es clock) := by
    obtain ⟨es, clock, h1, -⟩ := hm
    exact ⟨es, clock, h1⟩
   have hw : ∀ (j : Nat) (v : Value), ([.string x.f0, .string x.f1, .string x.f2, .int .i64 x.f3, .int .i64 x.f4.f0.f0, .int .i64 x.f4.f0.f1, .int .i64 x.f4.f1.f0, .int .i64 x.f4.f1.f1, .int .i64 x.f4.f2.f0, .int .i64 x.f4.f2.f1, .int .i64 x.f5, .slice A x.f6.length c, .int .i64 x.f7, .int .i64 x.f8.f0, .int .i64 x.f8.f1, .int .i64 x.f8.f2, .bool x.f9, .int .i64 x.f10] : List Value)[j]? = some v → wr.cell? ((ad.add (kk * 18)).add j) = some v := fun j v hj => by
    have h1 := hcell j v hj
    have h2 : (kk : Int).toNat * Kd.sz k38 + j = kk * 18 + j := rfl
    rw [h2] at h1
    have hlt_ := World.block_lt_of_cell? w _ h1
    rw [add_add, I.out.bel.cell hlt_]
    exact h1
   unfold order_Filled.g at hgg
   by_cases hs : x.f0.size ≤ maxLen
   ·rw [if_pos hs] at hgg
    have key : ∃ u : Bool, (Calls Tryd.prog 41 #[.agg #[.string x.f0, .string x.f1, .string x.f2, .int .i64 x.f3, .int .i64 x.f4.f0.f0, .int .i64 x.f4.f0.f1, .int .i64 x.f4.f1.f0, .int .i64 x.f4.f1.f1, .int .i64 x.f4.f2.f0, .int .i64 x.f4.f2.f1, .int .i64 x.f5, .slice A x.f6.length c, .int .i64 x.f7, .int .i64 x.f8.f0, .int .i64 x.f8.f1, .int .i64 x.f8.f2, .bool x.f9, .int .i64 x.f10], .pointer (some ⟨Bs, 0, none⟩), .pointer (some ⟨Bo, 0, none⟩)] wr fun e W' => e = .returned (.bool u) ∧ wr.grownBy W' (some Bm) ∧ W'.ownsMap Tryd.prog 9 (plainElem Tryd.prog 4) Bm (kk + 1) (D.put (.string x.f0.data.toList) (.lit (.bool true)))) ∧ (u = true → r = false) ∧ (u = false → order_Filled.g k a0 a1 a2 a3 a4 a5 a6 a7 a8 a9 a10 (l1.drop (kk + 1)) (x.f0.data.toList :: ids) = some r) := by
     by_cases hi : x.f0.data.toList ∈ ids
     ·rw [if_pos hi] at hgg
      refine ⟨true, ?_, fun _ => (Option.some.inj hgg).symm, fun h => by cases h⟩
      refine (unfit_calls k a0 a1 a2 a3 a4 a5 a6 a7 a8 a9 a10 x A c w wr Bs Bo Bm kk D true 0 I.out.bel hBm I.out.seen I.out.ord hm (by unfold maxLen; omega) hs (by rw [hat]; simp [hi]) hC hlc (fun h => by cases h)).mono ?_
      rintro e w2 ⟨rfl, h2, h3⟩
      exact ⟨rfl, h2, h3⟩
     ·rw [if_neg hi] at hgg
      obtain ⟨t, ht, hgg⟩ := oB hgg
      refine ⟨t != 0, ?_, fun h => ?_, fun h => ?_⟩
      ·refine (unfit_calls k a0 a1 a2 a3 a4 a5 a6 a7 a8 a9 a10 x A c w wr Bs Bo Bm kk D false t I.out.bel hBm I.out.seen I.out.ord hm (by unfold maxLen; omega) hs (by rw [hat]; simp [hi]) hC hlc (fun _ => ht)).mono ?_
       rintro e w2 ⟨rfl, h2, h3⟩
       exact ⟨by simp, h2, h3⟩
      ·rw [if_neg (by simpa using h)] at hgg
       exact (Option.some.inj hgg).symm
      ·rw [if_pos (by simpa using h)] at hgg
       exact hgg
    obtain ⟨u, hcall, hu1, hu2⟩ := key
    have HU1 := Aside0.mk hu1
    have HU2 := Aside0.mk hu2
    have HD := Aside0.mk hD
    have HAT := Aside0.mk hat
    have HM0 := Aside0.mk hm0
    clear hu1 hu2 hgg hm hD hat hm0 hK hC hcell hdrop
    have HW := Aside0.mk hw
    clear hw
    cases u with
    | true =>
     obtain rfl : r = false := HU1.out rfl
     clear HU1 HU2
     go_wp2_with (first | (refine wpList_load_cells (by rfl) 38 _ (by exact rfl) (ad.add (kk * 18)) (by rfl) #[.string x.f0, .string x.f1, .string x.f2, .int .i64 x.f3, .int .i64 x.f4.f0.f0, .int .i64 x.f4.f0.f1, .int .i64 x.f4.f1.f0, .int .i64 x.f4.f1.f1, .int .i64 x.f4.f2.f0, .int .i64 x.f4.f2.f1, .int .i64 x.f5, .slice A x.f6.length c, .int .i64 x.f7, .int .i64 x.f8.f0, .int .i64 x.f8.f1, .int .i64 x.f8.f2, .bool x.f9, .int .i64 x.f10] _ (by exact fun j v hj => HW.out j v hj) Tryd.underlying38 rfl (by kernel_rfl) ?_) | (go_at_call 41; refine hcall.mono ?_; rintro e w2 ⟨rfl, hg2, hm2⟩))
     go_ret
     exact ⟨⟨_, rfl, by simp⟩, I.out.bel.grown hg2 I.out.bel.size (fun j hj => by cases hj; exact hBm)⟩
    | false =>
     have HN := q_ (HU2.out rfl)
     clear HU1 HU2
     go_wp2_with (first | (refine wpList_load_cells (by rfl) 38 _ (by exact rfl) (ad.add (kk * 18)) (by rfl) #[.string x.f0, .string x.f1, .string x.f2, .int .i64 x.f3, .int .i64 x.f4.f0.f0, .int .i64 x.f4.f0.f1, .int .i64 x.f4.f1.f0, .int .i64 x.f4.f1.f1, .int .i64 x.f4.f2.f0, .int .i64 x.f4.f2.f1, .int .i64 x.f5, .slice A x.f6.length c, .int .i64 x.f7, .int .i64 x.f8.f0, .int .i64 x.f8.f1, .int .i64 x.f8.f2, .bool x.f9, .int .i64 x.f10] _ (by exact fun j v hj => HW.out j v hj) Tryd.underlying38 rfl (by kernel_rfl) ?_) | (go_at_call 41; refine hcall.mono ?_; rintro e w2 ⟨rfl, hg2, hm2⟩))
     go_roundg (n - (kk + 1))
     case measure => omega
     case rel => exact ⟨kk + 1, by omega, by omega, by go_num, ⟨I.out.next hBm x D ids HD.out HAT.out hg2 hm2 HM0.out HN.out⟩⟩
   ·rw [if_neg hs] at hgg
    cases hgg
  ·have hltz : ¬ (kk : Int) < (n : Int) := by omega
   have hkn : kk = n := by omega
   obtain ⟨D, ids, -, -, -, hgg⟩ := I.out.ids
   rw [hkn, ← hn, List.drop_length] at hgg
   unfold order_Filled.g at hgg
   obtain rfl := Option.some.inj hgg
   have hb := I.out.bel
   clear hgg
   go_wp2
   go_ret
   exact ⟨⟨_, rfl, by simp⟩, hb⟩
theorem unfit_contains (k : Nat) (a0 a1 : ByteArray) (a2 a3 a4 a5 a6 a7 a8 a9 a10 : Int) (l1 : List S38) (A1 : Option Addr) (c1 : Nat) (w W : World) (Bs Bo Bm : Nat) (r : Bool) (hr : Kd.C k38 w A1 l1.length l1) (hBm : w.heap.size ≤ Bm) (hlen : l1.length ≤ 1000000) (hI : FilInv k a0 a1 a2 a3 a4 a5 a6 a7 a8 a9 a10 l1 w Bs Bo Bm r 0 W) :
  Calls Tryd.prog 42 #[.slice A1 l1.length c1, .func (.func 41) #[] #[.pointer (some ⟨Bs, 0, none⟩), .pointer (some ⟨Bo, 0, none⟩)]] W fun e W' => e = .returned (.bool (!r)) ∧ Below w.heap.size w W' := by
 have HI := Aside0.mk hI
 clear hI
 go_enter Tryd.func42, Tryd.ntmps42
 go_wp2_with (go_at_call 74; refine (unfit_index k a0 a1 a2 a3 a4 a5 a6 a7 a8 a9 a10 l1 A1 c1 w _ Bs Bo Bm r hr hBm hlen HI.out).mono ?_; rintro e w' ⟨⟨j, rfl, hj⟩, hb⟩)
 go_ret
 exact ⟨by rw [← hj]; rfl, hb⟩
set_option maxHeartbeats 8000000 in
set_option maxRecDepth 100000 in
theorem order_Filled.calls (k : Nat) (a0_0 : ByteArray) (a0_1 : ByteArray) (a0_2 : Int) (a0_3 : Int) (a0_4 : Int) (a0_5 : Int) (a0_6 : Int) (a0_7 : Int) (a0_8 : Int) (a0_9 : Int) (a0_10 : Int) (A1 : Option Addr) (c1 : Nat) (l1 : List S38) (r : Bool) (w : World) (hr1 : Kd.C k38 w A1 l1.length l1) (hc1 : l1.length ≤ c1) (h : order_Filled.f k a0_0 a0_1 a0_2 a0_3 a0_4 a0_5 a0_6 a0_7 a0_8 a0_9 a0_10 l1 = some r) :
  Calls Tryd.prog 20 #[.agg #[.string a0_0, .string a0_1, .int .i64 a0_2, .int .i64 a0_3, .int .i64 a0_4, .int .i64 a0_5, .int .i64 a0_6, .int .i64 a0_7, .int .i64 a0_8, .int .i64 a0_9, .int .i64 a0_10], .slice A1 l1.length c1] w fun e w' => e = .returned (.bool r) ∧ Below w.heap.size w w' := by
 unfold order_Filled.f at h
 have H0 : Aside0 ((w.alloc (.cells #[.string a0_0, .string a0_1, .int .i64 a0_2, .int .i64 a0_3, .int .i64 a0_4, .int .i64 a0_5, .int .i64 a0_6, .int .i64 a0_7, .int .i64 a0_8, .int .i64 a0_9, .int .i64 a0_10] 23)).heap[w.heap.size]? = some (.cells #[.string a0_0, .string a0_1, .int .i64 a0_2, .int .i64 a0_3, .int .i64 a0_4, .int .i64 a0_5, .int .i64 a0_6, .int .i64 a0_7, .int .i64 a0_8, .int .i64 a0_9, .int .i64 a0_10] 23 (0, 0))) := ⟨heap_alloc_new w _⟩
 by_cases hlen : l1.length ≤ 1000000
 ·rw [if_pos hlen] at h
  obtain ⟨t1, h1, h⟩ := oB h
  cases t1 with
  | false =>
   rw [if_neg (by simp)] at h
   obtain rfl := Option.some.inj h
   go_enter Tryd.func20, Tryd.ntmps20
   go_wp2_with (first | (first | (refine wpList_load_cells (by rfl) 23 _ (by exact rfl) ⟨w.heap.size, 0, none⟩ (by rfl) #[.string a0_0, .string a0_1, .int .i64 a0_2, .int .i64 a0_3, .int .i64 a0_4, .int .i64 a0_5, .int .i64 a0_6, .int .i64 a0_7, .int .i64 a0_8, .int .i64 a0_9, .int .i64 a0_10] _ (by exact cells_of_blk H0.out) Tryd.underlying23 rfl (by kernel_rfl) ?_) | (refine wpList_load_cells (by rfl) 23 _ (by exact rfl) ⟨w.heap.size, 0, none⟩ (by rfl) #[.string a0_0, .string a0_1, .int .i64 a0_2, .int .i64 a0_3, .int .i64 a0_4, .int .i64 a0_5, .int .i64 a0_6, .int .i64 a0_7, .int .i64 a0_8, .int .i64 a0_9, .int .i64 a0_10] _ (by exact cells_of_blk H_w1.out) Tryd.underlying23 rfl (by kernel_rfl) ?_) | (refine wpList_load_cells (by rfl) 23 _ (by exact rfl) ⟨w.heap.size, 0, none⟩ (by rfl) #[.string a0_0, .string a0_1, .int .i64 a0_2, .int .i64 a0_3, .int .i64 a0_4, .int .i64 a0_5, .int .i64 a0_6, .int .i64 a0_7, .int .i64 a0_8, .int .i64 a0_9, .int .i64 a0_10] _ (by exact cells_of_blk H_w2.out) Tryd.underlying23 rfl (by kernel_rfl) ?_) | (refine wpList_load_cells (by rfl) 23 _ (by exact rfl) ⟨w.heap.size, 0, none⟩ (by rfl) #[.string a0_0, .string a0_1, .int .i64 a0_2, .int .i64 a0_3, .int .i64 a0_4, .int .i64 a0_5, .int .i64 a0_6, .int .i64 a0_7, .int .i64 a0_8, .int .i64 a0_9, .int .i64 a0_10] _ (by exact cells_of_blk H_w3.out) Tryd.underlying23 rfl (by kernel_rfl) ?_)) | (go_at_call 31; (with_reducible refine (order_sound.calls a0_0 a0_1 a0_2 a0_3 a0_4 a0_5 a0_6 a0_7 a0_8 a0_9 a0_10 false _ h1).mono ?_); rintro e w1 ⟨rfl, hb1⟩; have h_w1 : w1.heap[w.heap.size]? = some (.cells #[.string a0_0, .string a0_1, .int .i64 a0_2, .int .i64 a0_3, .int .i64 a0_4, .int .i64 a0_5, .int .i64 a0_6, .int .i64 a0_7, .int .i64 a0_8, .int .i64 a0_9, .int .i64 a0_10] 23 (0, 0)) := (hb1.block w.heap.size (by simp)).trans H0.out; have b_w1 : Below w.heap.size w w1 := pT ((Below.refl _ _).alloc (Nat.le_refl _) _) hb1; have l_w1 : w.heap.size < w1.heap.size := (Array.getElem?_eq_some_iff.1 h_w1).1; skip; have B_w1 := Aside0.mk b_w1; have H_w1 := Aside0.mk h_w1; clear hb1 b_w1 h_w1))
   go_ret
   exact ⟨rfl, B_w1.out⟩
  | true =>
   rw [if_pos rfl] at h
   obtain ⟨t2, h2, h⟩ := oB h
   by_cases c2 : (l1.length : Int) < t2
   ·rw [if_pos c2] at h
    obtain rfl := Option.some.inj h
    have d2 : decide ((l1.length : Int) < t2) = true := decide_eq_true c2
    clear c2
    go_enter Tryd.func20, Tryd.ntmps20
    go_wp2_with (first | (first | (refine wpList_load_cells (by rfl) 23 _ (by exact rfl) ⟨w.heap.size, 0, none⟩ (by rfl) #[.string a0_0, .string a0_1, .int .i64 a0_2, .int .i64 a0_3, .int .i64 a0_4, .int .i64 a0_5, .int .i64 a0_6, .int .i64 a0_7, .int .i64 a0_8, .int .i64 a0_9, .int .i64 a0_10] _ (by exact cells_of_blk H0.out) Tryd.underlying23 rfl (by kernel_rfl) ?_) | (refine wpList_load_cells (by rfl) 23 _ (by exact rfl) ⟨w.heap.size, 0, none⟩ (by rfl) #[.string a0_0, .string a0_1, .int .i64 a0_2, .int .i64 a0_3, .int .i64 a0_4, .int .i64 a0_5, .int .i64 a0_6, .int .i64 a0_7, .int .i64 a0_8, .int .i64 a0_9, .int .i64 a0_10] _ (by exact cells_of_blk H_w1.out) Tryd.underlying23 rfl (by kernel_rfl) ?_) | (refine wpList_load_cells (by rfl) 23 _ (by exact rfl) ⟨w.heap.size, 0, none⟩ (by rfl) #[.string a0_0, .string a0_1, .int .i64 a0_2, .int .i64 a0_3, .int .i64 a0_4, .int .i64 a0_5, .int .i64 a0_6, .int .i64 a0_7, .int .i64 a0_8, .int .i64 a0_9, .int .i64 a0_10] _ (by exact cells_of_blk H_w2.out) Tryd.underlying23 rfl (by kernel_rfl) ?_) | (refine wpList_load_cells (by rfl) 23 _ (by exact rfl) ⟨w.heap.size, 0, none⟩ (by rfl) #[.string a0_0, .string a0_1, .int .i64 a0_2, .int .i64 a0_3, .int .i64 a0_4, .int .i64 a0_5, .int .i64 a0_6, .int .i64 a0_7, .int .i64 a0_8, .int .i64 a0_9, .int .i64 a0_10] _ (by exact cells_of_blk H_w3.out) Tryd.underlying23 rfl (by kernel_rfl) ?_)) | (go_at_call 31; (with_reducible refine (order_sound.calls a0_0 a0_1 a0_2 a0_3 a0_4 a0_5 a0_6 a0_7 a0_8 a0_9 a0_10 true _ h1).mono ?_); rintro e w1 ⟨rfl, hb1⟩; have h_w1 : w1.heap[w.heap.size]? = some (.cells #[.string a0_0, .string a0_1, .int .i64 a0_2, .int .i64 a0_3, .int .i64 a0_4, .int .i64 a0_5, .int .i64 a0_6, .int .i64 a0_7, .int .i64 a0_8, .int .i64 a0_9, .int .i64 a0_10] 23 (0, 0)) := (hb1.block w.heap.size (by simp)).trans H0.out; have b_w1 : Below w.heap.size w w1 := pT ((Below.refl _ _).alloc (Nat.le_refl _) _) hb1; have l_w1 : w.heap.size < w1.heap.size := (Array.getElem?_eq_some_iff.1 h_w1).1; skip; have B_w1 := Aside0.mk b_w1; have H_w1 := Aside0.mk h_w1; clear hb1 b_w1 h_w1) | (go_at_call 16; (with_reducible refine (order_Least.calls a0_0 a0_1 a0_2 a0_3 a0_4 a0_5 a0_6 a0_7 a0_8 a0_9 a0_10 t2 _ h2).mono ?_); rintro e w2 ⟨rfl, hb2⟩; have h_w2 : w2.heap[w.heap.size]? = some (.cells #[.string a0_0, .string a0_1, .int .i64 a0_2, .int .i64 a0_3, .int .i64 a0_4, .int .i64 a0_5, .int .i64 a0_6, .int .i64 a0_7, .int .i64 a0_8, .int .i64 a0_9, .int .i64 a0_10] 23 (0, 0)) := (hb2.block w.heap.size (by exact l_w1)).trans H_w1.out; have b_w2 : Below w.heap.size w w2 := pT B_w1.out hb2; have l_w2 : w.heap.size < w2.heap.size := (Array.getElem?_eq_some_iff.1 h_w2).1; skip; have B_w2 := Aside0.mk b_w2; have H_w2 := Aside0.mk h_w2; clear hb2 b_w2 h_w2))
    go_ret
    exact ⟨rfl, B_w2.out⟩
   ·rw [if_neg c2] at h
    have d2 : decide ((l1.length : Int) < t2) = false := decide_eq_false c2
    clear c2
    obtain ⟨t3, h3, h⟩ := oB h
    by_cases c3 : (l1.length : Int) > t3
    ·rw [if_pos c3] at h
     obtain rfl := Option.some.inj h
     have d3 : decide (t3 < (l1.length : Int)) = true := decide_eq_true c3
     clear c3
     go_enter Tryd.func20, Tryd.ntmps20
     go_wp2_with (first | (first | (refine wpList_load_cells (by rfl) 23 _ (by exact rfl) ⟨w.heap.size, 0, none⟩ (by rfl) #[.string a0_0, .string a0_1, .int .i64 a0_2, .int .i64 a0_3, .int .i64 a0_4, .int .i64 a0_5, .int .i64 a0_6, .int .i64 a0_7, .int .i64 a0_8, .int .i64 a0_9, .int .i64 a0_10] _ (by exact cells_of_blk H0.out) Tryd.underlying23 rfl (by kernel_rfl) ?_) | (refine wpList_load_cells (by rfl) 23 _ (by exact rfl) ⟨w.heap.size, 0, none⟩ (by rfl) #[.string a0_0, .string a0_1, .int .i64 a0_2, .int .i64 a0_3, .int .i64 a0_4, .int .i64 a0_5, .int .i64 a0_6, .int .i64 a0_7, .int .i64 a0_8, .int .i64 a0_9, .int .i64 a0_10] _ (by exact cells_of_blk H_w1.out) Tryd.underlying23 rfl (by kernel_rfl) ?_) | (refine wpList_load_cells (by rfl) 23 _ (by exact rfl) ⟨w.heap.size, 0, none⟩ (by rfl) #[.string a0_0, .string a0_1, .int .i64 a0_2, .int .i64 a0_3, .int .i64 a0_4, .int .i64 a0_5, .int .i64 a0_6, .int .i64 a0_7, .int .i64 a0_8, .int .i64 a0_9, .int .i64 a0_10] _ (by exact cells_of_blk H_w2.out) Tryd.underlying23 rfl (by kernel_rfl) ?_) | (refine wpList_load_cells (by rfl) 23 _ (by exact rfl) ⟨w.heap.size, 0, none⟩ (by rfl) #[.string a0_0, .string a0_1, .int .i64 a0_2, .int .i64 a0_3, .int .i64 a0_4, .int .i64 a0_5, .int .i64 a0_6, .int .i64 a0_7, .int .i64 a0_8, .int .i64 a0_9, .int .i64 a0_10] _ (by exact cells_of_blk H_w3.out) Tryd.underlying23 rfl (by kernel_rfl) ?_)) | (go_at_call 31; (with_reducible refine (order_sound.calls a0_0 a0_1 a0_2 a0_3 a0_4 a0_5 a0_6 a0_7 a0_8 a0_9 a0_10 true _ h1).mono ?_); rintro e w1 ⟨rfl, hb1⟩; have h_w1 : w1.heap[w.heap.size]? = some (.cells #[.string a0_0, .string a0_1, .int .i64 a0_2, .int .i64 a0_3, .int .i64 a0_4, .int .i64 a0_5, .int .i64 a0_6, .int .i64 a0_7, .int .i64 a0_8, .int .i64 a0_9, .int .i64 a0_10] 23 (0, 0)) := (hb1.block w.heap.size (by simp)).trans H0.out; have b_w1 : Below w.heap.size w w1 := pT ((Below.refl _ _).alloc (Nat.le_refl _) _) hb1; have l_w1 : w.heap.size < w1.heap.size := (Array.getElem?_eq_some_iff.1 h_w1).1; skip; have B_w1 := Aside0.mk b_w1; have H_w1 := Aside0.mk h_w1; clear hb1 b_w1 h_w1) | (go_at_call 16; (with_reducible refine (order_Least.calls a0_0 a0_1 a0_2 a0_3 a0_4 a0_5 a0_6 a0_7 a0_8 a0_9 a0_10 t2 _ h2).mono ?_); rintro e w2 ⟨rfl, hb2⟩; have h_w2 : w2.heap[w.heap.size]? = some (.cells #[.string a0_0, .string a0_1, .int .i64 a0_2, .int .i64 a0_3, .int .i64 a0_4, .int .i64 a0_5, .int .i64 a0_6, .int .i64 a0_7, .int .i64 a0_8, .int .i64 a0_9, .int .i64 a0_10] 23 (0, 0)) := (hb2.block w.heap.size (by exact l_w1)).trans H_w1.out; have b_w2 : Below w.heap.size w w2 := pT B_w1.out hb2; have l_w2 : w.heap.size < w2.heap.size := (Array.getElem?_eq_some_iff.1 h_w2).1; skip; have B_w2 := Aside0.mk b_w2; have H_w2 := Aside0.mk h_w2; clear hb2 b_w2 h_w2) | (go_at_call 18; (with_reducible refine (order_Most.calls a0_0 a0_1 a0_2 a0_3 a0_4 a0_5 a0_6 a0_7 a0_8 a0_9 a0_10 t3 _ h3).mono ?_); rintro e w3 ⟨rfl, hb3⟩; have h_w3 : w3.heap[w.heap.size]? = some (.cells #[.string a0_0, .string a0_1, .int .i64 a0_2, .int .i64 a0_3, .int .i64 a0_4, .int .i64 a0_5, .int .i64 a0_6, .int .i64 a0_7, .int .i64 a0_8, .int .i64 a0_9, .int .i64 a0_10] 23 (0, 0)) := (hb3.block w.heap.size (by exact l_w2)).trans H_w2.out; have b_w3 : Below w.heap.size w w3 := pT B_w2.out hb3; have l_w3 : w.heap.size < w3.heap.size := (Array.getElem?_eq_some_iff.1 h_w3).1; skip; have B_w3 := Aside0.mk b_w3; have H_w3 := Aside0.mk h_w3; clear hb3 b_w3 h_w3))
     go_ret
     exact ⟨rfl, B_w3.out⟩
    ·rw [if_neg c3] at h
     have d3 : decide (t3 < (l1.length : Int)) = false := decide_eq_false c3
     clear c3
     have HG := Aside0.mk h
     clear h
     have hmm := @run_makeMap Tryd.prog
     go_enter Tryd.func20, Tryd.ntmps20
     go_wp2_with (first | (first | (refine wpList_load_cells (by rfl) 23 _ (by exact rfl) ⟨w.heap.size, 0, none⟩ (by rfl) #[.string a0_0, .string a0_1, .int .i64 a0_2, .int .i64 a0_3, .int .i64 a0_4, .int .i64 a0_5, .int .i64 a0_6, .int .i64 a0_7, .int .i64 a0_8, .int .i64 a0_9, .int .i64 a0_10] _ (by exact cells_of_blk H0.out) Tryd.underlying23 rfl (by kernel_rfl) ?_) | (refine wpList_load_cells (by rfl) 23 _ (by exact rfl) ⟨w.heap.size, 0, none⟩ (by rfl) #[.string a0_0, .string a0_1, .int .i64 a0_2, .int .i64 a0_3, .int .i64 a0_4, .int .i64 a0_5, .int .i64 a0_6, .int .i64 a0_7, .int .i64 a0_8, .int .i64 a0_9, .int .i64 a0_10] _ (by exact cells_of_blk H_w1.out) Tryd.underlying23 rfl (by kernel_rfl) ?_) | (refine wpList_load_cells (by rfl) 23 _ (by exact rfl) ⟨w.heap.size, 0, none⟩ (by rfl) #[.string a0_0, .string a0_1, .int .i64 a0_2, .int .i64 a0_3, .int .i64 a0_4, .int .i64 a0_5, .int .i64 a0_6, .int .i64 a0_7, .int .i64 a0_8, .int .i64 a0_9, .int .i64 a0_10] _ (by exact cells_of_blk H_w2.out) Tryd.underlying23 rfl (by kernel_rfl) ?_) | (refine wpList_load_cells (by rfl) 23 _ (by exact rfl) ⟨w.heap.size, 0, none⟩ (by rfl) #[.string a0_0, .string a0_1, .int .i64 a0_2, .int .i64 a0_3, .int .i64 a0_4, .int .i64 a0_5, .int .i64 a0_6, .int .i64 a0_7, .int .i64 a0_8, .int .i64 a0_9, .int .i64 a0_10] _ (by exact cells_of_blk H_w3.out) Tryd.underlying23 rfl (by kernel_rfl) ?_)) | (go_at_call 31; (with_reducible refine (order_sound.calls a0_0 a0_1 a0_2 a0_3 a0_4 a0_5 a0_6 a0_7 a0_8 a0_9 a0_10 true _ h1).mono ?_); rintro e w1 ⟨rfl, hb1⟩; have h_w1 : w1.heap[w.heap.size]? = some (.cells #[.string a0_0, .string a0_1, .int .i64 a0_2, .int .i64 a0_3, .int .i64 a0_4, .int .i64 a0_5, .int .i64 a0_6, .int .i64 a0_7, .int .i64 a0_8, .int .i64 a0_9, .int .i64 a0_10] 23 (0, 0)) := (hb1.block w.heap.size (by simp)).trans H0.out; have b_w1 : Below w.heap.size w w1 := pT ((Below.refl _ _).alloc (Nat.le_refl _) _) hb1; have l_w1 : w.heap.size < w1.heap.size := (Array.getElem?_eq_some_iff.1 h_w1).1; skip; have B_w1 := Aside0.mk b_w1; have H_w1 := Aside0.mk h_w1; clear hb1 b_w1 h_w1) | (go_at_call 16; (with_reducible refine (order_Least.calls a0_0 a0_1 a0_2 a0_3 a0_4 a0_5 a0_6 a0_7 a0_8 a0_9 a0_10 t2 _ h2).mono ?_); rintro e w2 ⟨rfl, hb2⟩; have h_w2 : w2.heap[w.heap.size]? = some (.cells #[.string a0_0, .string a0_1, .int .i64 a0_2, .int .i64 a0_3, .int .i64 a0_4, .int .i64 a0_5, .int .i64 a0_6, .int .i64 a0_7, .int .i64 a0_8, .int .i64 a0_9, .int .i64 a0_10] 23 (0, 0)) := (hb2.block w.heap.size (by exact l_w1)).trans H_w1.out; have b_w2 : Below w.heap.size w w2 := pT B_w1.out hb2; have l_w2 : w.heap.size < w2.heap.size := (Array.getElem?_eq_some_iff.1 h_w2).1; skip; have B_w2 := Aside0.mk b_w2; have H_w2 := Aside0.mk h_w2; clear hb2 b_w2 h_w2) | (go_at_call 18; (with_reducible refine (order_Most.calls a0_0 a0_1 a0_2 a0_3 a0_4 a0_5 a0_6 a0_7 a0_8 a0_9 a0_10 t3 _ h3).mono ?_); rintro e w3 ⟨rfl, hb3⟩; have h_w3 : w3.heap[w.heap.size]? = some (.cells #[.string a0_0, .string a0_1, .int .i64 a0_2, .int .i64 a0_3, .int .i64 a0_4, .int .i64 a0_5, .int .i64 a0_6, .int .i64 a0_7, .int .i64 a0_8, .int .i64 a0_9, .int .i64 a0_10] 23 (0, 0)) := (hb3.block w.heap.size (by exact l_w2)).trans H_w2.out; have b_w3 : Below w.heap.size w w3 := pT B_w2.out hb3; have l_w3 : w.heap.size < w3.heap.size := (Array.getElem?_eq_some_iff.1 h_w3).1; skip; have B_w3 := Aside0.mk b_w3; have H_w3 := Aside0.mk h_w3; clear hb3 b_w3 h_w3) | (go_at_call 42; go_loud (refine (unfit_contains k a0_0 a0_1 a0_2 a0_3 a0_4 a0_5 a0_6 a0_7 a0_8 a0_9 a0_10 l1 A1 c1 w _ (w3.heap.size + 1) w.heap.size w3.heap.size r hr1 (Nat.le_of_lt l_w3) hlen ?hI).mono ?_; (case hI => exact ⟨(B_w3.out.alloc B_w3.out.size _).alloc (Nat.le_trans B_w3.out.size (by simp)) _, by first | (simp; done) | rfl, (heap_alloc_old _ _ (Nat.lt_of_lt_of_le l_w3 (by simp))).trans ((heap_alloc_old _ _ l_w3).trans H_w3.out), _, [], (World.ownsMap_made w3 Tryd.prog 9 _).alloc _, ⟨[], rfl⟩, fun s => rfl, by simpa using HG.out⟩); rintro e w4 ⟨rfl, hb4⟩)))
     go_ret
     exact ⟨by simp, hb4⟩
 ·rw [if_neg hlen] at h
  cases h
def order_numbers.f (a0_0 : ByteArray) (a0_1 : ByteArray) (a0_2 : Int) (a0_3 : Int) (a0_4 : Int) (a0_5 : Int) (a0_6 : Int) (a0_7 : Int) (a0_8 : Int) (a0_9 : Int) (a0_10 : Int) : Option (List Int) := some (([a0_2, a0_3, a0_4, a0_5, a0_6, a0_7, a0_8, a0_9, a0_10] : List Int))
set_option maxHeartbeats 8000000 in
set_option maxRecDepth 100000 in
theorem order_numbers.calls (a0_0 : ByteArray) (a0_1 : ByteArray) (a0_2 : Int) (a0_3 : Int) (a0_4 : Int) (a0_5 : Int) (a0_6 : Int) (a0_7 : Int) (a0_8 : Int) (a0_9 : Int) (a0_10 : Int) (r : List Int) (w : World) (h : order_numbers.f a0_0 a0_1 a0_2 a0_3 a0_4 a0_5 a0_6 a0_7 a0_8 a0_9 a0_10 = some r) :
  Calls Tryd.prog 43 #[.agg #[.string a0_0, .string a0_1, .int .i64 a0_2, .int .i64 a0_3, .int .i64 a0_4, .int .i64 a0_5, .int .i64 a0_6, .int .i64 a0_7, .int .i64 a0_8, .int .i64 a0_9, .int .i64 a0_10]] w fun e w' => ∃ v0_ : Value, e = .returned (v0_) ∧ Kd.R (Kd.int .i64) 3 w' w.heap.size (fun _ => True) v0_ r ∧ Below w.heap.size w w' := by
 have hu23 := Tryd.underlying23
 have HB := q_ (Below.refl w.heap.size w)
 have H : (some (([a0_2, a0_3, a0_4, a0_5, a0_6, a0_7, a0_8, a0_9, a0_10] : List Int))) = some r := h
 clear h
 obtain ⟨y160, hy160⟩ : ∃ y_ : List Int, y_ = (([a0_2, a0_3, a0_4, a0_5, a0_6, a0_7, a0_8, a0_9, a0_10] : List Int)) := ⟨_, rfl⟩
 replace H : (some y160) = some r := by first | (rw [hy160]; with_reducible exact H) | (have H2_ := (Option.bind_some _ _).symm.trans H; rw [hy160]; with_reducible exact H2_) | (have H2_ := (Option.bind_some _ _).symm.trans H; with_reducible exact H2_) | with_reducible exact H | (rw [hy160]; exact H) | exact H
 have Ny160 := Aside0.mk hy160
 clear hy160
 obtain rfl := Option.some.inj H
 go_enter Tryd.func43, Tryd.ntmps43
 go_wp2_with (first | (refine wpList_load_cells (by rfl) 23 _ (by exact rfl) ⟨gb159, 0, none⟩ (by rfl) _ _ (cells_of_blk (by (with_reducible repeat (first | refine bN ?_ _ | refine bW ?_ | refine bA ?_ _)); exact BK159.out)) Tryd.underlying23 rfl (by kernel_rfl) ?_) | ((with_reducible refine gate_dst (N := 1) rfl ?_); refine box_event ?hg (N := 1) ?hd (cs := #[.string a0_0, .string a0_1, .int .i64 a0_2, .int .i64 a0_3, .int .i64 a0_4, .int .i64 a0_5, .int .i64 a0_6, .int .i64 a0_7, .int .i64 a0_8, .int .i64 a0_9, .int .i64 a0_10]) (t := 23) ?hr ?_; (case hd => rfl); (case hg => rfl); (case hr => first | (go_simp; done) | (go_simp; rfl)); intro gb159 hg w2 hbox hb; have n0_ := q_ (pT (by repeat (first | (with_reducible first | exact HB.out | apply pA | apply pN | apply p1) | exact HB.out)) hb); have n1_ := q_ (hbox); have n2_ := q_ ((by rw [hg]; exact (pZ (by repeat (first | (with_reducible first | exact HB.out | apply pA | apply pN | apply p1) | exact HB.out))) : w.heap.size ≤ gb159)); have n3_ := n2_; clear HB; have HB := n0_; have BK159 := n1_; have GW159 := n2_; have GE159 := n3_; clear n0_ n1_ n2_ n3_; clear hb hbox hg; have hcz3 := blk_all BK159.out; simp only [CellsAt, List.toList_toArray, Nat.reduceAdd, and_true] at hcz3; have hfz3 := bF BK159.out) | ((with_reducible refine gate_dst (N := 21) rfl ?_); refine Kd.R_lit (Kd.int .i64) _ 3 ?hg (N := 21) ?hd (xs := ([a0_2, a0_3, a0_4, a0_5, a0_6, a0_7, a0_8, a0_9, a0_10] : List Int)) (inner := [.int .i64 a0_2, .int .i64 a0_3, .int .i64 a0_4, .int .i64 a0_5, .int .i64 a0_6, .int .i64 a0_7, .int .i64 a0_8, .int .i64 a0_9, .int .i64 a0_10]) (ok := fun _ => True) (okp := fun _ => True) ?hr ?hp (fun _ hk => hk) trivial (Below.refl _ _) (Nat.le_refl _) (by simp) ?_; (case hd => rfl); (case hg => rfl); (case hr => first | (go_simp; done) | (go_simp; rfl)); (case hp => exact (Reps.one (show Kd.M (Kd.int .i64) _ _ _ a0_2 [.int .i64 a0_2] from rfl) (Reps.one (show Kd.M (Kd.int .i64) _ _ _ a0_3 [.int .i64 a0_3] from rfl) (Reps.one (show Kd.M (Kd.int .i64) _ _ _ a0_4 [.int .i64 a0_4] from rfl) (Reps.one (show Kd.M (Kd.int .i64) _ _ _ a0_5 [.int .i64 a0_5] from rfl) (Reps.one (show Kd.M (Kd.int .i64) _ _ _ a0_6 [.int .i64 a0_6] from rfl) (Reps.one (show Kd.M (Kd.int .i64) _ _ _ a0_7 [.int .i64 a0_7] from rfl) (Reps.one (show Kd.M (Kd.int .i64) _ _ _ a0_8 [.int .i64 a0_8] from rfl) (Reps.one (show Kd.M (Kd.int .i64) _ _ _ a0_9 [.int .i64 a0_9] from rfl) (Reps.one (show Kd.M (Kd.int .i64) _ _ _ a0_10 [.int .i64 a0_10] from rfl) (Reps.none _ _))))))))))); intro v161 w4 ho5 hb hg_ hnew_; clear hg_ hnew_; (first | rw [← Ny160.out] at ho5 | (simp only [Int.reduceToNat] at ho5; rw [← Ny160.out] at ho5)); have n0_ := q_ (Kd.R_lower ho5 (pZ (by repeat (first | (with_reducible first | exact HB.out | apply pA | apply pN | apply p1 | refine pS ?_ GE159.out) | exact HB.out)))); have n1_ := q_ (bB (g := gb159) (by (with_reducible repeat (first | refine bN ?_ _ | refine bW ?_ | refine bA ?_ _)); exact BK159.out) hb); have n2_ := q_ (pT (by repeat (first | (with_reducible first | exact HB.out | apply pA | apply pN | apply p1 | refine pS ?_ GE159.out) | exact HB.out)) hb); clear BK159; clear HB; have HO162 := n0_; have BK159 := n1_; have HB := n2_; clear n0_ n1_ n2_; clear hb ho5))
 go_ret
 exact ⟨_, by first | rfl | (simp [*] <;> rfl), by (with_reducible repeat (first | apply Kd.R_alloc | apply Kd.R_drewN | apply Kd.R_drew)); exact HO162.out, by repeat (first | (with_reducible first | exact HB.out | apply pA | apply pN | apply p1 | refine pS ?_ GE159.out) | exact HB.out)⟩
def slices_Min_int_int.l0 : Nat → List Int → Int → Int → Option (Int)
 | 0, _, _, _ => none
 | k + 1, x0, x3, x4 => if x4 < (x0.length : Int) then (if 0 ≤ x4 then (slices_Min_int_int.l0 k x0 (mn x3 (rd x0 x4)) (wrap64 (x4 + 1))) else (none)) else (some x3)
def slices_Min_int_int.f (k : Nat) (l0 : List Int) : Option (Int) := if (l0.length : Int) < 1 then (none) else (if 0 < (l0.length : Int) then (slices_Min_int_int.l0 k l0 (rd l0 0) 1) else (none))
set_option maxHeartbeats 8000000 in
set_option maxRecDepth 100000 in
theorem slices_Min_int_int.calls (k : Nat) (A0 : Option Addr) (c0 : Nat) (l0 : List Int) (r : Int) (w : World) (hr0 : Kd.C (Kd.int .i64) w A0 l0.length l0) (hc0 : l0.length ≤ c0) (h : slices_Min_int_int.f k l0 = some r) :
  Calls Tryd.prog 44 #[.slice A0 l0.length c0] w fun e w' => e = .returned (.int .i64 r) ∧ Below w.heap.size w w' := by
 have HR0 := Aside0.mk hr0
 have HC0 := Aside0.mk hc0
 clear hr0 hc0
 have HB := q_ (Below.refl w.heap.size w)
 have H : (if (l0.length : Int) < 1 then (none) else (if 0 < (l0.length : Int) then (slices_Min_int_int.l0 k l0 (rd l0 0) 1) else (none))) = some r := h
 clear h
 by_cases c2 : (l0.length : Int) < 1
 ·rw [if_pos c2] at H
  exact absurd H (by simp)
 ·rw [if_neg c2] at H
  have c2b0 : decide ((l0.length : Int) < 1) = false := decide_eq_false c2
  have c2b1 : decide (l0.length < 1) = false := decide_eq_false (by omega)
  clear c2
  by_cases c3 : 0 < (l0.length : Int)
  ·rw [if_pos c3] at H
   have c3b0 : decide (0 < (l0.length : Int)) = true := decide_eq_true c3
   have c3b1 : decide (0 < l0.length) = true := decide_eq_true (by omega)
   clear c3
   have H' := Aside0.mk H
   clear H
   have p163 : 0 ≤ (0 : Int) := (by omega)
   have q163 : 0 < (l0.length : Int) := of_decide_eq_true (by first | (with_reducible assumption) | assumption)
   obtain ⟨ad163, e163, hx163_0⟩ := Kd.at_int HR0.out 0 p163 q163
   cases e163
   have qi163 : (0 < l0.length) = True := eq_true (by omega)
   (try rw [show ((0 : Int)).toNat = 0 from rfl] at hx163_0)
   (try rw [Addr.add_zero'] at hx163_0)
   replace p163 := eq_true p163
   replace q163 := eq_true q163
   go_enter Tryd.func44, Tryd.ntmps44
   go_wp2
   go_loopg [3, 4] k (fun kq v3 v4 w' => ∃ (x3_1 : Int) (x4_1 : Int), v3 = .int .i64 x3_1 ∧ v4 = .int .i64 x4_1 ∧ Aside0 (slices_Min_int_int.l0 kq l0 x3_1 x4_1 = some r) ∧ Aside0 (kq ≤ k) ∧ Aside0 (Below w.heap.size w w'))
   case atStart => exact ⟨(rd l0 0), (1), (by first | rfl | (simp; done) | (simp [*]; done)), (by first | rfl | (simp; done) | (simp [*]; done)), H', ⟨Nat.le_refl _⟩, ⟨by repeat (first | (with_reducible first | exact HB.out | apply pA | apply pN | apply p1) | exact HB.out)⟩⟩
   case round =>
    clear H'
    try clear p1
    try clear q1
    try clear hx1
    try clear qi1
    try clear c2
    try clear c2b0
    try clear c2b1
    try clear p2
    try clear c3
    try clear c3b0
    try clear c3b1
    try clear hx163_0
    try clear p163
    try clear q163
    obtain ⟨x3_1, x4_1, rfl, rfl, HA, HK1, HB⟩ := hrel
    cases gk with
    | zero => exact absurd HA.out (by simp [slices_Min_int_int.l0])
    | succ k1 =>
     have H := HA.out
     clear HA
     simp only [slices_Min_int_int.l0] at H
     by_cases c4 : x4_1 < (l0.length : Int)
     ·rw [if_pos c4] at H
      have c4b0 : decide (x4_1 < (l0.length : Int)) = true := decide_eq_true c4
      clear c4
      by_cases c5 : 0 ≤ x4_1
      ·rw [if_pos c5] at H
       have c5b0 : decide (0 ≤ x4_1) = true := decide_eq_true c5
       clear c5
       obtain ⟨ji6, hji6⟩ : ∃ j_ : Int, (mn x3_1 (rd l0 x4_1)) = j_ := ⟨_, rfl⟩
       replace H : (slices_Min_int_int.l0 k1 l0 ji6 (wrap64 (x4_1 + 1))) = some r := by first | (rw [hji6] at H; exact H) | (simp only [hji6] at H ⊢; exact H)
       have hji6_ : (if (rd l0 x4_1) < x3_1 then (rd l0 x4_1) else x3_1) = ji6 := hji6
       have H' := Aside0.mk H
       clear H
       have p164 : 0 ≤ (x4_1 : Int) := of_decide_eq_true (by first | (with_reducible assumption) | assumption)
       have q164 : x4_1 < (l0.length : Int) := of_decide_eq_true (by first | (with_reducible assumption) | assumption)
       obtain ⟨ad164, e164, hx164_0⟩ := Kd.at_int HR0.out x4_1 p164 q164
       obtain rfl : ad163 = ad164 := (by injection e164)
       replace hx164_0 := (HB.out.cell (World.block_lt_of_cell? w _ hx164_0)).trans hx164_0
       replace p164 := eq_true p164
       replace q164 := eq_true q164
       go_wp2
       go_roundg k1
       case measure => have := HK1.out; omega
       case rel => exact ⟨(ji6), (wrap64 (x4_1 + 1)), (by first | rfl | (simp; done) | (simp only [← hji6] <;> (first | rfl | simp)) | (simp [*]; done)), (by first | rfl | (simp; done) | (simp [*]; done)), H', ⟨by have := HK1.out; omega⟩, ⟨by repeat (first | (with_reducible first | exact HB.out | apply pA | apply pN | apply p1) | exact HB.out)⟩⟩
      ·rw [if_neg c5] at H
       exact absurd H (by simp)
     ·rw [if_neg c4] at H
      have c4b0 : decide (x4_1 < (l0.length : Int)) = false := decide_eq_false c4
      clear c4
      obtain rfl := Option.some.inj H
      go_wp2
      go_ret
      exact ⟨by first | rfl | (simp [*] <;> rfl), by repeat (first | (with_reducible first | exact HB.out | apply pA | apply pN | apply p1) | exact HB.out)⟩
  ·rw [if_neg c3] at H
   exact absurd H (by simp)
def slices_Max_int_int.l0 : Nat → List Int → Int → Int → Option (Int)
 | 0, _, _, _ => none
 | k + 1, x0, x3, x4 => if x4 < (x0.length : Int) then (if 0 ≤ x4 then (slices_Max_int_int.l0 k x0 (mx x3 (rd x0 x4)) (wrap64 (x4 + 1))) else (none)) else (some x3)
def slices_Max_int_int.f (k : Nat) (l0 : List Int) : Option (Int) := if (l0.length : Int) < 1 then (none) else (if 0 < (l0.length : Int) then (slices_Max_int_int.l0 k l0 (rd l0 0) 1) else (none))
set_option maxHeartbeats 8000000 in
set_option maxRecDepth 100000 in
theorem slices_Max_int_int.calls (k : Nat) (A0 : Option Addr) (c0 : Nat) (l0 : List Int) (r : Int) (w : World) (hr0 : Kd.C (Kd.int .i64) w A0 l0.length l0) (hc0 : l0.length ≤ c0) (h : slices_Max_int_int.f k l0 = some r) :
  Calls Tryd.prog 45 #[.slice A0 l0.length c0] w fun e w' => e = .returned (.int .i64 r) ∧ Below w.heap.size w w' := by
 have HR0 := Aside0.mk hr0
 have HC0 := Aside0.mk hc0
 clear hr0 hc0
 have HB := q_ (Below.refl w.heap.size w)
 have H : (if (l0.length : Int) < 1 then (none) else (if 0 < (l0.length : Int) then (slices_Max_int_int.l0 k l0 (rd l0 0) 1) else (none))) = some r := h
 clear h
 by_cases c2 : (l0.length : Int) < 1
 ·rw [if_pos c2] at H
  exact absurd H (by simp)
 ·rw [if_neg c2] at H
  have c2b0 : decide ((l0.length : Int) < 1) = false := decide_eq_false c2
  have c2b1 : decide (l0.length < 1) = false := decide_eq_false (by omega)
  clear c2
  by_cases c3 : 0 < (l0.length : Int)
  ·rw [if_pos c3] at H
   have c3b0 : decide (0 < (l0.length : Int)) = true := decide_eq_true c3
   have c3b1 : decide (0 < l0.length) = true := decide_eq_true (by omega)
   clear c3
   have H' := Aside0.mk H
   clear H
   have p165 : 0 ≤ (0 : Int) := (by omega)
   have q165 : 0 < (l0.length : Int) := of_decide_eq_true (by first | (with_reducible assumption) | assumption)
   obtain ⟨ad165, e165, hx165_0⟩ := Kd.at_int HR0.out 0 p165 q165
   cases e165
   have qi165 : (0 < l0.length) = True := eq_true (by omega)
   (try rw [show ((0 : Int)).toNat = 0 from rfl] at hx165_0)
   (try rw [Addr.add_zero'] at hx165_0)
   replace p165 := eq_true p165
   replace q165 := eq_true q165
   go_enter Tryd.func45, Tryd.ntmps45
   go_wp2
   go_loopg [3, 4] k (fun kq v3 v4 w' => ∃ (x3_1 : Int) (x4_1 : Int), v3 = .int .i64 x3_1 ∧ v4 = .int .i64 x4_1 ∧ Aside0 (slices_Max_int_int.l0 kq l0 x3_1 x4_1 = some r) ∧ Aside0 (kq ≤ k) ∧ Aside0 (Below w.heap.size w w'))
   case atStart => exact ⟨(rd l0 0), (1), (by first | rfl | (simp; done) | (simp [*]; done)), (by first | rfl | (simp; done) | (simp [*]; done)), H', ⟨Nat.le_refl _⟩, ⟨by repeat (first | (with_reducible first | exact HB.out | apply pA | apply pN | apply p1) | exact HB.out)⟩⟩
   case round =>
    clear H'
    try clear p1
    try clear q1
    try clear hx1
    try clear qi1
    try clear c2
    try clear c2b0
    try clear c2b1
    try clear p2
    try clear c3
    try clear c3b0
    try clear c3b1
    try clear hx165_0
    try clear p165
    try clear q165
    obtain ⟨x3_1, x4_1, rfl, rfl, HA, HK1, HB⟩ := hrel
    cases gk with
    | zero => exact absurd HA.out (by simp [slices_Max_int_int.l0])
    | succ k1 =>
     have H := HA.out
     clear HA
     simp only [slices_Max_int_int.l0] at H
     by_cases c4 : x4_1 < (l0.length : Int)
     ·rw [if_pos c4] at H
      have c4b0 : decide (x4_1 < (l0.length : Int)) = true := decide_eq_true c4
      clear c4
      by_cases c5 : 0 ≤ x4_1
      ·rw [if_pos c5] at H
       have c5b0 : decide (0 ≤ x4_1) = true := decide_eq_true c5
       clear c5
       obtain ⟨ji6, hji6⟩ : ∃ j_ : Int, (mx x3_1 (rd l0 x4_1)) = j_ := ⟨_, rfl⟩
       replace H : (slices_Max_int_int.l0 k1 l0 ji6 (wrap64 (x4_1 + 1))) = some r := by first | (rw [hji6] at H; exact H) | (simp only [hji6] at H ⊢; exact H)
       have hji6_ : (if x3_1 < (rd l0 x4_1) then (rd l0 x4_1) else x3_1) = ji6 := hji6
       have H' := Aside0.mk H
       clear H
       have p166 : 0 ≤ (x4_1 : Int) := of_decide_eq_true (by first | (with_reducible assumption) | assumption)
       have q166 : x4_1 < (l0.length : Int) := of_decide_eq_true (by first | (with_reducible assumption) | assumption)
       obtain ⟨ad166, e166, hx166_0⟩ := Kd.at_int HR0.out x4_1 p166 q166
       obtain rfl : ad165 = ad166 := (by injection e166)
       replace hx166_0 := (HB.out.cell (World.block_lt_of_cell? w _ hx166_0)).trans hx166_0
       replace p166 := eq_true p166
       replace q166 := eq_true q166
       go_wp2
       go_roundg k1
       case measure => have := HK1.out; omega
       case rel => exact ⟨(ji6), (wrap64 (x4_1 + 1)), (by first | rfl | (simp; done) | (simp only [← hji6] <;> (first | rfl | simp)) | (simp [*]; done)), (by first | rfl | (simp; done) | (simp [*]; done)), H', ⟨by have := HK1.out; omega⟩, ⟨by repeat (first | (with_reducible first | exact HB.out | apply pA | apply pN | apply p1) | exact HB.out)⟩⟩
      ·rw [if_neg c5] at H
       exact absurd H (by simp)
     ·rw [if_neg c4] at H
      have c4b0 : decide (x4_1 < (l0.length : Int)) = false := decide_eq_false c4
      clear c4
      obtain rfl := Option.some.inj H
      go_wp2
      go_ret
      exact ⟨by first | rfl | (simp [*] <;> rfl), by repeat (first | (with_reducible first | exact HB.out | apply pA | apply pN | apply p1) | exact HB.out)⟩
  ·rw [if_neg c3] at H
   exact absurd H (by simp)
def wire_put.l0 : Nat → List Int → Int → Option (List Int)
 | 0, _, _ => none
 | k + 1, x0, x1 => if x1 ≥ 128 then (if x0.length < 140737488355328 then (wire_put.l0 k (x0 ++ [Go.bits .or .u8 ((x1) % 256) 128]) (x1 / 128)) else (none)) else (if x0.length < 140737488355328 then (some (x0 ++ [(x1) % 256])) else (none))
def wire_put.f (k : Nat) (l0 : List Int) (a1 : Int) : Option (List Int) := wire_put.l0 k l0 a1
set_option maxHeartbeats 8000000 in
set_option maxRecDepth 100000 in
theorem wire_put.calls (k : Nat) (P0_ : Nat → Prop) (u9000_ : Value) (l0 : List Int) (a1 : Int) (r : List Int) (w0 w : World) (hB : Below w0.heap.size w0 w) (ho0 : Kd.R (Kd.int .u8) 5 w w0.heap.size P0_ u9000_ l0) (h : wire_put.f k l0 a1 = some r) :
  Calls Tryd.prog 75 #[u9000_, .int .u64 a1] w fun e w' => ∃ v0_ : Value, e = .returned (v0_) ∧ Kd.R (Kd.int .u8) 5 w' w0.heap.size (fun k_ => (P0_ k_ ∨ w.heap.size ≤ k_)) v0_ r ∧ Below w0.heap.size w0 w' ∧ Kept w w' (fun k_ => P0_ k_) := by
 have HO0 := q_ (show Kd.R (Kd.int .u8) 5 w w0.heap.size (fun k_ => (P0_ k_ ∨ w.heap.size ≤ k_)) u9000_ l0 from Kd.R_mono ho0 (fun k_ hk => (.inl hk)))
 have HK := q_ (Kept.refl w (fun k_ => P0_ k_))
 have HW0 := Aside0.mk hB.size
 have HB := Aside0.mk hB
 clear hB
 have H : (wire_put.l0 k l0 a1) = some r := h
 clear h
 have H' := Aside0.mk H
 clear H
 go_enter Tryd.func75, Tryd.ntmps75
 go_wp2
 go_loopg [0, 1] k (fun kq v0 v1 w' => ∃ (x0_1 : List Int) (x1_1 : Int), v1 = .int .u64 x1_1 ∧ Aside0 (wire_put.l0 kq x0_1 x1_1 = some r) ∧ Aside0 (kq ≤ k) ∧ Aside0 (Kd.R (Kd.int .u8) 5 w' w0.heap.size (fun k_ => (P0_ k_ ∨ w.heap.size ≤ k_)) v0 x0_1) ∧ Aside0 (Kept w w' (fun k_ => P0_ k_)) ∧ Aside0 (Below w0.heap.size w0 w'))
 case atStart => exact ⟨(l0), (a1), (by first | rfl | (simp; done) | (simp [*]; done)), H', ⟨Nat.le_refl _⟩, ⟨by (with_reducible repeat (first | apply Kd.R_alloc | apply Kd.R_drewN | apply Kd.R_drew)); exact HO0.out⟩, ⟨by repeat (first | (with_reducible first | exact HK.out | apply Kept.alloc | apply Kept.drewN | apply Kept.drew) | exact HK.out)⟩, ⟨by repeat (first | (with_reducible first | exact HB.out | apply pA | apply pN | apply p1) | exact HB.out)⟩⟩
 case round =>
  clear H'
  try clear p2
  obtain ⟨x0_1, x1_1, rfl, HA, HK1, HO_0, HK, HB⟩ := hrel
  cases gk with
  | zero => exact absurd HA.out (by simp [wire_put.l0])
  | succ k1 =>
   have H := HA.out
   clear HA
   simp only [wire_put.l0] at H
   by_cases c3 : x1_1 ≥ 128
   ·rw [if_pos c3] at H
    have c3b0 : decide (128 ≤ x1_1) = true := decide_eq_true c3
    clear c3
    by_cases c4 : x0_1.length < 140737488355328
    ·rw [if_pos c4] at H
     have LMc4 := Aside0.mk c4
     clear c4
     obtain ⟨y167, hy167⟩ : ∃ y_ : List Int, y_ = (x0_1 ++ [Go.bits .or .u8 ((x1_1) % 256) 128]) := ⟨_, rfl⟩
     replace H : (wire_put.l0 k1 y167 (x1_1 / 128)) = some r := by first | (rw [hy167]; with_reducible exact H) | (have H2_ := (Option.bind_some _ _).symm.trans H; rw [hy167]; with_reducible exact H2_) | (have H2_ := (Option.bind_some _ _).symm.trans H; with_reducible exact H2_) | with_reducible exact H | (rw [hy167]; exact H) | exact H
     have Ny167 := Aside0.mk hy167
     clear hy167
     have H' := Aside0.mk H
     clear H
     go_wp2_with (first | ((with_reducible refine gate_builtin (b := .append) (xs := #[.tmp 9, .tmp 13]) rfl ?_); at_builtin; refine Kd.R_append (Kd.int .u8) (w0 := w0) w0.heap.size rfl (.tmp 9) (.tmp 13) 57 5 (.int .u8 0) 1 rfl Tryd.underlying57 info5 rfl (by decide) (by omega) u0 x0_1 (Go.bits .or .u8 ((x1_1) % 256) 128) [.int .u8 (Go.bits .or .u8 ((x1_1) % 256) 128)] (fun k_ => (P0_ k_ ∨ w.heap.size ≤ k_)) (fun _ => False) rfl rfl ?aP (fun _ hk => hk.elim) ?aF ?aO ?aB ?aS ?aL ?_; (case aP => exact rfl); (case aB => exact (by repeat (first | (with_reducible first | exact HB.out | apply pA | apply pN | apply p1) | exact HB.out))); (case aF => exact (fun k_ hk => (.inr (Nat.le_trans (by first | exact HK.out.1 | exact (show Kept w _ (fun k_ => P0_ k_) from by repeat (first | (with_reducible first | exact HK.out | apply Kept.alloc | apply Kept.drewN | apply Kept.drew) | exact HK.out)).1) hk)))); (case aO => exact (by (with_reducible repeat (first | apply Kd.R_alloc | apply Kd.R_drewN | apply Kd.R_drew)); exact HO_0.out)); (case aS => exact (pZ (by repeat (first | (with_reducible first | exact HB.out | apply pA | apply pN | apply p1) | exact HB.out)))); (case aL => have := LMc4.out; omega); intro v168 w5 ho hb hg hat; rw [← Ny167.out] at ho; have n0_ := q_ (hb); have n1_ := q_ (Kept.of_grown (S := (fun k_ => P0_ k_)) hg (by repeat (first | (with_reducible first | exact HK.out | apply Kept.alloc | apply Kept.drewN | apply Kept.drew) | exact HK.out)) (fun k_ e_ => (HO_0.out.1 k_ e_))); have n2_ := q_ (ho); clear HB; clear HK; clear HO_0; have HB := n0_; have HK := n1_; have HO169 := n2_; clear n0_ n1_ n2_; clear ho hb hg hat))
     go_roundg k1
     case measure => have := HK1.out; omega
     case rel => exact ⟨(y167), (x1_1 / 128), (by first | rfl | (simp; done) | (simp [*]; done)), H', ⟨by have := HK1.out; omega⟩, ⟨by (with_reducible repeat (first | apply Kd.R_alloc | apply Kd.R_drewN | apply Kd.R_drew)); exact HO169.out⟩, ⟨by repeat (first | (with_reducible first | exact HK.out | apply Kept.alloc | apply Kept.drewN | apply Kept.drew) | exact HK.out)⟩, ⟨by repeat (first | (with_reducible first | exact HB.out | apply pA | apply pN | apply p1) | exact HB.out)⟩⟩
    ·rw [if_neg c4] at H
     exact absurd H (by simp)
   ·rw [if_neg c3] at H
    have c3b0 : decide (128 ≤ x1_1) = false := decide_eq_false c3
    clear c3
    by_cases c6 : x0_1.length < 140737488355328
    ·rw [if_pos c6] at H
     have LMc6 := Aside0.mk c6
     clear c6
     obtain ⟨y170, hy170⟩ : ∃ y_ : List Int, y_ = (x0_1 ++ [(x1_1) % 256]) := ⟨_, rfl⟩
     replace H : (some y170) = some r := by first | (rw [hy170]; with_reducible exact H) | (have H2_ := (Option.bind_some _ _).symm.trans H; rw [hy170]; with_reducible exact H2_) | (have H2_ := (Option.bind_some _ _).symm.trans H; with_reducible exact H2_) | with_reducible exact H | (rw [hy170]; exact H) | exact H
     have Ny170 := Aside0.mk hy170
     clear hy170
     obtain rfl := Option.some.inj H
     go_wp2_with (first | ((with_reducible refine gate_builtin (b := .append) (xs := #[.tmp 15, .tmp 18]) rfl ?_); at_builtin; refine Kd.R_append (Kd.int .u8) (w0 := w0) w0.heap.size rfl (.tmp 15) (.tmp 18) 57 5 (.int .u8 0) 1 rfl Tryd.underlying57 info5 rfl (by decide) (by omega) u0 x0_1 ((x1_1) % 256) [.int .u8 ((x1_1) % 256)] (fun k_ => (P0_ k_ ∨ w.heap.size ≤ k_)) (fun _ => False) rfl rfl ?aP (fun _ hk => hk.elim) ?aF ?aO ?aB ?aS ?aL ?_; (case aP => exact rfl); (case aB => exact (by repeat (first | (with_reducible first | exact HB.out | apply pA | apply pN | apply p1) | exact HB.out))); (case aF => exact (fun k_ hk => (.inr (Nat.le_trans (by first | exact HK.out.1 | exact (show Kept w _ (fun k_ => P0_ k_) from by repeat (first | (with_reducible first | exact HK.out | apply Kept.alloc | apply Kept.drewN | apply Kept.drew) | exact HK.out)).1) hk)))); (case aO => exact (by (with_reducible repeat (first | apply Kd.R_alloc | apply Kd.R_drewN | apply Kd.R_drew)); exact HO_0.out)); (case aS => exact (pZ (by repeat (first | (with_reducible first | exact HB.out | apply pA | apply pN | apply p1) | exact HB.out)))); (case aL => have := LMc6.out; omega); intro v171 w7 ho hb hg hat; rw [← Ny170.out] at ho; have n0_ := q_ (hb); have n1_ := q_ (Kept.of_grown (S := (fun k_ => P0_ k_)) hg (by repeat (first | (with_reducible first | exact HK.out | apply Kept.alloc | apply Kept.drewN | apply Kept.drew) | exact HK.out)) (fun k_ e_ => (HO_0.out.1 k_ e_))); have n2_ := q_ (ho); clear HB; clear HK; clear HO_0; have HB := n0_; have HK := n1_; have HO172 := n2_; clear n0_ n1_ n2_; clear ho hb hg hat))
     go_ret
     exact ⟨_, by first | rfl | (simp [*] <;> rfl), by (with_reducible repeat (first | apply Kd.R_alloc | apply Kd.R_drewN | apply Kd.R_drew)); exact HO172.out, by repeat (first | (with_reducible first | exact HB.out | apply pA | apply pN | apply p1) | exact HB.out), by repeat (first | (with_reducible first | exact HK.out | apply Kept.alloc | apply Kept.drewN | apply Kept.drew) | exact HK.out)⟩
    ·rw [if_neg c6] at H
     exact absurd H (by simp)
def wire_Text.f (k : Nat) (a0 : ByteArray) : Option (ByteArray) := (wire_put.f k ([] : List Int) (IntKind.u64.wrap ((a0.size : Int)))).bind fun t173 => (if t173.length + a0.size < 140737488355328 then (some (strOfNums (t173 ++ bytesOf a0))) else (none))
set_option maxHeartbeats 8000000 in
set_option maxRecDepth 100000 in
theorem wire_Text.calls (k : Nat) (a0 : ByteArray) (r : ByteArray) (w : World) (h : wire_Text.f k a0 = some r) :
  Calls Tryd.prog 46 #[.string a0] w fun e w' => e = .returned (.string r) ∧ Below w.heap.size w w' := by
 have HB := q_ (Below.refl w.heap.size w)
 have H : ((wire_put.f k ([] : List Int) (IntKind.u64.wrap ((a0.size : Int)))).bind fun t173 => (if t173.length + a0.size < 140737488355328 then (some (strOfNums (t173 ++ bytesOf a0))) else (none))) = some r := h
 clear h
 replace H := oB H
 obtain ⟨t173, A20, H⟩ := H
 replace H : (if t173.length + a0.size < 140737488355328 then (some (strOfNums (t173 ++ bytesOf a0))) else (none)) = some r := H
 have A2 := Aside0.mk A20
 clear A20
 by_cases c3 : t173.length + a0.size < 140737488355328
 ·rw [if_pos c3] at H
  have LMc3 := Aside0.mk c3
  clear c3
  obtain ⟨y176, hy176⟩ : ∃ y_ : List Int, y_ = (t173 ++ bytesOf a0) := ⟨_, rfl⟩
  replace H : (some (strOfNums y176)) = some r := by first | (rw [hy176]; with_reducible exact H) | (have H2_ := (Option.bind_some _ _).symm.trans H; rw [hy176]; with_reducible exact H2_) | (have H2_ := (Option.bind_some _ _).symm.trans H; with_reducible exact H2_) | with_reducible exact H | (rw [hy176]; exact H) | exact H
  have Ny176 := Aside0.mk hy176
  clear hy176
  obtain rfl := Option.some.inj H
  go_enter Tryd.func46, Tryd.ntmps46
  go_wp2_with (first | ((with_reducible refine gate_callee (f := 75) rfl ?_); refine goesL_ (some 6) rfl rfl Tryd.func75 (by kernel_rfl) rfl #[.slice none 0 0, .int .u64 (IntKind.u64.wrap ((a0.size : Int)))] rfl (by first | rfl | (simp only [List.map_toArray]; rfl)) ?_; (refine (wire_put.calls k (fun k_ => some k_ = (.slice none 0 0 : Value).ownBlock) (.slice none 0 0) ([] : List Int) (IntKind.u64.wrap ((a0.size : Int))) t173 w _ ?side1 ?side2 A2.out).mono ?_); (case side1 => repeat (first | (with_reducible first | exact HB.out | apply pA | apply pN | apply p1) | exact HB.out)); (case side2 => exact Kd.R_nil _ _ _ _ _); rintro e w4 ⟨v174, rfl, ho0, hb, hkp⟩; refine ⟨_, rfl, ?_⟩; have n0_ := q_ (Kd.R_mono (ok' := fun k_ => True) ho0 (fun k_ hk_ => trivial)); have n1_ := q_ (hb); clear HB; have HO175 := n0_; have HB := n1_; clear n0_ n1_; (try clear hb); (try clear hkp); (try clear ho0)) | (at_builtin; refine print_append_str (w0 := w) w.heap.size rfl (.tmp 6) _ 57 9 5 rfl Tryd.underlying57 Tryd.underlying9 info5 v174 t173 a0 rfl rfl ?aO ?aB ?aS ?aL ?_; (case aB => exact (by repeat (first | (with_reducible first | exact HB.out | apply pA | apply pN | apply p1) | exact HB.out))); (case aO => exact (Kd.own_of_R (by (with_reducible repeat (first | apply Kd.R_alloc | apply Kd.R_drewN | apply Kd.R_drew)); exact HO175.out))); (case aS => exact (pZ (by repeat (first | (with_reducible first | exact HB.out | apply pA | apply pN | apply p1) | exact HB.out)))); (case aL => have := LMc3.out; omega); intro v177 w5 ho0 hb hg; have ho := Kd.R_of_own (h1 := fun _ => rfl) (ok := fun _ => True) ho0 (fun _ _ => trivial); clear ho0; have hat := True.intro; rw [← Ny176.out] at ho; change Kd.R (Kd.int .u8) 5 w5 w.heap.size (fun _ => True) v177 y176 at ho; have n0_ := q_ (hb); have n1_ := q_ (ho); clear HB; clear HO175; have HB := n0_; have HO178 := n1_; clear n0_ n1_; clear ho hb hg hat; have hcv6 := own_string (P := Tryd.prog) Tryd.underlying57 Tryd.underlying5 Tryd.underlying9 (Kd.own_of_R HO178.out)))
  go_ret
  exact ⟨by first | rfl | (simp [*] <;> rfl), by repeat (first | (with_reducible first | exact HB.out | apply pA | apply pN | apply p1) | exact HB.out)⟩
 ·rw [if_neg c3] at H
  exact absurd H (by simp)
def wire_zigzag.f (a0 : Int) : Option (Int) := some (Go.bits .xor .u64 (IntKind.u64.wrap ((IntKind.u64.wrap (a0)) * 2)) (IntKind.u64.wrap (a0 / 9223372036854775808)))
set_option maxHeartbeats 8000000 in
set_option maxRecDepth 100000 in
theorem wire_zigzag.calls (a0 : Int) (r : Int) (w : World) (h : wire_zigzag.f a0 = some r) :
  Calls Tryd.prog 76 #[.int .i64 a0] w fun e w' => e = .returned (.int .u64 r) ∧ Drawn0 w w' := by
 have H : (some (Go.bits .xor .u64 (IntKind.u64.wrap ((IntKind.u64.wrap (a0)) * 2)) (IntKind.u64.wrap (a0 / 9223372036854775808)))) = some r := h
 clear h
 obtain rfl := Option.some.inj H
 go_enter Tryd.func76, Tryd.ntmps76
 go_wp2
 go_ret
 exact ⟨by first | rfl | (simp; done) | (simp [*]; done), by repeat (first | exact Drawn0.refl _ | apply Drawn0.step)⟩
end Go.Proofs.YtblmgmhjlbkncaaDoor.PA
namespace Go.Proofs.YtblmgmhjlbkncaaDoor.PA
open Go.RowKit Go.Proofs.YtblmgmhjlbkncaaDoorW.PrintWords Go.Proofs.YtblmgmhjlbkncaaDoorW.PrintLast Go.Proofs.YtblmgmhjlbkncaaDoorW.PrintMore
attribute [local go_sem] max2_int min2_int max_two min_two max_three min_three max_four min_four
set_option linter.unusedVariables false
set_option linter.unusedSimpArgs false
def wire_Ints.l0 : Nat → List Int → List Int → Int → Int → Option (ByteArray)
 | 0, _, _, _, _ => none
 | k + 1, x3, x10, x11, x12 => if x12 < x11 then (if 0 ≤ x12 then (if x12 < (x10.length : Int) then ((wire_zigzag.f (rd x10 x12)).bind fun t183 => ((wire_put.f k x3 t183).bind fun t184 => (wire_Ints.l0 k t184 x10 x11 (wrap64 (x12 + 1))))) else (none)) else (none)) else (some (strOfNums x3))
def wire_Ints.f (k : Nat) (l0 : List Int) : Option (ByteArray) := (wire_put.f k ([] : List Int) (IntKind.u64.wrap ((l0.length : Int)))).bind fun t179 => (wire_Ints.l0 k t179 l0 (l0.length : Int) 0)
set_option maxHeartbeats 8000000 in
set_option maxRecDepth 100000 in
theorem wire_Ints.calls (k : Nat) (A0 : Option Addr) (c0 : Nat) (l0 : List Int) (r : ByteArray) (w : World) (hr0 : Kd.C (Kd.int .i64) w A0 l0.length l0) (hc0 : l0.length ≤ c0) (h : wire_Ints.f k l0 = some r) :
  Calls Tryd.prog 47 #[.slice A0 l0.length c0] w fun e w' => e = .returned (.string r) ∧ Below w.heap.size w w' := by
 have HR0 := Aside0.mk hr0
 have HC0 := Aside0.mk hc0
 clear hr0 hc0
 have HB := q_ (Below.refl w.heap.size w)
 have H : ((wire_put.f k ([] : List Int) (IntKind.u64.wrap ((l0.length : Int)))).bind fun t179 => (wire_Ints.l0 k t179 l0 (l0.length : Int) 0)) = some r := h
 clear h
 replace H := oB H
 obtain ⟨t179, A20, H⟩ := H
 replace H : (wire_Ints.l0 k t179 l0 (l0.length : Int) 0) = some r := H
 have A2 := Aside0.mk A20
 clear A20
 have H' := Aside0.mk H
 clear H
 go_enter Tryd.func47, Tryd.ntmps47
 go_wp2_with (first | ((with_reducible refine gate_callee (f := 75) rfl ?_); refine goesL_ (some 9) rfl rfl Tryd.func75 (by kernel_rfl) rfl #[.slice none 0 0, .int .u64 (IntKind.u64.wrap ((l0.length : Int)))] rfl (by first | rfl | (simp only [List.map_toArray]; rfl)) ?_; (refine (wire_put.calls k (fun k_ => some k_ = (.slice none 0 0 : Value).ownBlock) (.slice none 0 0) ([] : List Int) (IntKind.u64.wrap ((l0.length : Int))) t179 w _ ?side1 ?side2 A2.out).mono ?_); (case side1 => repeat (first | (with_reducible first | exact HB.out | apply pA | apply pN | apply p1) | exact HB.out)); (case side2 => exact Kd.R_nil _ _ _ _ _); rintro e w3 ⟨v180, rfl, ho0, hb, hkp⟩; refine ⟨_, rfl, ?_⟩; have n0_ := q_ (Kd.R_mono (ok' := fun k_ => True) ho0 (fun k_ hk_ => trivial)); have n1_ := q_ (hb); clear HB; have HO181 := n0_; have HB := n1_; clear n0_ n1_; (try clear hb); (try clear hkp); (try clear ho0)))
 go_loopg [3, 12] k (fun kq v3 v12 w' => ∃ (x3_1 : List Int) (x12_1 : Int), v12 = .int .i64 x12_1 ∧ Aside0 (wire_Ints.l0 kq x3_1 l0 (l0.length : Int) x12_1 = some r) ∧ Aside0 (kq ≤ k) ∧ Aside0 (Kd.R (Kd.int .u8) 5 w' w.heap.size (fun _ => True) v3 x3_1) ∧ Aside0 (Below w.heap.size w w'))
 case atStart => exact ⟨(t179), (0), (by first | rfl | (simp; done) | (simp [*]; done)), H', ⟨Nat.le_refl _⟩, ⟨by (with_reducible repeat (first | apply Kd.R_alloc | apply Kd.R_drewN | apply Kd.R_drew)); exact HO181.out⟩, ⟨by repeat (first | (with_reducible first | exact HB.out | apply pA | apply pN | apply p1) | exact HB.out)⟩⟩
 case round =>
  clear H'
  try clear p2
  obtain ⟨x3_1, x12_1, rfl, HA, HK1, HO_3, HB⟩ := hrel
  cases gk with
  | zero => exact absurd HA.out (by simp [wire_Ints.l0])
  | succ k1 =>
   have H := HA.out
   clear HA
   simp only [wire_Ints.l0] at H
   by_cases c4 : x12_1 < (l0.length : Int)
   ·rw [if_pos c4] at H
    have c4b0 : decide (x12_1 < (l0.length : Int)) = true := decide_eq_true c4
    clear c4
    by_cases c5 : 0 ≤ x12_1
    ·rw [if_pos c5] at H
     have c5b0 : decide (0 ≤ x12_1) = true := decide_eq_true c5
     clear c5
     by_cases c6 : x12_1 < (l0.length : Int)
     ·rw [if_pos c6] at H
      have c6b0 : decide (x12_1 < (l0.length : Int)) = true := decide_eq_true c6
      clear c6
      replace H := oB H
      obtain ⟨t183, A70, H⟩ := H
      replace H : ((wire_put.f k1 x3_1 t183).bind fun t184 => (wire_Ints.l0 k1 t184 l0 (l0.length : Int) (wrap64 (x12_1 + 1)))) = some r := H
      have A7 := Aside0.mk A70
      clear A70
      replace H := oB H
      obtain ⟨t184, A80, H⟩ := H
      replace H : (wire_Ints.l0 k1 t184 l0 (l0.length : Int) (wrap64 (x12_1 + 1))) = some r := H
      have A8 := Aside0.mk A80
      clear A80
      have H' := Aside0.mk H
      clear H
      have p182 : 0 ≤ (x12_1 : Int) := of_decide_eq_true (by first | (with_reducible assumption) | assumption)
      have q182 : x12_1 < (l0.length : Int) := of_decide_eq_true (by first | (with_reducible assumption) | assumption)
      obtain ⟨ad182, e182, hx182_0⟩ := Kd.at_int HR0.out x12_1 p182 q182
      cases e182
      replace hx182_0 := (HB.out.cell (World.block_lt_of_cell? w _ hx182_0)).trans hx182_0
      replace p182 := eq_true p182
      replace q182 := eq_true q182
      go_wp2_with (first | ((with_reducible refine gate_callee (f := 76) rfl ?_); refine goesL_ (some 18) rfl rfl Tryd.func76 (by kernel_rfl) rfl #[.int .i64 (rd l0 x12_1)] rfl (by first | rfl | (simp only [List.map_toArray]; rfl)) ?_; (with_reducible refine (wire_zigzag.calls (rd l0 x12_1) t183 _ A7.out).mono ?_); rintro e w' ⟨rfl, ⟨nd, rfl⟩⟩; refine ⟨_, rfl, ?_⟩; obtain ⟨Ao9, co9, eo9⟩ := Kd.R_slice HO_3.out; subst eo9) | ((with_reducible refine gate_callee (f := 75) rfl ?_); refine goesL_ (some 19) rfl rfl Tryd.func75 (by kernel_rfl) rfl #[.slice Ao9 x3_1.length co9, .int .u64 t183] rfl (by first | rfl | (simp only [List.map_toArray]; rfl)) ?_; (with_reducible refine (wire_put.calls k1 (fun k_ => some k_ = (.slice Ao9 x3_1.length co9 : Value).ownBlock) (.slice Ao9 x3_1.length co9) x3_1 t183 t184 w _ ?side1 ?side2 A8.out).mono ?_); (case side1 => repeat (first | (with_reducible first | exact HB.out | apply pA | apply pN | apply p1) | exact HB.out)); (case side2 => exact Kd.R_tight rfl HO_3.out); rintro e w10 ⟨v185, rfl, ho0, hb, hkp⟩; refine ⟨_, rfl, ?_⟩; have n0_ := q_ (Kd.R_mono (ok' := fun k_ => True) ho0 (fun k_ hk_ => trivial)); have n1_ := q_ (hb); clear HB; clear HO_3; have HO186 := n0_; have HB := n1_; clear n0_ n1_; (try clear hb); (try clear hkp); (try clear ho0)))
      go_roundg k1
      case measure => have := HK1.out; omega
      case rel => exact ⟨(t184), (wrap64 (x12_1 + 1)), (by first | rfl | (simp; done) | (simp [*]; done)), H', ⟨by have := HK1.out; omega⟩, ⟨by (with_reducible repeat (first | apply Kd.R_alloc | apply Kd.R_drewN | apply Kd.R_drew)); exact HO186.out⟩, ⟨by repeat (first | (with_reducible first | exact HB.out | apply pA | apply pN | apply p1) | exact HB.out)⟩⟩
     ·rw [if_neg c6] at H
      exact absurd H (by simp)
    ·rw [if_neg c5] at H
     exact absurd H (by simp)
   ·rw [if_neg c4] at H
    have c4b0 : decide (x12_1 < (l0.length : Int)) = false := decide_eq_false c4
    clear c4
    obtain rfl := Option.some.inj H
    have hcv11 := own_string (P := Tryd.prog) Tryd.underlying57 Tryd.underlying5 Tryd.underlying9 (Kd.own_of_R HO_3.out)
    go_wp2
    go_ret
    exact ⟨by first | rfl | (simp [*] <;> rfl), by repeat (first | (with_reducible first | exact HB.out | apply pA | apply pN | apply p1) | exact HB.out)⟩
def order_Encode.j0 : Nat → List Int → Bool → ByteArray → ByteArray → Int → Int → Int → Int → Int → Int → Int → Int → Int → Option (ByteArray × Int)
 | 0, _, _, _, _, _, _, _, _, _, _, _, _, _ => none
 | k + 1, x4, x22, x188000, x188001, x188002, x188003, x188004, x188005, x188006, x188007, x188008, x188009, x188010 => if x22 = true then (some ((⟨#[]⟩ : ByteArray), 9)) else ((wire_Text.f k x188000).bind fun t193 => ((wire_Text.f k x188001).bind fun t194 => (if t193.size + t194.size ≤ 9223372036854775807 then ((wire_Ints.f k x4).bind fun t195 => (if (t193 ++ t194).size + t195.size ≤ 9223372036854775807 then (some ((t193 ++ t194) ++ t195, 0)) else (none))) else (none))))
def order_Encode.f (k : Nat) (a0_0 : ByteArray) (a0_1 : ByteArray) (a0_2 : Int) (a0_3 : Int) (a0_4 : Int) (a0_5 : Int) (a0_6 : Int) (a0_7 : Int) (a0_8 : Int) (a0_9 : Int) (a0_10 : Int) : Option (ByteArray × Int) := if (mx (a0_0.size : Int) (a0_1.size : Int)) > 16 then (some ((⟨#[]⟩ : ByteArray), 6)) else ((order_numbers.f a0_0 a0_1 a0_2 a0_3 a0_4 a0_5 a0_6 a0_7 a0_8 a0_9 a0_10).bind fun t188 => ((slices_Min_int_int.f k t188).bind fun t191 => (if t191 < (-1099511627776) then (order_Encode.j0 k t188 true a0_0 a0_1 a0_2 a0_3 a0_4 a0_5 a0_6 a0_7 a0_8 a0_9 a0_10) else ((slices_Max_int_int.f k t188).bind fun t192 => (order_Encode.j0 k t188 (decide (t192 > 1099511627776)) a0_0 a0_1 a0_2 a0_3 a0_4 a0_5 a0_6 a0_7 a0_8 a0_9 a0_10)))))
def order_Encode.T6 : Bool × List (List Nat × List Nat) := (true, [([], []), ([0], [0]), ([1], [1]), ([], []), ([3], [3]), ([4, 2], [4]), ([2, 5], [2, 5]), ([], []), ([7, 5], [7]), ([6, 8], [6, 8]), ([9, 8, 0, 1, 2, 3, 4, 5, 6, 7, 8, 9], [9]), ([10, 0, 1, 2, 3, 4, 5, 6, 7, 8, 9, 10], [])])
def order_Encode.B6 : List Nat := [0, 1, 3, 0, 8, 31, 63, 0, 191, 511, 1023, 2047]
theorem order_Encode.tab6 : rtab .any (opsOf Tryd.f22 6) = order_Encode.T6 := by kernel_rfl
theorem order_Encode.bits6 : waitsOk order_Encode.T6.2 order_Encode.B6 = true := by kernel_rfl
set_option maxHeartbeats 8000000 in
set_option maxRecDepth 100000 in
theorem order_Encode.calls (k : Nat) (a0_0 : ByteArray) (a0_1 : ByteArray) (a0_2 : Int) (a0_3 : Int) (a0_4 : Int) (a0_5 : Int) (a0_6 : Int) (a0_7 : Int) (a0_8 : Int) (a0_9 : Int) (a0_10 : Int) (r1 : ByteArray) (r2 : Int) (w : World) (h : order_Encode.f k a0_0 a0_1 a0_2 a0_3 a0_4 a0_5 a0_6 a0_7 a0_8 a0_9 a0_10 = some (r1, r2)) :
  Calls Tryd.prog 22 #[.agg #[.string a0_0, .string a0_1, .int .i64 a0_2, .int .i64 a0_3, .int .i64 a0_4, .int .i64 a0_5, .int .i64 a0_6, .int .i64 a0_7, .int .i64 a0_8, .int .i64 a0_9, .int .i64 a0_10]] w fun e w' => e = .returned (.tuple #[.string r1, .int .i64 r2]) ∧ Below w.heap.size w w' := by
 have hu23 := Tryd.underlying23
 have HB := q_ (Below.refl w.heap.size w)
 have H : (if (mx (a0_0.size : Int) (a0_1.size : Int)) > 16 then (some ((⟨#[]⟩ : ByteArray), 6)) else ((order_numbers.f a0_0 a0_1 a0_2 a0_3 a0_4 a0_5 a0_6 a0_7 a0_8 a0_9 a0_10).bind fun t188 => ((slices_Min_int_int.f k t188).bind fun t191 => (if t191 < (-1099511627776) then (order_Encode.j0 k t188 true a0_0 a0_1 a0_2 a0_3 a0_4 a0_5 a0_6 a0_7 a0_8 a0_9 a0_10) else ((slices_Max_int_int.f k t188).bind fun t192 => (order_Encode.j0 k t188 (decide (t192 > 1099511627776)) a0_0 a0_1 a0_2 a0_3 a0_4 a0_5 a0_6 a0_7 a0_8 a0_9 a0_10)))))) = some (r1, r2) := h
 clear h
 obtain ⟨ji2, hji2⟩ : ∃ j_ : Int, (mx (a0_0.size : Int) (a0_1.size : Int)) = j_ := ⟨_, rfl⟩
 replace H : (if (ji2) > 16 then (some ((⟨#[]⟩ : ByteArray), 6)) else ((order_numbers.f a0_0 a0_1 a0_2 a0_3 a0_4 a0_5 a0_6 a0_7 a0_8 a0_9 a0_10).bind fun t188 => ((slices_Min_int_int.f k t188).bind fun t191 => (if t191 < (-1099511627776) then (order_Encode.j0 k t188 true a0_0 a0_1 a0_2 a0_3 a0_4 a0_5 a0_6 a0_7 a0_8 a0_9 a0_10) else ((slices_Max_int_int.f k t188).bind fun t192 => (order_Encode.j0 k t188 (decide (t192 > 1099511627776)) a0_0 a0_1 a0_2 a0_3 a0_4 a0_5 a0_6 a0_7 a0_8 a0_9 a0_10)))))) = some (r1, r2) := by first | (rw [hji2] at H; exact H) | (simp only [hji2] at H ⊢; exact H)
 (try (have hji2l : 0 ≤ ji2 := by (rw [← hji2]; unfold mx; (repeat' split) <;> omega)))
 (try (have hji2m : 0 ≤ ji2 := by omega))
 have hji2_ : (if (a0_0.size : Int) < (a0_1.size : Int) then (a0_1.size : Int) else (a0_0.size : Int)) = ji2 := hji2
 try have hji2n : (if a0_0.size < a0_1.size then (a0_1.size : Int) else (a0_0.size : Int)) = ji2 := by rw [← hji2_]; simp only [Int.ofNat_lt]
 by_cases c3 : (ji2) > 16
 ·rw [if_pos c3] at H
  have c3b0 : decide (16 < (ji2)) = true := decide_eq_true c3
  clear c3
  simp only [Option.some.injEq, Prod.mk.injEq] at H
  obtain ⟨rfl, rfl⟩ := H
  go_enter Tryd.func22, Tryd.ntmps22
  go_wp2_with (first | (refine wpList_load_cells (by rfl) 23 _ (by exact rfl) ⟨gb187, 0, none⟩ (by rfl) _ _ (cells_of_blk (by (with_reducible repeat (first | refine bN ?_ _ | refine bW ?_ | refine bA ?_ _)); exact BK187.out)) Tryd.underlying23 rfl (by kernel_rfl) ?_) | ((with_reducible refine gate_dst (N := 1) rfl ?_); refine box_event ?hg (N := 1) ?hd (cs := #[.string a0_0, .string a0_1, .int .i64 a0_2, .int .i64 a0_3, .int .i64 a0_4, .int .i64 a0_5, .int .i64 a0_6, .int .i64 a0_7, .int .i64 a0_8, .int .i64 a0_9, .int .i64 a0_10]) (t := 23) ?hr ?_; (case hd => rfl); (case hg => rfl); (case hr => first | (go_simp; done) | (go_simp; rfl)); intro gb187 hg w4 hbox hb; have n0_ := q_ (pT (by repeat (first | (with_reducible first | exact HB.out | apply pA | apply pN | apply p1) | exact HB.out)) hb); have n1_ := q_ (hbox); have n2_ := q_ ((by rw [hg]; exact (pZ (by repeat (first | (with_reducible first | exact HB.out | apply pA | apply pN | apply p1) | exact HB.out))) : w.heap.size ≤ gb187)); have n3_ := n2_; clear HB; have HB := n0_; have BK187 := n1_; have GW187 := n2_; have GE187 := n3_; clear n0_ n1_ n2_ n3_; clear hb hbox hg; have hcz5 := blk_all BK187.out; simp only [CellsAt, List.toList_toArray, Nat.reduceAdd, and_true] at hcz5; have hfz5 := bF BK187.out))
  go_ret2
  exact ⟨by first | rfl | (simp [errW_none, errW_some] <;> rfl) | (simp only [← hji2]; first | rfl | (simp [errW_none, errW_some] <;> rfl)) | (simp [*, errW_none, errW_some] <;> rfl), by repeat (first | (with_reducible first | exact HB.out | apply pA | apply pN | apply p1 | refine pS ?_ GE187.out) | exact HB.out)⟩
 ·rw [if_neg c3] at H
  have c3b0 : decide (16 < (ji2)) = false := decide_eq_false c3
  clear c3
  replace H := oB H
  obtain ⟨t188, A60, H⟩ := H
  replace H : ((slices_Min_int_int.f k t188).bind fun t191 => (if t191 < (-1099511627776) then (order_Encode.j0 k t188 true a0_0 a0_1 a0_2 a0_3 a0_4 a0_5 a0_6 a0_7 a0_8 a0_9 a0_10) else ((slices_Max_int_int.f k t188).bind fun t192 => (order_Encode.j0 k t188 (decide (t192 > 1099511627776)) a0_0 a0_1 a0_2 a0_3 a0_4 a0_5 a0_6 a0_7 a0_8 a0_9 a0_10)))) = some (r1, r2) := H
  have A6 := Aside0.mk A60
  clear A60
  have HC7 := Aside0.mk H
  clear H
  go_enter Tryd.func22, Tryd.ntmps22
  go_upto_region 4 with (first | ((with_reducible refine gate_dst (N := 1) rfl ?_); refine box_event ?hg (N := 1) ?hd (cs := #[.string a0_0, .string a0_1, .int .i64 a0_2, .int .i64 a0_3, .int .i64 a0_4, .int .i64 a0_5, .int .i64 a0_6, .int .i64 a0_7, .int .i64 a0_8, .int .i64 a0_9, .int .i64 a0_10]) (t := 23) ?hr ?_; (case hd => rfl); (case hg => rfl); (case hr => first | (go_simp; done) | (go_simp; rfl)); intro gb187 hg w8 hbox hb; have n0_ := q_ (pT (by repeat (first | (with_reducible first | exact HB.out | apply pA | apply pN | apply p1) | exact HB.out)) hb); have n1_ := q_ (hbox); have n2_ := q_ ((by rw [hg]; exact (pZ (by repeat (first | (with_reducible first | exact HB.out | apply pA | apply pN | apply p1) | exact HB.out))) : w.heap.size ≤ gb187)); have n3_ := n2_; clear HB; have HB := n0_; have BK187 := n1_; have GW187 := n2_; have GE187 := n3_; clear n0_ n1_ n2_ n3_; clear hb hbox hg; have hcz9 := blk_all BK187.out; simp only [CellsAt, List.toList_toArray, Nat.reduceAdd, and_true] at hcz9; have hfz9 := bF BK187.out) | ((with_reducible refine gate_callee (f := 43) rfl ?_); refine goesL_ (some 14) rfl rfl Tryd.func43 (by kernel_rfl) rfl #[.agg #[.string a0_0, .string a0_1, .int .i64 a0_2, .int .i64 a0_3, .int .i64 a0_4, .int .i64 a0_5, .int .i64 a0_6, .int .i64 a0_7, .int .i64 a0_8, .int .i64 a0_9, .int .i64 a0_10]] rfl (by first | rfl | (simp only [List.map_toArray]; rfl)) ?_; (with_reducible refine (order_numbers.calls a0_0 a0_1 a0_2 a0_3 a0_4 a0_5 a0_6 a0_7 a0_8 a0_9 a0_10 t188 _ A6.out).mono ?_); rintro e w10 ⟨v189, rfl, ho0, hb⟩; refine ⟨_, rfl, ?_⟩; have n0_ := q_ (Kd.R_lower ho0 (pZ (by repeat (first | (with_reducible first | exact HB.out | apply pA | apply pN | apply p1 | refine pS ?_ GE187.out) | exact HB.out)))); have n1_ := q_ (bB (g := gb187) (by (with_reducible repeat (first | refine bN ?_ _ | refine bW ?_ | refine bA ?_ _)); exact BK187.out) hb); have n2_ := q_ (pT (by repeat (first | (with_reducible first | exact HB.out | apply pA | apply pN | apply p1 | refine pS ?_ GE187.out) | exact HB.out)) hb); clear BK187; clear HB; have HO190 := n0_; have BK187 := n1_; have HB := n2_; clear n0_ n1_ n2_; (try clear hb); (try clear hb2); (try clear hk); (try clear hi); (try clear ho0)))
  (try simp only [Act.put, List.setIfInBounds_toArray, List.set_cons_zero, List.set_cons_succ])
  go_cut [22] (fun v22 wc => ∃ (kq : Nat) (x22_6 : Bool), v22 = .bool x22_6 ∧ Aside0 (order_Encode.j0 kq t188 x22_6 a0_0 a0_1 a0_2 a0_3 a0_4 a0_5 a0_6 a0_7 a0_8 a0_9 a0_10 = some (r1, r2)) ∧ Aside0 (kq ≤ k) ∧ Aside0 (Kd.R (Kd.int .i64) 3 wc w.heap.size (fun _ => True) v189 t188) ∧ Aside0 (wc.heap[gb187]? = some (.cells #[.string a0_0, .string a0_1, .int .i64 a0_2, .int .i64 a0_3, .int .i64 a0_4, .int .i64 a0_5, .int .i64 a0_6, .int .i64 a0_7, .int .i64 a0_8, .int .i64 a0_9, .int .i64 a0_10] 23 (0, 0))) ∧ Aside0 (Below w.heap.size w wc))
  case first =>
   have H := HC7.out
   clear HC7
   replace H := oB H
   obtain ⟨t191, A110, H⟩ := H
   replace H : (if t191 < (-1099511627776) then (order_Encode.j0 k t188 true a0_0 a0_1 a0_2 a0_3 a0_4 a0_5 a0_6 a0_7 a0_8 a0_9 a0_10) else ((slices_Max_int_int.f k t188).bind fun t192 => (order_Encode.j0 k t188 (decide (t192 > 1099511627776)) a0_0 a0_1 a0_2 a0_3 a0_4 a0_5 a0_6 a0_7 a0_8 a0_9 a0_10))) = some (r1, r2) := H
   have A11 := Aside0.mk A110
   clear A110
   by_cases c12 : t191 < (-1099511627776)
   ·rw [if_pos c12] at H
    have c12b0 : decide (t191 < (-1099511627776)) = true := decide_eq_true c12
    clear c12
    (first | rw [c12b0] | (simp only [i64_w, i32_w]; rw [c12b0]) | skip)
    have H' := Aside0.mk H
    clear H
    obtain ⟨Ao13, co13, eo13⟩ := Kd.R_slice HO190.out
    subst eo13
    go_wp2_with (first | ((with_reducible refine gate_callee (f := 44) rfl ?_); refine goesL_ (some 16) rfl rfl Tryd.func44 (by kernel_rfl) rfl #[.slice Ao13 t188.length co13] rfl (by first | rfl | (simp only [List.map_toArray]; rfl)) ?_; (with_reducible refine (slices_Min_int_int.calls k _ _ t188 t191 _ ?side1 ?side2 A11.out).mono ?_); (case side1 => repeat (first | exact (Kd.R_reads' HO190.out).2.2 | (with_reducible refine Kd.C_alloc ?_ _) | (with_reducible refine Kd.C_drewN ?_ _) | (with_reducible refine Kd.C_drew ?_))); (case side2 => exact (Kd.R_reads' HO190.out).2.1); rintro e w14 ⟨rfl, hb⟩; refine ⟨_, rfl, ?_⟩; have n0_ := q_ (Kd.R_below (by (with_reducible repeat (first | apply Kd.R_alloc | apply Kd.R_drewN | apply Kd.R_drew)); exact HO190.out) hb); have n1_ := q_ (bB (g := gb187) (by (with_reducible repeat (first | refine bN ?_ _ | refine bW ?_ | refine bA ?_ _)); exact BK187.out) hb); have n2_ := q_ (pT (by repeat (first | (with_reducible first | exact HB.out | apply pA | apply pN | apply p1 | refine pS ?_ GE187.out) | exact HB.out)) hb); clear HO190; clear BK187; clear HB; have HO190 := n0_; have BK187 := n1_; have HB := n2_; clear n0_ n1_ n2_; (try clear hb); (try clear hb2); (try clear hk); (try clear hi)))
    go_meet
    case rel => exact ⟨_, (true), (by first | rfl | (simp; done) | (simp [*]; done)), H', ⟨by first | omega | exact Nat.le_refl _⟩, ⟨by (with_reducible repeat (first | apply Kd.R_alloc | apply Kd.R_drewN | apply Kd.R_drew)); exact HO190.out⟩, ⟨by (with_reducible repeat (first | refine bN ?_ _ | refine bW ?_ | refine bA ?_ _)); exact BK187.out⟩, ⟨by repeat (first | (with_reducible first | exact HB.out | apply pA | apply pN | apply p1 | refine pS ?_ GE187.out) | exact HB.out)⟩⟩
   ·rw [if_neg c12] at H
    have c12b0 : decide (t191 < (-1099511627776)) = false := decide_eq_false c12
    clear c12
    (first | rw [c12b0] | (simp only [i64_w, i32_w]; rw [c12b0]) | skip)
    replace H := oB H
    obtain ⟨t192, A150, H⟩ := H
    replace H : (order_Encode.j0 k t188 (decide (t192 > 1099511627776)) a0_0 a0_1 a0_2 a0_3 a0_4 a0_5 a0_6 a0_7 a0_8 a0_9 a0_10) = some (r1, r2) := H
    have A15 := Aside0.mk A150
    clear A150
    have H' := Aside0.mk H
    clear H
    obtain ⟨Ao16, co16, eo16⟩ := Kd.R_slice HO190.out
    subst eo16
    go_wp2_with (first | ((with_reducible refine gate_callee (f := 44) rfl ?_); refine goesL_ (some 16) rfl rfl Tryd.func44 (by kernel_rfl) rfl #[.slice Ao16 t188.length co16] rfl (by first | rfl | (simp only [List.map_toArray]; rfl)) ?_; (with_reducible refine (slices_Min_int_int.calls k _ _ t188 t191 _ ?side1 ?side2 A11.out).mono ?_); (case side1 => repeat (first | exact (Kd.R_reads' HO190.out).2.2 | (with_reducible refine Kd.C_alloc ?_ _) | (with_reducible refine Kd.C_drewN ?_ _) | (with_reducible refine Kd.C_drew ?_))); (case side2 => exact (Kd.R_reads' HO190.out).2.1); rintro e w17 ⟨rfl, hb⟩; refine ⟨_, rfl, ?_⟩; have n0_ := q_ (Kd.R_below (by (with_reducible repeat (first | apply Kd.R_alloc | apply Kd.R_drewN | apply Kd.R_drew)); exact HO190.out) hb); have n1_ := q_ (bB (g := gb187) (by (with_reducible repeat (first | refine bN ?_ _ | refine bW ?_ | refine bA ?_ _)); exact BK187.out) hb); have n2_ := q_ (pT (by repeat (first | (with_reducible first | exact HB.out | apply pA | apply pN | apply p1 | refine pS ?_ GE187.out) | exact HB.out)) hb); clear HO190; clear BK187; clear HB; have HO190 := n0_; have BK187 := n1_; have HB := n2_; clear n0_ n1_ n2_; (try clear hb); (try clear hb2); (try clear hk); (try clear hi)) | (go_at_call 45; (with_reducible refine (slices_Max_int_int.calls k _ _ t188 t192 _ ?side1 ?side2 A15.out).mono ?_); (case side1 => repeat (first | exact (Kd.R_reads' HO190.out).2.2 | (with_reducible refine Kd.C_alloc ?_ _) | (with_reducible refine Kd.C_drewN ?_ _) | (with_reducible refine Kd.C_drew ?_))); (case side2 => exact (Kd.R_reads' HO190.out).2.1); rintro e w18 ⟨rfl, hb⟩; have n0_ := q_ (Kd.R_below (by (with_reducible repeat (first | apply Kd.R_alloc | apply Kd.R_drewN | apply Kd.R_drew)); exact HO190.out) hb); have n1_ := q_ (bB (g := gb187) (by (with_reducible repeat (first | refine bN ?_ _ | refine bW ?_ | refine bA ?_ _)); exact BK187.out) hb); have n2_ := q_ (pT (by repeat (first | (with_reducible first | exact HB.out | apply pA | apply pN | apply p1 | refine pS ?_ GE187.out) | exact HB.out)) hb); clear HO190; clear BK187; clear HB; have HO190 := n0_; have BK187 := n1_; have HB := n2_; clear n0_ n1_ n2_; (try clear hb); (try clear hb2); (try clear hk); (try clear hi)))
    go_meet
    case rel => exact ⟨_, (decide (t192 > 1099511627776)), (by first | rfl | (simp; done) | (simp [*]; done)), H', ⟨by first | omega | exact Nat.le_refl _⟩, ⟨by (with_reducible repeat (first | apply Kd.R_alloc | apply Kd.R_drewN | apply Kd.R_drew)); exact HO190.out⟩, ⟨by (with_reducible repeat (first | refine bN ?_ _ | refine bW ?_ | refine bA ?_ _)); exact BK187.out⟩, ⟨by repeat (first | (with_reducible first | exact HB.out | apply pA | apply pN | apply p1 | refine pS ?_ GE187.out) | exact HB.out)⟩⟩
  case rest =>
   clear HC7
   try clear c1
   try clear c2
   try clear p2
   try clear c3
   try clear c3b0
   try clear c4
   try clear c12
   try clear c12b0
   try clear hcz5
   try clear hcz9
   try clear hfz5
   try clear hfz9
   obtain ⟨kq, x22_6, rfl, HA, HJ6, HO_4, BK187, HB⟩ := hcut
   cases kq with
   | zero => exact absurd HA.out (by simp [order_Encode.j0])
   | succ kj6 =>
    have H := HA.out
    clear HA
    simp only [order_Encode.j0] at H
    by_cases c19 : x22_6 = true
    ·subst c19
     have H1 : (some ((⟨#[]⟩ : ByteArray), 9)) = some (r1, r2) := by rw [if_pos rfl] at H; exact H
     clear H
     have H := H1
     clear H1
     simp only [Option.some.injEq, Prod.mk.injEq] at H
     obtain ⟨rfl, rfl⟩ := H
     go_wp2
     go_ret2
     exact ⟨by first | rfl | (simp [errW_none, errW_some] <;> rfl) | (simp only [← hji2]; first | rfl | (simp [errW_none, errW_some] <;> rfl)) | (simp [*, errW_none, errW_some] <;> rfl), by repeat (first | (with_reducible first | exact HB.out | apply pA | apply pN | apply p1 | refine pS ?_ GE187.out) | exact HB.out)⟩
    ·replace c19 := Bool.eq_false_iff.mpr c19
     subst c19
     have H1 : ((wire_Text.f kj6 a0_0).bind fun t193 => ((wire_Text.f kj6 a0_1).bind fun t194 => (if t193.size + t194.size ≤ 9223372036854775807 then ((wire_Ints.f kj6 t188).bind fun t195 => (if (t193 ++ t194).size + t195.size ≤ 9223372036854775807 then (some ((t193 ++ t194) ++ t195, 0)) else (none))) else (none)))) = some (r1, r2) := by rw [if_neg (show ¬ (false = true) by decide)] at H; exact H
     clear H
     have H := H1
     clear H1
     replace H := oB H
     obtain ⟨t193, A200, H⟩ := H
     replace H : ((wire_Text.f kj6 a0_1).bind fun t194 => (if t193.size + t194.size ≤ 9223372036854775807 then ((wire_Ints.f kj6 t188).bind fun t195 => (if (t193 ++ t194).size + t195.size ≤ 9223372036854775807 then (some ((t193 ++ t194) ++ t195, 0)) else (none))) else (none))) = some (r1, r2) := H
     have A20 := Aside0.mk A200
     clear A200
     replace H := oB H
     obtain ⟨t194, A210, H⟩ := H
     replace H : (if t193.size + t194.size ≤ 9223372036854775807 then ((wire_Ints.f kj6 t188).bind fun t195 => (if (t193 ++ t194).size + t195.size ≤ 9223372036854775807 then (some ((t193 ++ t194) ++ t195, 0)) else (none))) else (none)) = some (r1, r2) := H
     have A21 := Aside0.mk A210
     clear A210
     by_cases c22 : t193.size + t194.size ≤ 9223372036854775807
     ·rw [if_pos c22] at H
      have c22b0 := eq_true c22
      have c22b1 : decide (t193.size + t194.size ≤ 9223372036854775807) = true := decide_eq_true c22
      try have c22b2 : (9223372036854775807 < t193.size + t194.size) = False := eq_false (Nat.not_lt.2 c22)
      clear c22
      replace H := oB H
      obtain ⟨t195, A230, H⟩ := H
      replace H : (if (t193 ++ t194).size + t195.size ≤ 9223372036854775807 then (some ((t193 ++ t194) ++ t195, 0)) else (none)) = some (r1, r2) := H
      have A23 := Aside0.mk A230
      clear A230
      by_cases c24 : (t193 ++ t194).size + t195.size ≤ 9223372036854775807
      ·rw [if_pos c24] at H
       have c24b0 := eq_true c24
       have c24b1 : decide ((t193 ++ t194).size + t195.size ≤ 9223372036854775807) = true := decide_eq_true c24
       try have c24b2 : (9223372036854775807 < (t193 ++ t194).size + t195.size) = False := eq_false (Nat.not_lt.2 c24)
       have c24b3 : (9223372036854775807 < t193.size + t194.size + t195.size) = False := eq_false (by have e_ : t193.size + t194.size + t195.size = (t193 ++ t194).size + t195.size := (by first | rfl | (simp only [ByteArray.size_append]; done) | (simp only [ByteArray.size_append]; rfl)); exact Nat.not_lt.2 (Nat.le_trans (Nat.le_of_eq e_) c24))
       clear c24
       simp only [Option.some.injEq, Prod.mk.injEq] at H
       obtain ⟨rfl, rfl⟩ := H
       try go_wp2
       have n0_ := q_ (Kd.R_drew HO_4.out)
       have n1_ := q_ (bW BK187.out)
       have n2_ := q_ (p1 HB.out)
       clear HO_4
       clear BK187
       clear HB
       have HO_4 := n0_
       have BK187 := n1_
       have HB := n2_
       clear n0_ n1_ n2_
       refine start_ (n := 12) (S := fun w' => w'.cell? ⟨gb187, 0, none⟩ = some (.string a0_0) ∧ w'.cell? ⟨gb187, 1, none⟩ = some (.string a0_1) ∧ w'.cell? ⟨gb187, 2, none⟩ = some (.int .i64 a0_2) ∧ w'.cell? ⟨gb187, 3, none⟩ = some (.int .i64 a0_3) ∧ w'.cell? ⟨gb187, 4, none⟩ = some (.int .i64 a0_4) ∧ w'.cell? ⟨gb187, 5, none⟩ = some (.int .i64 a0_5) ∧ w'.cell? ⟨gb187, 6, none⟩ = some (.int .i64 a0_6) ∧ w'.cell? ⟨gb187, 7, none⟩ = some (.int .i64 a0_7) ∧ w'.cell? ⟨gb187, 8, none⟩ = some (.int .i64 a0_8) ∧ w'.cell? ⟨gb187, 9, none⟩ = some (.int .i64 a0_9) ∧ w'.cell? ⟨gb187, 10, none⟩ = some (.int .i64 a0_10)) (ds := []) #[false, false, false, false, false, false, false, false, false, false, false, false] (by kernel_rfl) rfl rfl ⟨(bC BK187.out 0).trans rfl, (bC BK187.out 1).trans rfl, (bC BK187.out 2).trans rfl, (bC BK187.out 3).trans rfl, (bC BK187.out 4).trans rfl, (bC BK187.out 5).trans rfl, (bC BK187.out 6).trans rfl, (bC BK187.out 7).trans rfl, (bC BK187.out 8).trans rfl, (bC BK187.out 9).trans rfl, (bC BK187.out 10).trans rfl⟩ (fun hHeld => ?_); refine with_tabW order_Encode.tab6 order_Encode.bits6 (fun HT_ HW_ => ?_)
       generalize wc.drew = w25 at HO_4 BK187 HB hHeld ⊢
       refine pure_ (i := 0) (N := some 23) (v := ?_) (a' := ?_) #[true, false, false, false, false, false, false, false, false, false, false, false] rfl rfl (any_of HT_.out (by kernel_rfl)) (fun _ _ _ h => h) (Or.inl ⟨by rfl, ?_⟩) ?_ ?_
       rotate_left
       ·intro w'
        go_simp
        with_reducible rfl
       rotate_left
       ·simp only [Act.put, List.setIfInBounds_toArray, List.set_cons_zero, List.set_cons_succ, i64_w, i32_w]
        rfl
       refine pure_ (i := 3) (N := some 26) (v := ?_) (a' := ?_) #[true, false, false, true, false, false, false, false, false, false, false, false] rfl rfl (any_of HT_.out (by kernel_rfl)) (fun _ _ _ h => h) (Or.inl ⟨by rfl, ?_⟩) ?_ ?_
       rotate_left
       ·intro w'
        go_simp
        with_reducible rfl
       rotate_left
       ·simp only [Act.put, List.setIfInBounds_toArray, List.set_cons_zero, List.set_cons_succ, i64_w, i32_w]
        rfl
       refine pure_ (i := 7) (N := some 30) (v := ?_) (a' := ?_) #[true, false, false, true, false, false, false, true, false, false, false, false] rfl rfl (any_of HT_.out (by kernel_rfl)) (fun _ _ _ h => h) (Or.inl ⟨by rfl, ?_⟩) ?_ ?_
       rotate_left
       ·intro w'
        go_simp
        with_reducible rfl
       rotate_left
       ·simp only [Act.put, List.setIfInBounds_toArray, List.set_cons_zero, List.set_cons_succ, i64_w, i32_w]
        rfl
       refine take_ (i := 1) (N := some 24) (v := ?_) (a' := ?_) #[true, true, false, true, false, false, false, true, false, false, false, false] rfl rfl (take_ofW HT_.out HW_.out (by kernel_rfl)) (fun _ _ _ h => h) (Or.inl ⟨by rfl, ?_⟩) hHeld ?_ ?_
       rotate_left
       ·rintro w' ⟨s0, s1, s2, s3, s4, s5, s6, s7, s8, s9, s10⟩
        first
        | (refine exec_load_cells 23 ?lx41 ?la41 gb187 ?lb41 #[.string a0_0, .string a0_1, .int .i64 a0_2, .int .i64 a0_3, .int .i64 a0_4, .int .i64 a0_5, .int .i64 a0_6, .int .i64 a0_7, .int .i64 a0_8, .int .i64 a0_9, .int .i64 a0_10] _ ?lc41 Tryd.underlying23 rfl ?ld41; (case la41 => exact rfl); (case lb41 => exact rfl); (case lc41 => exact ⟨s0, s1, s2, s3, s4, s5, s6, s7, s8, s9, s10, trivial⟩); (case ld41 => kernel_rfl))
        | (go_simp; with_reducible rfl)
       rotate_left
       ·simp only [Act.put, List.setIfInBounds_toArray, List.set_cons_zero, List.set_cons_succ, i64_w, i32_w]
        rfl
       refine take_ (i := 4) (N := some 27) (v := ?_) (a' := ?_) #[true, true, false, true, true, false, false, true, false, false, false, false] rfl rfl (take_ofW HT_.out HW_.out (by kernel_rfl)) (fun _ _ _ h => h) (Or.inl ⟨by rfl, ?_⟩) hHeld ?_ ?_
       rotate_left
       ·rintro w' ⟨s0, s1, s2, s3, s4, s5, s6, s7, s8, s9, s10⟩
        first
        | (refine exec_load_cells 23 ?lx42 ?la42 gb187 ?lb42 #[.string a0_0, .string a0_1, .int .i64 a0_2, .int .i64 a0_3, .int .i64 a0_4, .int .i64 a0_5, .int .i64 a0_6, .int .i64 a0_7, .int .i64 a0_8, .int .i64 a0_9, .int .i64 a0_10] _ ?lc42 Tryd.underlying23 rfl ?ld42; (case la42 => exact rfl); (case lb42 => exact rfl); (case lc42 => exact ⟨s0, s1, s2, s3, s4, s5, s6, s7, s8, s9, s10, trivial⟩); (case ld42 => kernel_rfl))
        | (go_simp; with_reducible rfl)
       rotate_left
       ·simp only [Act.put, List.setIfInBounds_toArray, List.set_cons_zero, List.set_cons_succ, i64_w, i32_w]
        rfl
       refine one_ (i := 2) (N := some 25) #[true, true, true, true, true, false, false, true, false, false, false, false] rfl rfl (one_of HT_.out (by kernel_rfl)) (by decide) (fun K hK => ?_)
       refine goes_ Tryd.func46 (by kernel_rfl) rfl #[.string a0_0] (by rfl) rfl rfl (by first | rfl | (simp only [List.map_toArray]; rfl)) ?_
       with_reducible refine (wire_Text.calls kj6 a0_0 t193 _ A20.out).mono ?_
       rintro e w26 ⟨rfl, hb⟩
       refine ⟨_, rfl, ?_⟩
       have n0_ := q_ (Kd.R_below (by (with_reducible repeat (first | apply Kd.R_alloc | apply Kd.R_drewN | apply Kd.R_drew)); exact HO_4.out) hb)
       have n1_ := q_ (bB (g := gb187) (by (with_reducible repeat (first | refine bN ?_ _ | refine bW ?_ | refine bA ?_ _)); exact BK187.out) hb)
       have n2_ := q_ (pT (by repeat (first | (with_reducible first | exact HB.out | apply pA | apply pN | apply p1 | refine pS ?_ GE187.out) | exact HB.out)) hb)
       clear HO_4
       clear BK187
       clear HB
       have HO_4 := n0_
       have BK187 := n1_
       have HB := n2_
       clear n0_ n1_ n2_
       (try clear hb)
       (try clear hb2)
       (try clear hk)
       (try clear hi)
       refine hK.out _ _ ⟨(bC BK187.out 0).trans rfl, (bC BK187.out 1).trans rfl, (bC BK187.out 2).trans rfl, (bC BK187.out 3).trans rfl, (bC BK187.out 4).trans rfl, (bC BK187.out 5).trans rfl, (bC BK187.out 6).trans rfl, (bC BK187.out 7).trans rfl, (bC BK187.out 8).trans rfl, (bC BK187.out 9).trans rfl, (bC BK187.out 10).trans rfl⟩ (fun hHeld => ?_)
       clear hK K
       refine norm_ (a' := ?_) ?_ ?_
       rotate_left
       ·show Act.put _ (some 25) _ = _
        simp only [Act.put, List.setIfInBounds_toArray, List.set_cons_zero, List.set_cons_succ, i64_w, i32_w]
        rfl
       refine one_ (i := 5) (N := some 28) #[true, true, true, true, true, true, false, true, false, false, false, false] rfl rfl (one_of HT_.out (by kernel_rfl)) (by decide) (fun K hK => ?_)
       refine goes_ Tryd.func46 (by kernel_rfl) rfl #[.string a0_1] (by rfl) rfl rfl (by first | rfl | (simp only [List.map_toArray]; rfl)) ?_
       with_reducible refine (wire_Text.calls kj6 a0_1 t194 _ A21.out).mono ?_
       rintro e w27 ⟨rfl, hb⟩
       refine ⟨_, rfl, ?_⟩
       have n0_ := q_ (Kd.R_below (by (with_reducible repeat (first | apply Kd.R_alloc | apply Kd.R_drewN | apply Kd.R_drew)); exact HO_4.out) hb)
       have n1_ := q_ (bB (g := gb187) (by (with_reducible repeat (first | refine bN ?_ _ | refine bW ?_ | refine bA ?_ _)); exact BK187.out) hb)
       have n2_ := q_ (pT (by repeat (first | (with_reducible first | exact HB.out | apply pA | apply pN | apply p1 | refine pS ?_ GE187.out) | exact HB.out)) hb)
       clear HO_4
       clear BK187
       clear HB
       have HO_4 := n0_
       have BK187 := n1_
       have HB := n2_
       clear n0_ n1_ n2_
       (try clear hb)
       (try clear hb2)
       (try clear hk)
       (try clear hi)
       obtain ⟨Ao28, co28, eo28⟩ := Kd.R_slice HO_4.out
       (first | subst eo28 | (injection eo28 with f1_ f2_ f3_; have f4_ := f1_.symm; have f5_ := f3_.symm; clear f1_ f2_ f3_; subst f4_; subst f5_))
       refine hK.out _ _ ⟨(bC BK187.out 0).trans rfl, (bC BK187.out 1).trans rfl, (bC BK187.out 2).trans rfl, (bC BK187.out 3).trans rfl, (bC BK187.out 4).trans rfl, (bC BK187.out 5).trans rfl, (bC BK187.out 6).trans rfl, (bC BK187.out 7).trans rfl, (bC BK187.out 8).trans rfl, (bC BK187.out 9).trans rfl, (bC BK187.out 10).trans rfl⟩ (fun hHeld => ?_)
       clear hK K
       refine norm_ (a' := ?_) ?_ ?_
       rotate_left
       ·show Act.put _ (some 28) _ = _
        simp only [Act.put, List.setIfInBounds_toArray, List.set_cons_zero, List.set_cons_succ, i64_w, i32_w]
        rfl
       refine pure_ (i := 6) (N := some 29) (v := ?_) (a' := ?_) #[true, true, true, true, true, true, true, true, false, false, false, false] rfl rfl (any_of HT_.out (by kernel_rfl)) (fun _ _ _ h => h) (Or.inl ⟨by rfl, ?_⟩) ?_ ?_
       rotate_left
       ·intro w'
        go_simp
        with_reducible rfl
       rotate_left
       ·simp only [Act.put, List.setIfInBounds_toArray, List.set_cons_zero, List.set_cons_succ, i64_w, i32_w]
        rfl
       refine one_ (i := 8) (N := some 31) #[true, true, true, true, true, true, true, true, true, false, false, false] rfl rfl (one_of HT_.out (by kernel_rfl)) (by decide) (fun K hK => ?_)
       refine goes_ Tryd.func47 (by kernel_rfl) rfl #[.slice Ao28 t188.length co28] (by rfl) rfl rfl (by first | rfl | (simp only [List.map_toArray]; rfl)) ?_
       with_reducible refine (wire_Ints.calls kj6 _ _ t188 t195 _ ?side1 ?side2 A23.out).mono ?_
       (case side1 => repeat (first | exact (Kd.R_reads' HO_4.out).2.2 | (with_reducible refine Kd.C_alloc ?_ _) | (with_reducible refine Kd.C_drewN ?_ _) | (with_reducible refine Kd.C_drew ?_)))
       (case side2 => exact (Kd.R_reads' HO_4.out).2.1)
       rintro e w29 ⟨rfl, hb⟩
       refine ⟨_, rfl, ?_⟩
       have n0_ := q_ (Kd.R_below (by (with_reducible repeat (first | apply Kd.R_alloc | apply Kd.R_drewN | apply Kd.R_drew)); exact HO_4.out) hb)
       have n1_ := q_ (bB (g := gb187) (by (with_reducible repeat (first | refine bN ?_ _ | refine bW ?_ | refine bA ?_ _)); exact BK187.out) hb)
       have n2_ := q_ (pT (by repeat (first | (with_reducible first | exact HB.out | apply pA | apply pN | apply p1 | refine pS ?_ GE187.out) | exact HB.out)) hb)
       clear HO_4
       clear BK187
       clear HB
       have HO_4 := n0_
       have BK187 := n1_
       have HB := n2_
       clear n0_ n1_ n2_
       (try clear hb)
       (try clear hb2)
       (try clear hk)
       (try clear hi)
       refine hK.out _ _ ⟨(bC BK187.out 0).trans rfl, (bC BK187.out 1).trans rfl, (bC BK187.out 2).trans rfl, (bC BK187.out 3).trans rfl, (bC BK187.out 4).trans rfl, (bC BK187.out 5).trans rfl, (bC BK187.out 6).trans rfl, (bC BK187.out 7).trans rfl, (bC BK187.out 8).trans rfl, (bC BK187.out 9).trans rfl, (bC BK187.out 10).trans rfl⟩ (fun hHeld => ?_)
       clear hK K
       refine norm_ (a' := ?_) ?_ ?_
       rotate_left
       ·show Act.put _ (some 31) _ = _
        simp only [Act.put, List.setIfInBounds_toArray, List.set_cons_zero, List.set_cons_succ, i64_w, i32_w]
        rfl
       refine pure_ (i := 9) (N := some 32) (v := ?_) (a' := ?_) #[true, true, true, true, true, true, true, true, true, true, false, false] rfl rfl (any_of HT_.out (by kernel_rfl)) (fun _ _ _ h => h) (Or.inl ⟨by rfl, ?_⟩) ?_ ?_
       rotate_left
       ·intro w'
        go_simp
        with_reducible rfl
       rotate_left
       ·simp only [Act.put, List.setIfInBounds_toArray, List.set_cons_zero, List.set_cons_succ, i64_w, i32_w]
        rfl
       refine pure_ (i := 10) (N := some 2) (v := ?_) (a' := ?_) #[true, true, true, true, true, true, true, true, true, true, true, false] rfl rfl (any_of HT_.out (by kernel_rfl)) (fun _ _ _ h => h) (Or.inl ⟨by rfl, ?_⟩) ?_ ?_
       rotate_left
       ·intro w'
        go_simp
        with_reducible rfl
       rotate_left
       ·simp only [Act.put, List.setIfInBounds_toArray, List.set_cons_zero, List.set_cons_succ, i64_w, i32_w]
        rfl
       refine pure_ (i := 11) (N := some 3) (v := ?_) (a' := ?_) #[true, true, true, true, true, true, true, true, true, true, true, true] rfl rfl (any_of HT_.out (by kernel_rfl)) (fun _ _ _ h => h) (Or.inl ⟨by rfl, ?_⟩) ?_ ?_
       rotate_left
       ·intro w'
        go_simp
        with_reducible rfl
       rotate_left
       ·simp only [Act.put, List.setIfInBounds_toArray, List.set_cons_zero, List.set_cons_succ, i64_w, i32_w]
        rfl
       refine done_ (done_of HT_.out (by kernel_rfl)) ?_
       try go_wp2
       go_ret2
       exact ⟨by first | rfl | (simp [errW_none, errW_some] <;> rfl) | (simp only [← hji2]; first | rfl | (simp [errW_none, errW_some] <;> rfl)) | (simp [*, errW_none, errW_some] <;> rfl), by repeat (first | (with_reducible first | exact HB.out | apply pA | apply pN | apply p1 | refine pS ?_ GE187.out) | exact HB.out)⟩
      ·rw [if_neg c24] at H
       exact absurd H (by simp)
     ·rw [if_neg c22] at H
      exact absurd H (by simp)
def IsS104 (w0 W : World) (g : Nat) (f0 : ByteArray) (f1 : Int) (f2 : Int) : Prop := W.heap[g]? = some (.cells #[.string f0, .int .i64 f1, .int .i64 f2] 104 (0, 0)) ∧ w0.heap.size ≤ g
theorem IsS104.grown {w0 W : World} {g : Nat} {f0 : ByteArray} {f1 : Int} {f2 : Int} {W1 : World} {row : Option Nat} (h : IsS104 w0 W g f0 f1 f2) (hw : W.grownBy W1 row) (hne : some g ≠ row) : IsS104 w0 W1 g f0 f1 f2 := by
 obtain ⟨hb, hg⟩ := h
 exact ⟨blk_grown hb hw hne, hg⟩
theorem IsS104.kept {w0 W : World} {g : Nat} {f0 : ByteArray} {f1 : Int} {f2 : Int} {W1 : World} {S : Nat → Prop} (h : IsS104 w0 W g f0 f1 f2) (hk : Kept W W1 S) (hne : ¬ S g) : IsS104 w0 W1 g f0 f1 f2 := by
 obtain ⟨hb, hg⟩ := h
 exact ⟨blk_kept hb hk hne, hg⟩
theorem IsS104.below {w0 W : World} {g : Nat} {f0 : ByteArray} {f1 : Int} {f2 : Int} {W1 : World} (h : IsS104 w0 W g f0 f1 f2) (hw : Below W.heap.size W W1) : IsS104 w0 W1 g f0 f1 f2 := h.grown (grown_of_below hw none) (by simp)
theorem IsS104.alloc {w0 W : World} {g : Nat} {f0 : ByteArray} {f1 : Int} {f2 : Int} (h : IsS104 w0 W g f0 f1 f2) (o : Obj) : IsS104 w0 (W.alloc o) g f0 f1 f2 := h.below (pA (Below.refl _ _) o)
theorem IsS104.drewN {w0 W : World} {g : Nat} {f0 : ByteArray} {f1 : Int} {f2 : Int} (h : IsS104 w0 W g f0 f1 f2) (m : Nat) : IsS104 w0 (W.drewN m) g f0 f1 f2 := h
theorem IsS104.drew {w0 W : World} {g : Nat} {f0 : ByteArray} {f1 : Int} {f2 : Int} (h : IsS104 w0 W g f0 f1 f2) : IsS104 w0 W.drew g f0 f1 f2 := h
theorem IsS104.at_ {w0 W : World} {g : Nat} {f0 : ByteArray} {f1 : Int} {f2 : Int} {w' : World} {m : Nat} (hq : W.drewN m = w') (h : IsS104 w0 W g f0 f1 f2) : IsS104 w0 w' g f0 f1 f2 := by subst hq; exact IsS104.drewN h m
theorem IsS104.apart {w0 W : World} {g : Nat} {f0 : ByteArray} {f1 : Int} {f2 : Int} {α : Type} {d : Kd α} {e : Nat} {base : Nat} {ok : Nat → Prop} {v : Value} {xs : List α} (h : IsS104 w0 W g f0 f1 f2) (ho : d.R e W base ok v xs) (ht : ∀ q, q ∈ e :: d.E → q ≠ 104) : d.R e W base (fun k => ok k ∧ k ≠ g) v xs := by
 obtain ⟨hb, hg⟩ := h
 exact Kd.R_types ho hb ht
theorem IsS104.own_ne {w0 W : World} {g : Nat} {f0 : ByteArray} {f1 : Int} {f2 : Int} {α : Type} {d : Kd α} {e : Nat} {base : Nat} {ok : Nat → Prop} {v : Value} {xs : List α} (h : IsS104 w0 W g f0 f1 f2) (ho : d.R e W base ok v xs) (ht : e ≠ 104) : some g ≠ v.ownBlock := by
 obtain ⟨hb, hg⟩ := h
 exact Kd.R_ne ho hb ht
theorem IsS104.lt {w0 W : World} {g : Nat} {f0 : ByteArray} {f1 : Int} {f2 : Int} (h : IsS104 w0 W g f0 f1 f2) : g < W.heap.size := by
 obtain ⟨hb, hg⟩ := h
 exact blk_lt hb
theorem IsS104.ge {w0 W : World} {g : Nat} {f0 : ByteArray} {f1 : Int} {f2 : Int} (h : IsS104 w0 W g f0 f1 f2) : w0.heap.size ≤ g := by
 obtain ⟨hb, hg⟩ := h
 exact hg
theorem IsS104.ne_blk {w0 W : World} {g : Nat} {f0 : ByteArray} {f1 : Int} {f2 : Int} {a : Nat} {cs : Array Value} {t : TypeId} {fr : Nat × Nat} (h : IsS104 w0 W g f0 f1 f2) (hb2 : W.heap[a]? = some (.cells cs t fr)) (ht : t ≠ 104) : g ≠ a := by
 obtain ⟨hb, hg⟩ := h
 rintro rfl
 rw [hb] at hb2
 injection hb2 with hb2
 injection hb2 with _ ht2
 exact ht ht2.symm
theorem IsS104.far {w0 W : World} {g : Nat} {f0 : ByteArray} {f1 : Int} {f2 : Int} {p : Addr} (h : IsS104 w0 W g f0 f1 f2) (hne : g ≠ p.block) (u : Value) : IsS104 w0 (W.setCell p u) g f0 f1 f2 := by
 obtain ⟨hb, hg⟩ := h
 exact ⟨blk_far hb hne u, hg⟩
theorem cellS104_0 {W : World} {g : Nat} {f0 : ByteArray} {f1 : Int} {f2 : Int} (h : W.heap[g]? = some (.cells #[.string f0, .int .i64 f1, .int .i64 f2] 104 (0, 0))) : W.cell? ⟨g, 0, none⟩ = some (.string f0) := (bC h 0).trans rfl
theorem IsS104.set_0 {w0 W : World} {g : Nat} {f0 : ByteArray} {f1 : Int} {f2 : Int} (h : IsS104 w0 W g f0 f1 f2) (x : ByteArray) : IsS104 w0 (W.setCell ⟨g, 0, none⟩ (.string x)) g x f1 f2 := by
 obtain ⟨hb, hg⟩ := h
 exact ⟨by simpa using blk_set hb 0 (.string x), hg⟩
theorem cellS104_1 {W : World} {g : Nat} {f0 : ByteArray} {f1 : Int} {f2 : Int} (h : W.heap[g]? = some (.cells #[.string f0, .int .i64 f1, .int .i64 f2] 104 (0, 0))) : W.cell? ⟨g, 1, none⟩ = some (.int .i64 f1) := (bC h 1).trans rfl
theorem IsS104.set_1 {w0 W : World} {g : Nat} {f0 : ByteArray} {f1 : Int} {f2 : Int} (h : IsS104 w0 W g f0 f1 f2) (x : Int) : IsS104 w0 (W.setCell ⟨g, 1, none⟩ (.int .i64 x)) g f0 x f2 := by
 obtain ⟨hb, hg⟩ := h
 exact ⟨by simpa using blk_set hb 1 (.int .i64 x), hg⟩
theorem cellS104_2 {W : World} {g : Nat} {f0 : ByteArray} {f1 : Int} {f2 : Int} (h : W.heap[g]? = some (.cells #[.string f0, .int .i64 f1, .int .i64 f2] 104 (0, 0))) : W.cell? ⟨g, 2, none⟩ = some (.int .i64 f2) := (bC h 2).trans rfl
theorem IsS104.set_2 {w0 W : World} {g : Nat} {f0 : ByteArray} {f1 : Int} {f2 : Int} (h : IsS104 w0 W g f0 f1 f2) (x : Int) : IsS104 w0 (W.setCell ⟨g, 2, none⟩ (.int .i64 x)) g f0 f1 x := by
 obtain ⟨hb, hg⟩ := h
 exact ⟨by simpa using blk_set hb 2 (.int .i64 x), hg⟩
def wire_NewReader.f (a0 : ByteArray) : Option (ByteArray × Int × Int) := some (a0, 0, 0)
set_option maxHeartbeats 8000000 in
set_option maxRecDepth 100000 in
theorem wire_NewReader.calls (a0 : ByteArray) (r1 : ByteArray) (r2 : Int) (r3 : Int) (w0 w : World) (hB : Below w0.heap.size w0 w) (h : wire_NewReader.f a0 = some (r1, r2, r3)) :
  Calls Tryd.prog 51 #[.string a0] w fun e w' => ∃ g_ : Nat, e = .returned (.pointer (some ⟨g_, 0, none⟩)) ∧ IsS104 w0 w' g_ r1 r2 r3 ∧ Below w0.heap.size w0 w' ∧ Below w.heap.size w w' := by
 have hu104 := Tryd.underlying104
 have HBW := q_ (Below.refl w.heap.size w)
 have HW0 := Aside0.mk hB.size
 have HB := Aside0.mk hB
 clear hB
 have H : (some (a0, 0, 0)) = some (r1, r2, r3) := h
 clear h
 simp only [Option.some.injEq, Prod.mk.injEq] at H
 obtain ⟨rfl, rfl, rfl⟩ := H
 go_enter Tryd.func51, Tryd.ntmps51
 go_wp2_with (first | ((with_reducible refine gate_dst (N := 5) rfl ?_); refine box_event ?hg (N := 5) ?hd (cs := #[.string a0, .int .i64 0, .int .i64 0]) (t := 104) ?hr ?_; (case hd => rfl); (case hg => rfl); (case hr => first | (go_simp; done) | (go_simp; rfl)); intro gb196 hg w2 hbox hb; have n0_ := q_ (pT HBW.out hb); have n1_ := q_ (pT (by repeat (first | (with_reducible first | exact HB.out | apply pA | apply pN | apply p1) | exact HB.out)) hb); have n2_ := q_ (hbox); have n3_ := q_ ((by rw [hg]; exact (pZ (by repeat (first | (with_reducible first | exact HBW.out | apply pA | apply pN | apply p1) | exact HBW.out))) : w.heap.size ≤ gb196)); have n4_ := q_ ((Nat.le_trans HW0.out (by rw [hg]; exact (pZ (by repeat (first | (with_reducible first | exact HBW.out | apply pA | apply pN | apply p1) | exact HBW.out))) : w.heap.size ≤ gb196) : w0.heap.size ≤ gb196)); clear HBW; clear HB; have HBW := n0_; have HB := n1_; have BK196 := n2_; have GW196 := n3_; have GE196 := n4_; clear n0_ n1_ n2_ n3_ n4_; clear hb hbox hg))
 go_ret
 exact ⟨_, rfl, (show IsS104 w0 _ gb196 a0 0 0 from ⟨by (with_reducible repeat (first | refine bN ?_ _ | refine bW ?_ | refine bA ?_ _)); exact BK196.out, GE196.out⟩), by repeat (first | (with_reducible first | exact HB.out | apply pA | apply pN | apply p1 | refine pS ?_ GE196.out) | exact HB.out), by repeat (first | (with_reducible first | exact HBW.out | apply pA | apply pN | apply p1 | refine pS ?_ GW196.out) | exact HBW.out)⟩
def wire_Reader_ready.f (s0_0 : ByteArray) (s0_1 : Int) (s0_2 : Int) : Option (Bool × ByteArray × Int × Int) := some ((s0_2 == 0), s0_0, s0_1, s0_2)
set_option maxHeartbeats 8000000 in
set_option maxRecDepth 100000 in
theorem wire_Reader_ready.calls (g : Nat) (s0_0 : ByteArray) (s0_1 : Int) (s0_2 : Int) (r1 : Bool) (r2 : ByteArray) (r3 : Int) (r4 : Int) (w0 w : World) (hI : IsS104 w0 w g s0_0 s0_1 s0_2) (hB : Below w0.heap.size w0 w) (h : wire_Reader_ready.f s0_0 s0_1 s0_2 = some (r1, r2, r3, r4)) :
  Calls Tryd.prog 79 #[.pointer (some ⟨g, 0, none⟩)] w fun e w' => e = .returned (.bool r1) ∧ IsS104 w0 w' g r2 r3 r4 ∧ Below w0.heap.size w0 w' ∧ KeepBut w w' g none := by
 have HI0 := Aside0.mk hI
 have HK := q_ (KeepBut.refl w g none)
 have HL := Aside0.mk hB.size
 clear hI
 have HW0 := Aside0.mk hB.size
 have HB := Aside0.mk hB
 clear hB
 have H : (some ((s0_2 == 0), s0_0, s0_1, s0_2)) = some (r1, r2, r3, r4) := h
 clear h
 simp only [Option.some.injEq, Prod.mk.injEq] at H
 obtain ⟨rfl, rfl, rfl, rfl⟩ := H
 obtain ⟨HGz2, hgz2⟩ := HI0.out
 have hcz2_0 := cellS104_0 HGz2
 have hcz2_1 := cellS104_1 HGz2
 have hcz2_2 := cellS104_2 HGz2
 have hfz2_0 := bF HGz2 0
 have hfz2_1 := bF HGz2 1
 have hfz2_2 := bF HGz2 2
 clear HGz2 hgz2
 go_enter Tryd.func79, Tryd.ntmps79
 go_wp2
 go_ret
 exact ⟨by first | rfl | (simp [*] <;> rfl), by repeat (first | (with_reducible first | exact HI0.out | apply IsS104.alloc | apply IsS104.drewN | apply IsS104.drew | apply IsS104.set_0 | apply IsS104.set_1 | apply IsS104.set_2) | exact HI0.out), by repeat (first | (with_reducible first | exact HB.out | apply pA | apply pN | apply p1 | refine pS ?_ (IsS104.ge HI0.out)) | exact HB.out), by repeat (first | (with_reducible first | exact HK.out | apply KeepBut.set_ | apply keep_drewN | apply keep_drew | apply keep_alloc) | exact HK.out)⟩
end Go.Proofs.YtblmgmhjlbkncaaDoor.PA
namespace Go.Proofs.YtblmgmhjlbkncaaDoor.PA
open Go.RowKit Go.Proofs.YtblmgmhjlbkncaaDoorW.PrintWords Go.Proofs.YtblmgmhjlbkncaaDoorW.PrintLast Go.Proofs.YtblmgmhjlbkncaaDoorW.PrintMore
attribute [local go_sem] max2_int min2_int max_two min_two max_three min_three max_four min_four
set_option linter.unusedVariables false
set_option linter.unusedSimpArgs false
mutual
def wire_Reader_next.l0 : Nat → Int → Int → Int → Int → ByteArray → Int → Int → Option (Int × Int × Int × ByteArray × Int × Int)
 | 0, _, _, _, _, _, _, _ => none
 | k + 1, x1, x4, x5, x7, x1000, x1001, x1002 => if (wrap64 (x1 + x5)) ≥ (x1000.size : Int) then (some (0, 0, 3, x1000, x1001, x1002)) else (if 0 ≤ (wrap64 (x1 + x5)) then (if (wrap64 (x1 + x5)) < (x1000.size : Int) then (if (wrap64 (x5 + 1)) = 10 then (wire_Reader_next.j1 k x1 x4 (wrap64 (x5 + 1)) x7 (bt x1000 (wrap64 (x1 + x5))) (decide ((bt x1000 (wrap64 (x1 + x5))) > 1)) x1000 x1001 x1002) else (wire_Reader_next.j1 k x1 x4 (wrap64 (x5 + 1)) x7 (bt x1000 (wrap64 (x1 + x5))) false x1000 x1001 x1002)) else (none)) else (none))
def wire_Reader_next.j1 : Nat → Int → Int → Int → Int → Int → Bool → ByteArray → Int → Int → Option (Int × Int × Int × ByteArray × Int × Int)
 | 0, _, _, _, _, _, _, _, _, _ => none
 | k + 1, x1, x4, x5, x7, x8, x35, x1000, x1001, x1002 => if x35 = true then (some (0, 0, 5, x1000, x1001, x1002)) else (if 0 ≤ x7 then (if x8 < 128 then (if x8 = 0 then (if x5 > 1 then (some (0, 0, 5, x1000, x1001, x1002)) else (some (Go.bits .or .u64 x4 (shl .u64 (IntKind.u64.wrap (Go.bits .and .u8 x8 127)) x7), x5, 0, x1000, x1001, x1002))) else (some (Go.bits .or .u64 x4 (shl .u64 (IntKind.u64.wrap (Go.bits .and .u8 x8 127)) x7), x5, 0, x1000, x1001, x1002))) else (wire_Reader_next.l0 k x1 (Go.bits .or .u64 x4 (shl .u64 (IntKind.u64.wrap (Go.bits .and .u8 x8 127)) x7)) x5 (wrap64 (x7 + 7)) x1000 x1001 x1002)) else (none))
end
def wire_Reader_next.f (k : Nat) (s0_0 : ByteArray) (s0_1 : Int) (s0_2 : Int) (a1 : Int) : Option (Int × Int × Int × ByteArray × Int × Int) := wire_Reader_next.l0 k a1 0 0 0 s0_0 s0_1 s0_2
set_option maxHeartbeats 8000000 in
set_option maxRecDepth 100000 in
theorem wire_Reader_next.calls (k : Nat) (g : Nat) (s0_0 : ByteArray) (s0_1 : Int) (s0_2 : Int) (a1 : Int) (r1 : Int) (r2 : Int) (r3 : Int) (r4 : ByteArray) (r5 : Int) (r6 : Int) (w0 w : World) (hI : IsS104 w0 w g s0_0 s0_1 s0_2) (hB : Below w0.heap.size w0 w) (h : wire_Reader_next.f k s0_0 s0_1 s0_2 a1 = some (r1, r2, r3, r4, r5, r6)) :
  Calls Tryd.prog 96 #[.pointer (some ⟨g, 0, none⟩), .int .i64 a1] w fun e w' => e = .returned (.tuple #[.int .u64 r1, .int .i64 r2, .int .i64 r3]) ∧ IsS104 w0 w' g r4 r5 r6 ∧ Below w0.heap.size w0 w' ∧ KeepBut w w' g none := by
 have HI0 := Aside0.mk hI
 have HK := q_ (KeepBut.refl w g none)
 have HL := Aside0.mk hB.size
 clear hI
 have HW0 := Aside0.mk hB.size
 have HB := Aside0.mk hB
 clear hB
 have H : (wire_Reader_next.l0 k a1 0 0 0 s0_0 s0_1 s0_2) = some (r1, r2, r3, r4, r5, r6) := h
 clear h
 have H' := Aside0.mk H
 clear H
 go_enter Tryd.func96, Tryd.ntmps96
 go_wp2
 go_loopg [4, 5, 7] k (fun kq v4 v5 v7 w' => ∃ (x4_1 : Int) (x5_1 : Int) (x7_1 : Int), v4 = .int .u64 x4_1 ∧ v5 = .int .i64 x5_1 ∧ v7 = .int .i64 x7_1 ∧ Aside0 (wire_Reader_next.l0 kq a1 x4_1 x5_1 x7_1 s0_0 s0_1 s0_2 = some (r1, r2, r3, r4, r5, r6)) ∧ Aside0 (kq ≤ k) ∧ Aside0 (IsS104 w0 w' g s0_0 s0_1 s0_2) ∧ Aside0 (KeepBut w w' g none) ∧ Aside0 (Below w0.heap.size w0 w'))
 case atStart => exact ⟨(0), (0), (0), (by first | rfl | (simp; done) | (simp [*]; done)), (by first | rfl | (simp; done) | (simp [*]; done)), (by first | rfl | (simp; done) | (simp [*]; done)), H', ⟨Nat.le_refl _⟩, ⟨by repeat (first | (with_reducible first | exact HI0.out | apply IsS104.alloc | apply IsS104.drewN | apply IsS104.drew | apply IsS104.set_0 | apply IsS104.set_1 | apply IsS104.set_2) | exact HI0.out)⟩, ⟨by repeat (first | (with_reducible first | exact HK.out | apply KeepBut.set_ | apply keep_drewN | apply keep_drew | apply keep_alloc) | exact HK.out)⟩, ⟨by repeat (first | (with_reducible first | exact HB.out | apply pA | apply pN | apply p1 | refine pS ?_ (IsS104.ge HI0.out)) | exact HB.out)⟩⟩
 case round =>
  clear H'
  try clear p2
  obtain ⟨x4_1, x5_1, x7_1, rfl, rfl, rfl, HA, HK1, HI0, HK, HB⟩ := hrel
  cases gk with
  | zero => exact absurd HA.out (by simp [wire_Reader_next.l0])
  | succ k1 =>
   have H := HA.out
   clear HA
   simp only [wire_Reader_next.l0] at H
   by_cases c3 : (wrap64 (a1 + x5_1)) ≥ (s0_0.size : Int)
   ·rw [if_pos c3] at H
    have c3b0 : decide ((s0_0.size : Int) ≤ (wrap64 (a1 + x5_1))) = true := decide_eq_true c3
    clear c3
    simp only [Option.some.injEq, Prod.mk.injEq] at H
    obtain ⟨rfl, rfl, rfl, rfl, rfl, rfl⟩ := H
    obtain ⟨HGz4, hgz4⟩ := HI0.out
    have hcz4_0 := cellS104_0 HGz4
    have hcz4_1 := cellS104_1 HGz4
    have hcz4_2 := cellS104_2 HGz4
    have hfz4_0 := bF HGz4 0
    have hfz4_1 := bF HGz4 1
    have hfz4_2 := bF HGz4 2
    clear HGz4 hgz4
    go_wp2
    go_ret3
    exact ⟨by first | rfl | (simp [*] <;> rfl), by repeat (first | (with_reducible first | exact HI0.out | apply IsS104.alloc | apply IsS104.drewN | apply IsS104.drew | apply IsS104.set_0 | apply IsS104.set_1 | apply IsS104.set_2) | exact HI0.out), by repeat (first | (with_reducible first | exact HB.out | apply pA | apply pN | apply p1 | refine pS ?_ (IsS104.ge HI0.out)) | exact HB.out), by repeat (first | (with_reducible first | exact HK.out | apply KeepBut.set_ | apply keep_drewN | apply keep_drew | apply keep_alloc) | exact HK.out)⟩
   ·rw [if_neg c3] at H
    have c3b0 : decide ((s0_0.size : Int) ≤ (wrap64 (a1 + x5_1))) = false := decide_eq_false c3
    clear c3
    obtain ⟨ji5, hji5⟩ : ∃ j_ : Int, (wrap64 (a1 + x5_1)) = j_ := ⟨_, rfl⟩
    replace H : (if 0 ≤ (ji5) then (if (ji5) < (s0_0.size : Int) then (if (wrap64 (x5_1 + 1)) = 10 then (wire_Reader_next.j1 k1 a1 x4_1 (wrap64 (x5_1 + 1)) x7_1 (bt s0_0 (ji5)) (decide ((bt s0_0 (ji5)) > 1)) s0_0 s0_1 s0_2) else (wire_Reader_next.j1 k1 a1 x4_1 (wrap64 (x5_1 + 1)) x7_1 (bt s0_0 (ji5)) false s0_0 s0_1 s0_2)) else (none)) else (none)) = some (r1, r2, r3, r4, r5, r6) := by first | (rw [hji5] at H; exact H) | (simp only [hji5] at H ⊢; exact H)
    (try rw [hji5] at c3b0)
    have hji5w : (IntKind.i64.wrap (a1 + x5_1)) = ji5 := (i64_w _).trans hji5
    by_cases c6 : 0 ≤ (ji5)
    ·rw [if_pos c6] at H
     have c6b0 : decide (0 ≤ (ji5)) = true := decide_eq_true c6
     clear c6
     by_cases c7 : (ji5) < (s0_0.size : Int)
     ·rw [if_pos c7] at H
      have c7b0 : decide ((ji5) < (s0_0.size : Int)) = true := decide_eq_true c7
      clear c7
      have HC9 := Aside0.mk H
      clear H
      obtain ⟨HGz10, hgz10⟩ := HI0.out
      have hcz10_0 := cellS104_0 HGz10
      have hcz10_1 := cellS104_1 HGz10
      have hcz10_2 := cellS104_2 HGz10
      have hfz10_0 := bF HGz10 0
      have hfz10_1 := bF HGz10 1
      have hfz10_2 := bF HGz10 2
      clear HGz10 hgz10
      have p8 : 0 ≤ ((ji5) : Int) := of_decide_eq_true (by first | (with_reducible assumption) | assumption)
      have q8 : (ji5) < (s0_0.size : Int) := of_decide_eq_true (by first | (with_reducible assumption) | assumption)
      have hx8 := bt_at s0_0 (ji5)
      replace p8 := eq_true p8
      replace q8 := eq_true q8
      go_upto_region 7 with (fail)
      go_cut [35] (fun v35 wc => ∃ (kq : Nat) (x35_8 : Bool), v35 = .bool x35_8 ∧ Aside0 (wire_Reader_next.j1 kq a1 x4_1 (wrap64 (x5_1 + 1)) x7_1 (bt s0_0 (ji5)) x35_8 s0_0 s0_1 s0_2 = some (r1, r2, r3, r4, r5, r6)) ∧ Aside0 (kq ≤ k1) ∧ Aside0 (IsS104 w0 wc g s0_0 s0_1 s0_2) ∧ Aside0 (KeepBut w wc g none) ∧ Aside0 (Below w0.heap.size w0 wc))
      case first =>
       have H := HC9.out
       clear HC9
       by_cases c11 : (wrap64 (x5_1 + 1)) = 10
       ·rw [if_pos c11] at H
        have c11b0 : ((wrap64 (x5_1 + 1)) == 10) = true := beq_iff_eq.mpr c11
        have c11b1 : ((wrap64 (x5_1 + 1)) != 10) = false := oD c11
        clear c11
        (first | rw [c11b0] | (simp only [i64_w, i32_w]; rw [c11b0]) | skip)
        have H' := Aside0.mk H
        clear H
        go_wp2
        go_meet
        case rel => exact ⟨_, (decide ((bt s0_0 (ji5)) > 1)), (by first | rfl | (simp; done) | (simp only [← hji5] <;> (first | rfl | simp)) | (simp [*]; done)), H', ⟨by have := HK1.out; first | omega | exact Nat.le_refl _⟩, ⟨by repeat (first | (with_reducible first | exact HI0.out | apply IsS104.alloc | apply IsS104.drewN | apply IsS104.drew | apply IsS104.set_0 | apply IsS104.set_1 | apply IsS104.set_2) | exact HI0.out)⟩, ⟨by repeat (first | (with_reducible first | exact HK.out | apply KeepBut.set_ | apply keep_drewN | apply keep_drew | apply keep_alloc) | exact HK.out)⟩, ⟨by repeat (first | (with_reducible first | exact HB.out | apply pA | apply pN | apply p1 | refine pS ?_ (IsS104.ge HI0.out)) | exact HB.out)⟩⟩
       ·rw [if_neg c11] at H
        have c11b0 : ((wrap64 (x5_1 + 1)) == 10) = false := oC c11
        have c11b1 : ((wrap64 (x5_1 + 1)) != 10) = true := bne_iff_ne.mpr c11
        (first | rw [c11b0] | (simp only [i64_w, i32_w]; rw [c11b0]) | skip)
        have H' := Aside0.mk H
        clear H
        go_wp2
        go_meet
        case rel => exact ⟨_, (false), (by first | rfl | (simp; done) | (simp [*]; done)), H', ⟨by have := HK1.out; first | omega | exact Nat.le_refl _⟩, ⟨by repeat (first | (with_reducible first | exact HI0.out | apply IsS104.alloc | apply IsS104.drewN | apply IsS104.drew | apply IsS104.set_0 | apply IsS104.set_1 | apply IsS104.set_2) | exact HI0.out)⟩, ⟨by repeat (first | (with_reducible first | exact HK.out | apply KeepBut.set_ | apply keep_drewN | apply keep_drew | apply keep_alloc) | exact HK.out)⟩, ⟨by repeat (first | (with_reducible first | exact HB.out | apply pA | apply pN | apply p1 | refine pS ?_ (IsS104.ge HI0.out)) | exact HB.out)⟩⟩
      case rest =>
       clear HC9
       try clear c1
       try clear p2
       try clear c3
       try clear c3b0
       try clear c6
       try clear c6b0
       try clear p6
       try clear c7
       try clear c7b0
       try clear p8
       try clear q8
       try clear hx8
       try clear c9
       try clear c11
       try clear c11b0
       try clear c11b1
       try clear hcz10_0
       try clear hcz10_1
       try clear hcz10_2
       try clear hcz4_0
       try clear hcz4_1
       try clear hcz4_2
       try clear hfz10_0
       try clear hfz10_1
       try clear hfz10_2
       try clear hfz4_0
       try clear hfz4_1
       try clear hfz4_2
       try clear p2
       try clear p8
       try clear q8
       obtain ⟨kq, x35_8, rfl, HA, HJ8, HI0, HK, HB⟩ := hcut
       cases kq with
       | zero => exact absurd HA.out (by simp [wire_Reader_next.j1])
       | succ kj8 =>
        have H := HA.out
        clear HA
        simp only [wire_Reader_next.j1] at H
        by_cases c12 : x35_8 = true
        ·subst c12
         have H1 : (some (0, 0, 5, s0_0, s0_1, s0_2)) = some (r1, r2, r3, r4, r5, r6) := by rw [if_pos rfl] at H; exact H
         clear H
         have H := H1
         clear H1
         simp only [Option.some.injEq, Prod.mk.injEq] at H
         obtain ⟨rfl, rfl, rfl, rfl, rfl, rfl⟩ := H
         go_wp2
         go_ret3
         exact ⟨by first | rfl | (simp [errW_none, errW_some] <;> rfl) | (simp only [← hji5]; first | rfl | (simp [errW_none, errW_some] <;> rfl)) | (simp [*, errW_none, errW_some] <;> rfl), by repeat (first | (with_reducible first | exact HI0.out | apply IsS104.alloc | apply IsS104.drewN | apply IsS104.drew | apply IsS104.set_0 | apply IsS104.set_1 | apply IsS104.set_2) | exact HI0.out), by repeat (first | (with_reducible first | exact HB.out | apply pA | apply pN | apply p1 | refine pS ?_ (IsS104.ge HI0.out)) | exact HB.out), by repeat (first | (with_reducible first | exact HK.out | apply KeepBut.set_ | apply keep_drewN | apply keep_drew | apply keep_alloc) | exact HK.out)⟩
        ·replace c12 := Bool.eq_false_iff.mpr c12
         subst c12
         have H1 : (if 0 ≤ x7_1 then (if (bt s0_0 (ji5)) < 128 then (if (bt s0_0 (ji5)) = 0 then (if (wrap64 (x5_1 + 1)) > 1 then (some (0, 0, 5, s0_0, s0_1, s0_2)) else (some (Go.bits .or .u64 x4_1 (shl .u64 (IntKind.u64.wrap (Go.bits .and .u8 (bt s0_0 (ji5)) 127)) x7_1), (wrap64 (x5_1 + 1)), 0, s0_0, s0_1, s0_2))) else (some (Go.bits .or .u64 x4_1 (shl .u64 (IntKind.u64.wrap (Go.bits .and .u8 (bt s0_0 (ji5)) 127)) x7_1), (wrap64 (x5_1 + 1)), 0, s0_0, s0_1, s0_2))) else (wire_Reader_next.l0 kj8 a1 (Go.bits .or .u64 x4_1 (shl .u64 (IntKind.u64.wrap (Go.bits .and .u8 (bt s0_0 (ji5)) 127)) x7_1)) (wrap64 (x5_1 + 1)) (wrap64 (x7_1 + 7)) s0_0 s0_1 s0_2)) else (none)) = some (r1, r2, r3, r4, r5, r6) := by rw [if_neg (show ¬ (false = true) by decide)] at H; exact H
         clear H
         have H := H1
         clear H1
         by_cases c13 : 0 ≤ x7_1
         ·rw [if_pos c13] at H
          have c13b0 := eq_true c13
          have c13b1 : decide (0 ≤ x7_1) = true := decide_eq_true c13
          clear c13
          obtain ⟨ji14, hji14⟩ : ∃ j_ : Int, (shl .u64 (IntKind.u64.wrap (Go.bits .and .u8 (bt s0_0 (ji5)) 127)) x7_1) = j_ := ⟨_, rfl⟩
          replace H : (if (bt s0_0 (ji5)) < 128 then (if (bt s0_0 (ji5)) = 0 then (if (wrap64 (x5_1 + 1)) > 1 then (some (0, 0, 5, s0_0, s0_1, s0_2)) else (some (Go.bits .or .u64 x4_1 (ji14), (wrap64 (x5_1 + 1)), 0, s0_0, s0_1, s0_2))) else (some (Go.bits .or .u64 x4_1 (ji14), (wrap64 (x5_1 + 1)), 0, s0_0, s0_1, s0_2))) else (wire_Reader_next.l0 kj8 a1 (Go.bits .or .u64 x4_1 (ji14)) (wrap64 (x5_1 + 1)) (wrap64 (x7_1 + 7)) s0_0 s0_1 s0_2)) = some (r1, r2, r3, r4, r5, r6) := by first | (rw [hji14] at H; exact H) | (simp only [hji14] at H ⊢; exact H)
          have hji14_ : (IntKind.u64.wrap ((IntKind.u64.wrap (Go.bits .and .u8 (bt s0_0 (ji5)) 127)) * 2 ^ min x7_1.toNat 64)) = ji14 := hji14
          have hji14z : x7_1 ≤ 64 → (IntKind.u64.wrap ((IntKind.u64.wrap (Go.bits .and .u8 (bt s0_0 (ji5)) 127)) * 2 ^ x7_1.toNat)) = ji14 := shl_small hji14
          by_cases c15 : (bt s0_0 (ji5)) < 128
          ·rw [if_pos c15] at H
           have c15b0 : decide ((bt s0_0 (ji5)) < 128) = true := decide_eq_true c15
           clear c15
           by_cases c16 : (bt s0_0 (ji5)) = 0
           ·rw [if_pos c16] at H
            have c16b0 : ((bt s0_0 (ji5)) == 0) = true := beq_iff_eq.mpr c16
            have c16b1 : ((bt s0_0 (ji5)) != 0) = false := oD c16
            clear c16
            by_cases c17 : (wrap64 (x5_1 + 1)) > 1
            ·rw [if_pos c17] at H
             have c17b0 : decide (1 < (wrap64 (x5_1 + 1))) = true := decide_eq_true c17
             clear c17
             simp only [Option.some.injEq, Prod.mk.injEq] at H
             obtain ⟨rfl, rfl, rfl, rfl, rfl, rfl⟩ := H
             go_wp2
             go_ret3
             exact ⟨by first | rfl | (simp [errW_none, errW_some] <;> rfl) | (simp only [← hji5, ← hji14]; first | rfl | (simp [errW_none, errW_some] <;> rfl)) | (simp [*, errW_none, errW_some] <;> rfl), by repeat (first | (with_reducible first | exact HI0.out | apply IsS104.alloc | apply IsS104.drewN | apply IsS104.drew | apply IsS104.set_0 | apply IsS104.set_1 | apply IsS104.set_2) | exact HI0.out), by repeat (first | (with_reducible first | exact HB.out | apply pA | apply pN | apply p1 | refine pS ?_ (IsS104.ge HI0.out)) | exact HB.out), by repeat (first | (with_reducible first | exact HK.out | apply KeepBut.set_ | apply keep_drewN | apply keep_drew | apply keep_alloc) | exact HK.out)⟩
            ·rw [if_neg c17] at H
             have c17b0 : decide (1 < (wrap64 (x5_1 + 1))) = false := decide_eq_false c17
             clear c17
             simp only [Option.some.injEq, Prod.mk.injEq] at H
             obtain ⟨rfl, rfl, rfl, rfl, rfl, rfl⟩ := H
             go_wp2
             go_ret3
             exact ⟨by first | rfl | (simp [errW_none, errW_some] <;> rfl) | (simp only [← hji5, ← hji14]; first | rfl | (simp [errW_none, errW_some] <;> rfl)) | (simp [*, errW_none, errW_some] <;> rfl), by repeat (first | (with_reducible first | exact HI0.out | apply IsS104.alloc | apply IsS104.drewN | apply IsS104.drew | apply IsS104.set_0 | apply IsS104.set_1 | apply IsS104.set_2) | exact HI0.out), by repeat (first | (with_reducible first | exact HB.out | apply pA | apply pN | apply p1 | refine pS ?_ (IsS104.ge HI0.out)) | exact HB.out), by repeat (first | (with_reducible first | exact HK.out | apply KeepBut.set_ | apply keep_drewN | apply keep_drew | apply keep_alloc) | exact HK.out)⟩
           ·rw [if_neg c16] at H
            have c16b0 : ((bt s0_0 (ji5)) == 0) = false := oC c16
            have c16b1 : ((bt s0_0 (ji5)) != 0) = true := bne_iff_ne.mpr c16
            simp only [Option.some.injEq, Prod.mk.injEq] at H
            obtain ⟨rfl, rfl, rfl, rfl, rfl, rfl⟩ := H
            go_wp2
            go_ret3
            exact ⟨by first | rfl | (simp [errW_none, errW_some] <;> rfl) | (simp only [← hji5, ← hji14]; first | rfl | (simp [errW_none, errW_some] <;> rfl)) | (simp [*, errW_none, errW_some] <;> rfl), by repeat (first | (with_reducible first | exact HI0.out | apply IsS104.alloc | apply IsS104.drewN | apply IsS104.drew | apply IsS104.set_0 | apply IsS104.set_1 | apply IsS104.set_2) | exact HI0.out), by repeat (first | (with_reducible first | exact HB.out | apply pA | apply pN | apply p1 | refine pS ?_ (IsS104.ge HI0.out)) | exact HB.out), by repeat (first | (with_reducible first | exact HK.out | apply KeepBut.set_ | apply keep_drewN | apply keep_drew | apply keep_alloc) | exact HK.out)⟩
          ·rw [if_neg c15] at H
           have c15b0 : decide ((bt s0_0 (ji5)) < 128) = false := decide_eq_false c15
           clear c15
           have H' := Aside0.mk H
           clear H
           go_wp2
           go_roundg kj8
           case measure => have := HK1.out; have := HJ8.out; omega
           case rel => exact ⟨(Go.bits .or .u64 x4_1 (ji14)), ((wrap64 (x5_1 + 1))), (wrap64 (x7_1 + 7)), (by first | rfl | (simp; done) | (simp only [← hji14] <;> (first | rfl | simp)) | (simp [*]; done)), (by first | rfl | (simp; done) | (simp [*]; done)), (by first | rfl | (simp; done) | (simp [*]; done)), H', ⟨by have := HK1.out; have := HJ8.out; omega⟩, ⟨by repeat (first | (with_reducible first | exact HI0.out | apply IsS104.alloc | apply IsS104.drewN | apply IsS104.drew | apply IsS104.set_0 | apply IsS104.set_1 | apply IsS104.set_2) | exact HI0.out)⟩, ⟨by repeat (first | (with_reducible first | exact HK.out | apply KeepBut.set_ | apply keep_drewN | apply keep_drew | apply keep_alloc) | exact HK.out)⟩, ⟨by repeat (first | (with_reducible first | exact HB.out | apply pA | apply pN | apply p1 | refine pS ?_ (IsS104.ge HI0.out)) | exact HB.out)⟩⟩
         ·rw [if_neg c13] at H
          exact absurd H (by simp)
     ·rw [if_neg c7] at H
      exact absurd H (by simp)
    ·rw [if_neg c6] at H
     exact absurd H (by simp)
def wire_Reader_count.f (k : Nat) (s0_0 : ByteArray) (s0_1 : Int) (s0_2 : Int) (a1 : Int) : Option (Int × Int × ByteArray × Int × Int) := (wire_Reader_next.f k s0_0 s0_1 s0_2 s0_1).bind fun bt197 => (if bt197.2.2.1 = 0 then (if a1 < 0 then (some (wrap64 (bt197.1), wrap64 (bt197.2.2.2.2.1 + bt197.2.1), bt197.2.2.2.1, bt197.2.2.2.2.1, 4)) else (if bt197.1 > (IntKind.u64.wrap (a1)) then (some (wrap64 (bt197.1), wrap64 (bt197.2.2.2.2.1 + bt197.2.1), bt197.2.2.2.1, bt197.2.2.2.2.1, 4)) else (some (wrap64 (bt197.1), wrap64 (bt197.2.2.2.2.1 + bt197.2.1), bt197.2.2.2.1, bt197.2.2.2.2.1, bt197.2.2.2.2.2)))) else (some (wrap64 (bt197.1), wrap64 (bt197.2.2.2.2.1 + bt197.2.1), bt197.2.2.2.1, bt197.2.2.2.2.1, bt197.2.2.1)))
set_option maxHeartbeats 8000000 in
set_option maxRecDepth 100000 in
theorem wire_Reader_count.calls (k : Nat) (g : Nat) (s0_0 : ByteArray) (s0_1 : Int) (s0_2 : Int) (a1 : Int) (r1 : Int) (r2 : Int) (r3 : ByteArray) (r4 : Int) (r5 : Int) (w0 w : World) (hI : IsS104 w0 w g s0_0 s0_1 s0_2) (hB : Below w0.heap.size w0 w) (h : wire_Reader_count.f k s0_0 s0_1 s0_2 a1 = some (r1, r2, r3, r4, r5)) :
  Calls Tryd.prog 80 #[.pointer (some ⟨g, 0, none⟩), .int .i64 a1] w fun e w' => e = .returned (.tuple #[.int .i64 r1, .int .i64 r2]) ∧ IsS104 w0 w' g r3 r4 r5 ∧ Below w0.heap.size w0 w' ∧ KeepBut w w' g none := by
 have HI0 := Aside0.mk hI
 have HK := q_ (KeepBut.refl w g none)
 have HL := Aside0.mk hB.size
 clear hI
 have HW0 := Aside0.mk hB.size
 have HB := Aside0.mk hB
 clear hB
 have H : ((wire_Reader_next.f k s0_0 s0_1 s0_2 s0_1).bind fun bt197 => (if bt197.2.2.1 = 0 then (if a1 < 0 then (some (wrap64 (bt197.1), wrap64 (bt197.2.2.2.2.1 + bt197.2.1), bt197.2.2.2.1, bt197.2.2.2.2.1, 4)) else (if bt197.1 > (IntKind.u64.wrap (a1)) then (some (wrap64 (bt197.1), wrap64 (bt197.2.2.2.2.1 + bt197.2.1), bt197.2.2.2.1, bt197.2.2.2.2.1, 4)) else (some (wrap64 (bt197.1), wrap64 (bt197.2.2.2.2.1 + bt197.2.1), bt197.2.2.2.1, bt197.2.2.2.2.1, bt197.2.2.2.2.2)))) else (some (wrap64 (bt197.1), wrap64 (bt197.2.2.2.2.1 + bt197.2.1), bt197.2.2.2.1, bt197.2.2.2.2.1, bt197.2.2.1)))) = some (r1, r2, r3, r4, r5) := h
 clear h
 replace H := oB H
 obtain ⟨⟨t197, t198, t199, t200, t201, t202⟩, A30, H⟩ := H
 replace H : (if t199 = 0 then (if a1 < 0 then (some (wrap64 (t197), wrap64 (t201 + t198), t200, t201, 4)) else (if t197 > (IntKind.u64.wrap (a1)) then (some (wrap64 (t197), wrap64 (t201 + t198), t200, t201, 4)) else (some (wrap64 (t197), wrap64 (t201 + t198), t200, t201, t202)))) else (some (wrap64 (t197), wrap64 (t201 + t198), t200, t201, t199))) = some (r1, r2, r3, r4, r5) := H
 have A3 := Aside0.mk A30
 clear A30
 by_cases c4 : t199 = 0
 ·rw [if_pos c4] at H
  have c4b0 : (t199 == 0) = true := beq_iff_eq.mpr c4
  have c4b1 : (t199 != 0) = false := oD c4
  clear c4
  by_cases c5 : a1 < 0
  ·rw [if_pos c5] at H
   have c5b0 : decide (a1 < 0) = true := decide_eq_true c5
   clear c5
   simp only [Option.some.injEq, Prod.mk.injEq] at H
   obtain ⟨rfl, rfl, rfl, rfl, rfl⟩ := H
   obtain ⟨HGz6, hgz6⟩ := HI0.out
   have hcz6_0 := cellS104_0 HGz6
   have hcz6_1 := cellS104_1 HGz6
   have hcz6_2 := cellS104_2 HGz6
   have hfz6_0 := bF HGz6 0
   have hfz6_1 := bF HGz6 1
   have hfz6_2 := bF HGz6 2
   clear HGz6 hgz6
   go_enter Tryd.func80, Tryd.ntmps80
   go_wp2_with (first | (go_at_call 96; (with_reducible refine (wire_Reader_next.calls k g s0_0 s0_1 s0_2 s0_1 t197 t198 t199 t200 t201 t202 w0 _ ?side1 ?side2 A3.out).mono ?_); (case side1 => repeat (first | (with_reducible first | exact HI0.out | apply IsS104.alloc | apply IsS104.drewN | apply IsS104.drew | apply IsS104.set_0 | apply IsS104.set_1 | apply IsS104.set_2) | exact HI0.out)); (case side2 => repeat (first | (with_reducible first | exact HB.out | apply pA | apply pN | apply p1 | refine pS ?_ (IsS104.ge HI0.out)) | exact HB.out)); rintro e w7 ⟨rfl, hi, hb, hk⟩; have n0_ := q_ (KeepBut.trans (by repeat (first | (with_reducible first | exact HK.out | apply KeepBut.set_ | apply keep_drewN | apply keep_drew | apply keep_alloc) | exact HK.out)) hk (.inl rfl)); have n1_ := q_ (hb); have n2_ := q_ (hi); clear HK; clear HB; clear HI0; have HK := n0_; have HB := n1_; have HI0 := n2_; clear n0_ n1_ n2_; (try clear hb); (try clear hb2); (try clear hk); (try clear hi); obtain ⟨HGz8, hgz8⟩ := HI0.out; have hcz8_0 := cellS104_0 HGz8; have hcz8_1 := cellS104_1 HGz8; have hcz8_2 := cellS104_2 HGz8; have hfz8_0 := bF HGz8 0; have hfz8_1 := bF HGz8 1; have hfz8_2 := bF HGz8 2; clear HGz8 hgz8))
   repeat (go_quiet (first | (go_at_call 96; (with_reducible refine (wire_Reader_next.calls k g s0_0 s0_1 s0_2 s0_1 t197 t198 t199 t200 t201 t202 w0 _ ?side1 ?side2 A3.out).mono ?_); (case side1 => repeat (first | (with_reducible first | exact HI0.out | apply IsS104.alloc | apply IsS104.drewN | apply IsS104.drew | apply IsS104.set_0 | apply IsS104.set_1 | apply IsS104.set_2) | exact HI0.out)); (case side2 => repeat (first | (with_reducible first | exact HB.out | apply pA | apply pN | apply p1 | refine pS ?_ (IsS104.ge HI0.out)) | exact HB.out)); rintro e w7 ⟨rfl, hi, hb, hk⟩; have n0_ := q_ (KeepBut.trans (by repeat (first | (with_reducible first | exact HK.out | apply KeepBut.set_ | apply keep_drewN | apply keep_drew | apply keep_alloc) | exact HK.out)) hk (.inl rfl)); have n1_ := q_ (hb); have n2_ := q_ (hi); clear HK; clear HB; clear HI0; have HK := n0_; have HB := n1_; have HI0 := n2_; clear n0_ n1_ n2_; (try clear hb); (try clear hb2); (try clear hk); (try clear hi); obtain ⟨HGz8, hgz8⟩ := HI0.out; have hcz8_0 := cellS104_0 HGz8; have hcz8_1 := cellS104_1 HGz8; have hcz8_2 := cellS104_2 HGz8; have hfz8_0 := bF HGz8 0; have hfz8_1 := bF HGz8 1; have hfz8_2 := bF HGz8 2; clear HGz8 hgz8)); try go_wp2_with (first | (go_at_call 96; (with_reducible refine (wire_Reader_next.calls k g s0_0 s0_1 s0_2 s0_1 t197 t198 t199 t200 t201 t202 w0 _ ?side1 ?side2 A3.out).mono ?_); (case side1 => repeat (first | (with_reducible first | exact HI0.out | apply IsS104.alloc | apply IsS104.drewN | apply IsS104.drew | apply IsS104.set_0 | apply IsS104.set_1 | apply IsS104.set_2) | exact HI0.out)); (case side2 => repeat (first | (with_reducible first | exact HB.out | apply pA | apply pN | apply p1 | refine pS ?_ (IsS104.ge HI0.out)) | exact HB.out)); rintro e w7 ⟨rfl, hi, hb, hk⟩; have n0_ := q_ (KeepBut.trans (by repeat (first | (with_reducible first | exact HK.out | apply KeepBut.set_ | apply keep_drewN | apply keep_drew | apply keep_alloc) | exact HK.out)) hk (.inl rfl)); have n1_ := q_ (hb); have n2_ := q_ (hi); clear HK; clear HB; clear HI0; have HK := n0_; have HB := n1_; have HI0 := n2_; clear n0_ n1_ n2_; (try clear hb); (try clear hb2); (try clear hk); (try clear hi); obtain ⟨HGz8, hgz8⟩ := HI0.out; have hcz8_0 := cellS104_0 HGz8; have hcz8_1 := cellS104_1 HGz8; have hcz8_2 := cellS104_2 HGz8; have hfz8_0 := bF HGz8 0; have hfz8_1 := bF HGz8 1; have hfz8_2 := bF HGz8 2; clear HGz8 hgz8)))
   go_ret2
   exact ⟨by first | rfl | (simp [*] <;> rfl), by repeat (first | (with_reducible first | exact HI0.out | apply IsS104.alloc | apply IsS104.drewN | apply IsS104.drew | apply IsS104.set_0 | apply IsS104.set_1 | apply IsS104.set_2) | exact HI0.out), by repeat (first | (with_reducible first | exact HB.out | apply pA | apply pN | apply p1 | refine pS ?_ (IsS104.ge HI0.out)) | exact HB.out), by repeat (first | (with_reducible first | exact HK.out | apply KeepBut.set_ | apply keep_drewN | apply keep_drew | apply keep_alloc) | exact HK.out)⟩
  ·rw [if_neg c5] at H
   have c5b0 : decide (a1 < 0) = false := decide_eq_false c5
   clear c5
   by_cases c9 : t197 > (IntKind.u64.wrap (a1))
   ·rw [if_pos c9] at H
    have c9b0 : decide ((IntKind.u64.wrap (a1)) < t197) = true := decide_eq_true c9
    clear c9
    simp only [Option.some.injEq, Prod.mk.injEq] at H
    obtain ⟨rfl, rfl, rfl, rfl, rfl⟩ := H
    obtain ⟨HGz10, hgz10⟩ := HI0.out
    have hcz10_0 := cellS104_0 HGz10
    have hcz10_1 := cellS104_1 HGz10
    have hcz10_2 := cellS104_2 HGz10
    have hfz10_0 := bF HGz10 0
    have hfz10_1 := bF HGz10 1
    have hfz10_2 := bF HGz10 2
    clear HGz10 hgz10
    go_enter Tryd.func80, Tryd.ntmps80
    go_wp2_with (first | (go_at_call 96; (with_reducible refine (wire_Reader_next.calls k g s0_0 s0_1 s0_2 s0_1 t197 t198 t199 t200 t201 t202 w0 _ ?side1 ?side2 A3.out).mono ?_); (case side1 => repeat (first | (with_reducible first | exact HI0.out | apply IsS104.alloc | apply IsS104.drewN | apply IsS104.drew | apply IsS104.set_0 | apply IsS104.set_1 | apply IsS104.set_2) | exact HI0.out)); (case side2 => repeat (first | (with_reducible first | exact HB.out | apply pA | apply pN | apply p1 | refine pS ?_ (IsS104.ge HI0.out)) | exact HB.out)); rintro e w11 ⟨rfl, hi, hb, hk⟩; have n0_ := q_ (KeepBut.trans (by repeat (first | (with_reducible first | exact HK.out | apply KeepBut.set_ | apply keep_drewN | apply keep_drew | apply keep_alloc) | exact HK.out)) hk (.inl rfl)); have n1_ := q_ (hb); have n2_ := q_ (hi); clear HK; clear HB; clear HI0; have HK := n0_; have HB := n1_; have HI0 := n2_; clear n0_ n1_ n2_; (try clear hb); (try clear hb2); (try clear hk); (try clear hi); obtain ⟨HGz12, hgz12⟩ := HI0.out; have hcz12_0 := cellS104_0 HGz12; have hcz12_1 := cellS104_1 HGz12; have hcz12_2 := cellS104_2 HGz12; have hfz12_0 := bF HGz12 0; have hfz12_1 := bF HGz12 1; have hfz12_2 := bF HGz12 2; clear HGz12 hgz12))
    repeat (go_quiet (first | (go_at_call 96; (with_reducible refine (wire_Reader_next.calls k g s0_0 s0_1 s0_2 s0_1 t197 t198 t199 t200 t201 t202 w0 _ ?side1 ?side2 A3.out).mono ?_); (case side1 => repeat (first | (with_reducible first | exact HI0.out | apply IsS104.alloc | apply IsS104.drewN | apply IsS104.drew | apply IsS104.set_0 | apply IsS104.set_1 | apply IsS104.set_2) | exact HI0.out)); (case side2 => repeat (first | (with_reducible first | exact HB.out | apply pA | apply pN | apply p1 | refine pS ?_ (IsS104.ge HI0.out)) | exact HB.out)); rintro e w11 ⟨rfl, hi, hb, hk⟩; have n0_ := q_ (KeepBut.trans (by repeat (first | (with_reducible first | exact HK.out | apply KeepBut.set_ | apply keep_drewN | apply keep_drew | apply keep_alloc) | exact HK.out)) hk (.inl rfl)); have n1_ := q_ (hb); have n2_ := q_ (hi); clear HK; clear HB; clear HI0; have HK := n0_; have HB := n1_; have HI0 := n2_; clear n0_ n1_ n2_; (try clear hb); (try clear hb2); (try clear hk); (try clear hi); obtain ⟨HGz12, hgz12⟩ := HI0.out; have hcz12_0 := cellS104_0 HGz12; have hcz12_1 := cellS104_1 HGz12; have hcz12_2 := cellS104_2 HGz12; have hfz12_0 := bF HGz12 0; have hfz12_1 := bF HGz12 1; have hfz12_2 := bF HGz12 2; clear HGz12 hgz12)); try go_wp2_with (first | (go_at_call 96; (with_reducible refine (wire_Reader_next.calls k g s0_0 s0_1 s0_2 s0_1 t197 t198 t199 t200 t201 t202 w0 _ ?side1 ?side2 A3.out).mono ?_); (case side1 => repeat (first | (with_reducible first | exact HI0.out | apply IsS104.alloc | apply IsS104.drewN | apply IsS104.drew | apply IsS104.set_0 | apply IsS104.set_1 | apply IsS104.set_2) | exact HI0.out)); (case side2 => repeat (first | (with_reducible first | exact HB.out | apply pA | apply pN | apply p1 | refine pS ?_ (IsS104.ge HI0.out)) | exact HB.out)); rintro e w11 ⟨rfl, hi, hb, hk⟩; have n0_ := q_ (KeepBut.trans (by repeat (first | (with_reducible first | exact HK.out | apply KeepBut.set_ | apply keep_drewN | apply keep_drew | apply keep_alloc) | exact HK.out)) hk (.inl rfl)); have n1_ := q_ (hb); have n2_ := q_ (hi); clear HK; clear HB; clear HI0; have HK := n0_; have HB := n1_; have HI0 := n2_; clear n0_ n1_ n2_; (try clear hb); (try clear hb2); (try clear hk); (try clear hi); obtain ⟨HGz12, hgz12⟩ := HI0.out; have hcz12_0 := cellS104_0 HGz12; have hcz12_1 := cellS104_1 HGz12; have hcz12_2 := cellS104_2 HGz12; have hfz12_0 := bF HGz12 0; have hfz12_1 := bF HGz12 1; have hfz12_2 := bF HGz12 2; clear HGz12 hgz12)))
    go_ret2
    exact ⟨by first | rfl | (simp [*] <;> rfl), by repeat (first | (with_reducible first | exact HI0.out | apply IsS104.alloc | apply IsS104.drewN | apply IsS104.drew | apply IsS104.set_0 | apply IsS104.set_1 | apply IsS104.set_2) | exact HI0.out), by repeat (first | (with_reducible first | exact HB.out | apply pA | apply pN | apply p1 | refine pS ?_ (IsS104.ge HI0.out)) | exact HB.out), by repeat (first | (with_reducible first | exact HK.out | apply KeepBut.set_ | apply keep_drewN | apply keep_drew | apply keep_alloc) | exact HK.out)⟩
   ·rw [if_neg c9] at H
    have c9b0 : decide ((IntKind.u64.wrap (a1)) < t197) = false := decide_eq_false c9
    clear c9
    simp only [Option.some.injEq, Prod.mk.injEq] at H
    obtain ⟨rfl, rfl, rfl, rfl, rfl⟩ := H
    obtain ⟨HGz13, hgz13⟩ := HI0.out
    have hcz13_0 := cellS104_0 HGz13
    have hcz13_1 := cellS104_1 HGz13
    have hcz13_2 := cellS104_2 HGz13
    have hfz13_0 := bF HGz13 0
    have hfz13_1 := bF HGz13 1
    have hfz13_2 := bF HGz13 2
    clear HGz13 hgz13
    go_enter Tryd.func80, Tryd.ntmps80
    go_wp2_with (first | (go_at_call 96; (with_reducible refine (wire_Reader_next.calls k g s0_0 s0_1 s0_2 s0_1 t197 t198 t199 t200 t201 t202 w0 _ ?side1 ?side2 A3.out).mono ?_); (case side1 => repeat (first | (with_reducible first | exact HI0.out | apply IsS104.alloc | apply IsS104.drewN | apply IsS104.drew | apply IsS104.set_0 | apply IsS104.set_1 | apply IsS104.set_2) | exact HI0.out)); (case side2 => repeat (first | (with_reducible first | exact HB.out | apply pA | apply pN | apply p1 | refine pS ?_ (IsS104.ge HI0.out)) | exact HB.out)); rintro e w14 ⟨rfl, hi, hb, hk⟩; have n0_ := q_ (KeepBut.trans (by repeat (first | (with_reducible first | exact HK.out | apply KeepBut.set_ | apply keep_drewN | apply keep_drew | apply keep_alloc) | exact HK.out)) hk (.inl rfl)); have n1_ := q_ (hb); have n2_ := q_ (hi); clear HK; clear HB; clear HI0; have HK := n0_; have HB := n1_; have HI0 := n2_; clear n0_ n1_ n2_; (try clear hb); (try clear hb2); (try clear hk); (try clear hi); obtain ⟨HGz15, hgz15⟩ := HI0.out; have hcz15_0 := cellS104_0 HGz15; have hcz15_1 := cellS104_1 HGz15; have hcz15_2 := cellS104_2 HGz15; have hfz15_0 := bF HGz15 0; have hfz15_1 := bF HGz15 1; have hfz15_2 := bF HGz15 2; clear HGz15 hgz15))
    repeat (go_quiet (first | (go_at_call 96; (with_reducible refine (wire_Reader_next.calls k g s0_0 s0_1 s0_2 s0_1 t197 t198 t199 t200 t201 t202 w0 _ ?side1 ?side2 A3.out).mono ?_); (case side1 => repeat (first | (with_reducible first | exact HI0.out | apply IsS104.alloc | apply IsS104.drewN | apply IsS104.drew | apply IsS104.set_0 | apply IsS104.set_1 | apply IsS104.set_2) | exact HI0.out)); (case side2 => repeat (first | (with_reducible first | exact HB.out | apply pA | apply pN | apply p1 | refine pS ?_ (IsS104.ge HI0.out)) | exact HB.out)); rintro e w14 ⟨rfl, hi, hb, hk⟩; have n0_ := q_ (KeepBut.trans (by repeat (first | (with_reducible first | exact HK.out | apply KeepBut.set_ | apply keep_drewN | apply keep_drew | apply keep_alloc) | exact HK.out)) hk (.inl rfl)); have n1_ := q_ (hb); have n2_ := q_ (hi); clear HK; clear HB; clear HI0; have HK := n0_; have HB := n1_; have HI0 := n2_; clear n0_ n1_ n2_; (try clear hb); (try clear hb2); (try clear hk); (try clear hi); obtain ⟨HGz15, hgz15⟩ := HI0.out; have hcz15_0 := cellS104_0 HGz15; have hcz15_1 := cellS104_1 HGz15; have hcz15_2 := cellS104_2 HGz15; have hfz15_0 := bF HGz15 0; have hfz15_1 := bF HGz15 1; have hfz15_2 := bF HGz15 2; clear HGz15 hgz15)); try go_wp2_with (first | (go_at_call 96; (with_reducible refine (wire_Reader_next.calls k g s0_0 s0_1 s0_2 s0_1 t197 t198 t199 t200 t201 t202 w0 _ ?side1 ?side2 A3.out).mono ?_); (case side1 => repeat (first | (with_reducible first | exact HI0.out | apply IsS104.alloc | apply IsS104.drewN | apply IsS104.drew | apply IsS104.set_0 | apply IsS104.set_1 | apply IsS104.set_2) | exact HI0.out)); (case side2 => repeat (first | (with_reducible first | exact HB.out | apply pA | apply pN | apply p1 | refine pS ?_ (IsS104.ge HI0.out)) | exact HB.out)); rintro e w14 ⟨rfl, hi, hb, hk⟩; have n0_ := q_ (KeepBut.trans (by repeat (first | (with_reducible first | exact HK.out | apply KeepBut.set_ | apply keep_drewN | apply keep_drew | apply keep_alloc) | exact HK.out)) hk (.inl rfl)); have n1_ := q_ (hb); have n2_ := q_ (hi); clear HK; clear HB; clear HI0; have HK := n0_; have HB := n1_; have HI0 := n2_; clear n0_ n1_ n2_; (try clear hb); (try clear hb2); (try clear hk); (try clear hi); obtain ⟨HGz15, hgz15⟩ := HI0.out; have hcz15_0 := cellS104_0 HGz15; have hcz15_1 := cellS104_1 HGz15; have hcz15_2 := cellS104_2 HGz15; have hfz15_0 := bF HGz15 0; have hfz15_1 := bF HGz15 1; have hfz15_2 := bF HGz15 2; clear HGz15 hgz15)))
    go_ret2
    exact ⟨by first | rfl | (simp [*] <;> rfl), by repeat (first | (with_reducible first | exact HI0.out | apply IsS104.alloc | apply IsS104.drewN | apply IsS104.drew | apply IsS104.set_0 | apply IsS104.set_1 | apply IsS104.set_2) | exact HI0.out), by repeat (first | (with_reducible first | exact HB.out | apply pA | apply pN | apply p1 | refine pS ?_ (IsS104.ge HI0.out)) | exact HB.out), by repeat (first | (with_reducible first | exact HK.out | apply KeepBut.set_ | apply keep_drewN | apply keep_drew | apply keep_alloc) | exact HK.out)⟩
 ·rw [if_neg c4] at H
  have c4b0 : (t199 == 0) = false := oC c4
  have c4b1 : (t199 != 0) = true := bne_iff_ne.mpr c4
  simp only [Option.some.injEq, Prod.mk.injEq] at H
  obtain ⟨rfl, rfl, rfl, rfl, rfl⟩ := H
  obtain ⟨HGz16, hgz16⟩ := HI0.out
  have hcz16_0 := cellS104_0 HGz16
  have hcz16_1 := cellS104_1 HGz16
  have hcz16_2 := cellS104_2 HGz16
  have hfz16_0 := bF HGz16 0
  have hfz16_1 := bF HGz16 1
  have hfz16_2 := bF HGz16 2
  clear HGz16 hgz16
  go_enter Tryd.func80, Tryd.ntmps80
  go_wp2_with (first | (go_at_call 96; (with_reducible refine (wire_Reader_next.calls k g s0_0 s0_1 s0_2 s0_1 t197 t198 t199 t200 t201 t202 w0 _ ?side1 ?side2 A3.out).mono ?_); (case side1 => repeat (first | (with_reducible first | exact HI0.out | apply IsS104.alloc | apply IsS104.drewN | apply IsS104.drew | apply IsS104.set_0 | apply IsS104.set_1 | apply IsS104.set_2) | exact HI0.out)); (case side2 => repeat (first | (with_reducible first | exact HB.out | apply pA | apply pN | apply p1 | refine pS ?_ (IsS104.ge HI0.out)) | exact HB.out)); rintro e w17 ⟨rfl, hi, hb, hk⟩; have n0_ := q_ (KeepBut.trans (by repeat (first | (with_reducible first | exact HK.out | apply KeepBut.set_ | apply keep_drewN | apply keep_drew | apply keep_alloc) | exact HK.out)) hk (.inl rfl)); have n1_ := q_ (hb); have n2_ := q_ (hi); clear HK; clear HB; clear HI0; have HK := n0_; have HB := n1_; have HI0 := n2_; clear n0_ n1_ n2_; (try clear hb); (try clear hb2); (try clear hk); (try clear hi); obtain ⟨HGz18, hgz18⟩ := HI0.out; have hcz18_0 := cellS104_0 HGz18; have hcz18_1 := cellS104_1 HGz18; have hcz18_2 := cellS104_2 HGz18; have hfz18_0 := bF HGz18 0; have hfz18_1 := bF HGz18 1; have hfz18_2 := bF HGz18 2; clear HGz18 hgz18))
  repeat (go_quiet (first | (go_at_call 96; (with_reducible refine (wire_Reader_next.calls k g s0_0 s0_1 s0_2 s0_1 t197 t198 t199 t200 t201 t202 w0 _ ?side1 ?side2 A3.out).mono ?_); (case side1 => repeat (first | (with_reducible first | exact HI0.out | apply IsS104.alloc | apply IsS104.drewN | apply IsS104.drew | apply IsS104.set_0 | apply IsS104.set_1 | apply IsS104.set_2) | exact HI0.out)); (case side2 => repeat (first | (with_reducible first | exact HB.out | apply pA | apply pN | apply p1 | refine pS ?_ (IsS104.ge HI0.out)) | exact HB.out)); rintro e w17 ⟨rfl, hi, hb, hk⟩; have n0_ := q_ (KeepBut.trans (by repeat (first | (with_reducible first | exact HK.out | apply KeepBut.set_ | apply keep_drewN | apply keep_drew | apply keep_alloc) | exact HK.out)) hk (.inl rfl)); have n1_ := q_ (hb); have n2_ := q_ (hi); clear HK; clear HB; clear HI0; have HK := n0_; have HB := n1_; have HI0 := n2_; clear n0_ n1_ n2_; (try clear hb); (try clear hb2); (try clear hk); (try clear hi); obtain ⟨HGz18, hgz18⟩ := HI0.out; have hcz18_0 := cellS104_0 HGz18; have hcz18_1 := cellS104_1 HGz18; have hcz18_2 := cellS104_2 HGz18; have hfz18_0 := bF HGz18 0; have hfz18_1 := bF HGz18 1; have hfz18_2 := bF HGz18 2; clear HGz18 hgz18)); try go_wp2_with (first | (go_at_call 96; (with_reducible refine (wire_Reader_next.calls k g s0_0 s0_1 s0_2 s0_1 t197 t198 t199 t200 t201 t202 w0 _ ?side1 ?side2 A3.out).mono ?_); (case side1 => repeat (first | (with_reducible first | exact HI0.out | apply IsS104.alloc | apply IsS104.drewN | apply IsS104.drew | apply IsS104.set_0 | apply IsS104.set_1 | apply IsS104.set_2) | exact HI0.out)); (case side2 => repeat (first | (with_reducible first | exact HB.out | apply pA | apply pN | apply p1 | refine pS ?_ (IsS104.ge HI0.out)) | exact HB.out)); rintro e w17 ⟨rfl, hi, hb, hk⟩; have n0_ := q_ (KeepBut.trans (by repeat (first | (with_reducible first | exact HK.out | apply KeepBut.set_ | apply keep_drewN | apply keep_drew | apply keep_alloc) | exact HK.out)) hk (.inl rfl)); have n1_ := q_ (hb); have n2_ := q_ (hi); clear HK; clear HB; clear HI0; have HK := n0_; have HB := n1_; have HI0 := n2_; clear n0_ n1_ n2_; (try clear hb); (try clear hb2); (try clear hk); (try clear hi); obtain ⟨HGz18, hgz18⟩ := HI0.out; have hcz18_0 := cellS104_0 HGz18; have hcz18_1 := cellS104_1 HGz18; have hcz18_2 := cellS104_2 HGz18; have hfz18_0 := bF HGz18 0; have hfz18_1 := bF HGz18 1; have hfz18_2 := bF HGz18 2; clear HGz18 hgz18)))
  go_ret2
  exact ⟨by first | rfl | (simp [*] <;> rfl), by repeat (first | (with_reducible first | exact HI0.out | apply IsS104.alloc | apply IsS104.drewN | apply IsS104.drew | apply IsS104.set_0 | apply IsS104.set_1 | apply IsS104.set_2) | exact HI0.out), by repeat (first | (with_reducible first | exact HB.out | apply pA | apply pN | apply p1 | refine pS ?_ (IsS104.ge HI0.out)) | exact HB.out), by repeat (first | (with_reducible first | exact HK.out | apply KeepBut.set_ | apply keep_drewN | apply keep_drew | apply keep_alloc) | exact HK.out)⟩
def wire_Reader_Text.j0 : Nat → Int → Int → Bool → ByteArray → Int → Int → Option (ByteArray × ByteArray × Int × Int)
 | 0, _, _, _, _, _, _ => none
 | k + 1, x5, x6, x31, x1000, x1001, x1002 => if x31 = true then (some ((⟨#[]⟩ : ByteArray), x1000, x1001, 3)) else (if x1002 = 0 then (if 0 ≤ x6 then (if x6 ≤ (wrap64 (x6 + x5)) then (if (wrap64 (x6 + x5)) ≤ (x1000.size : Int) then (some (x1000.extract (x6 : Int).toNat ((wrap64 (x6 + x5)) : Int).toNat, x1000, wrap64 (x6 + x5), x1002)) else (none)) else (none)) else (none)) else (some ((⟨#[]⟩ : ByteArray), x1000, x1001, x1002)))
def wire_Reader_Text.f (k : Nat) (s0_0 : ByteArray) (s0_1 : Int) (s0_2 : Int) (a1 : Int) : Option (ByteArray × ByteArray × Int × Int) := (wire_Reader_ready.f s0_0 s0_1 s0_2).bind fun bt203 => (if bt203.1 = true then ((wire_Reader_count.f k bt203.2.1 bt203.2.2.1 bt203.2.2.2 a1).bind fun bt207 => (if bt207.2.2.2.2 = 0 then (wire_Reader_Text.j0 k bt207.1 bt207.2.1 (decide (bt207.1 > (wrap64 ((bt207.2.2.1.size : Int) - bt207.2.1)))) bt207.2.2.1 bt207.2.2.2.1 bt207.2.2.2.2) else (wire_Reader_Text.j0 k bt207.1 bt207.2.1 false bt207.2.2.1 bt207.2.2.2.1 bt207.2.2.2.2))) else (some ((⟨#[]⟩ : ByteArray), bt203.2.1, bt203.2.2.1, bt203.2.2.2)))
set_option maxHeartbeats 8000000 in
set_option maxRecDepth 100000 in
theorem wire_Reader_Text.calls (k : Nat) (g : Nat) (s0_0 : ByteArray) (s0_1 : Int) (s0_2 : Int) (a1 : Int) (r1 : ByteArray) (r2 : ByteArray) (r3 : Int) (r4 : Int) (w0 w : World) (hI : IsS104 w0 w g s0_0 s0_1 s0_2) (hB : Below w0.heap.size w0 w) (h : wire_Reader_Text.f k s0_0 s0_1 s0_2 a1 = some (r1, r2, r3, r4)) :
  Calls Tryd.prog 52 #[.pointer (some ⟨g, 0, none⟩), .int .i64 a1] w fun e w' => e = .returned (.string r1) ∧ IsS104 w0 w' g r2 r3 r4 ∧ Below w0.heap.size w0 w' ∧ KeepBut w w' g none := by
 have HI0 := Aside0.mk hI
 have HK := q_ (KeepBut.refl w g none)
 have HL := Aside0.mk hB.size
 clear hI
 have HW0 := Aside0.mk hB.size
 have HB := Aside0.mk hB
 clear hB
 have H : ((wire_Reader_ready.f s0_0 s0_1 s0_2).bind fun bt203 => (if bt203.1 = true then ((wire_Reader_count.f k bt203.2.1 bt203.2.2.1 bt203.2.2.2 a1).bind fun bt207 => (if bt207.2.2.2.2 = 0 then (wire_Reader_Text.j0 k bt207.1 bt207.2.1 (decide (bt207.1 > (wrap64 ((bt207.2.2.1.size : Int) - bt207.2.1)))) bt207.2.2.1 bt207.2.2.2.1 bt207.2.2.2.2) else (wire_Reader_Text.j0 k bt207.1 bt207.2.1 false bt207.2.2.1 bt207.2.2.2.1 bt207.2.2.2.2))) else (some ((⟨#[]⟩ : ByteArray), bt203.2.1, bt203.2.2.1, bt203.2.2.2)))) = some (r1, r2, r3, r4) := h
 clear h
 replace H := oB H
 obtain ⟨⟨t203, t204, t205, t206⟩, A30, H⟩ := H
 replace H : (if t203 = true then ((wire_Reader_count.f k t204 t205 t206 a1).bind fun bt207 => (if bt207.2.2.2.2 = 0 then (wire_Reader_Text.j0 k bt207.1 bt207.2.1 (decide (bt207.1 > (wrap64 ((bt207.2.2.1.size : Int) - bt207.2.1)))) bt207.2.2.1 bt207.2.2.2.1 bt207.2.2.2.2) else (wire_Reader_Text.j0 k bt207.1 bt207.2.1 false bt207.2.2.1 bt207.2.2.2.1 bt207.2.2.2.2))) else (some ((⟨#[]⟩ : ByteArray), t204, t205, t206))) = some (r1, r2, r3, r4) := H
 have A3 := Aside0.mk A30
 clear A30
 by_cases c4 : t203 = true
 ·subst c4
  have H1 : ((wire_Reader_count.f k t204 t205 t206 a1).bind fun bt207 => (if bt207.2.2.2.2 = 0 then (wire_Reader_Text.j0 k bt207.1 bt207.2.1 (decide (bt207.1 > (wrap64 ((bt207.2.2.1.size : Int) - bt207.2.1)))) bt207.2.2.1 bt207.2.2.2.1 bt207.2.2.2.2) else (wire_Reader_Text.j0 k bt207.1 bt207.2.1 false bt207.2.2.1 bt207.2.2.2.1 bt207.2.2.2.2))) = some (r1, r2, r3, r4) := by rw [if_pos rfl] at H; exact H
  clear H
  have H := H1
  clear H1
  replace H := oB H
  obtain ⟨⟨t207, t208, t209, t210, t211⟩, A50, H⟩ := H
  replace H : (if t211 = 0 then (wire_Reader_Text.j0 k t207 t208 (decide (t207 > (wrap64 ((t209.size : Int) - t208)))) t209 t210 t211) else (wire_Reader_Text.j0 k t207 t208 false t209 t210 t211)) = some (r1, r2, r3, r4) := H
  have A5 := Aside0.mk A50
  clear A50
  have HC6 := Aside0.mk H
  clear H
  go_enter Tryd.func52, Tryd.ntmps52
  go_upto_region 4 with (first | (go_at_call 79; (with_reducible refine (wire_Reader_ready.calls g s0_0 s0_1 s0_2 true t204 t205 t206 w0 _ ?side1 ?side2 A3.out).mono ?_); (case side1 => repeat (first | (with_reducible first | exact HI0.out | apply IsS104.alloc | apply IsS104.drewN | apply IsS104.drew | apply IsS104.set_0 | apply IsS104.set_1 | apply IsS104.set_2) | exact HI0.out)); (case side2 => repeat (first | (with_reducible first | exact HB.out | apply pA | apply pN | apply p1 | refine pS ?_ (IsS104.ge HI0.out)) | exact HB.out)); rintro e w7 ⟨rfl, hi, hb, hk⟩; have n0_ := q_ (KeepBut.trans (by repeat (first | (with_reducible first | exact HK.out | apply KeepBut.set_ | apply keep_drewN | apply keep_drew | apply keep_alloc) | exact HK.out)) hk (.inl rfl)); have n1_ := q_ (hb); have n2_ := q_ (hi); clear HK; clear HB; clear HI0; have HK := n0_; have HB := n1_; have HI0 := n2_; clear n0_ n1_ n2_; (try clear hb); (try clear hb2); (try clear hk); (try clear hi)) | (go_at_call 80; (with_reducible refine (wire_Reader_count.calls k g t204 t205 t206 a1 t207 t208 t209 t210 t211 w0 _ ?side1 ?side2 A5.out).mono ?_); (case side1 => repeat (first | (with_reducible first | exact HI0.out | apply IsS104.alloc | apply IsS104.drewN | apply IsS104.drew | apply IsS104.set_0 | apply IsS104.set_1 | apply IsS104.set_2) | exact HI0.out)); (case side2 => repeat (first | (with_reducible first | exact HB.out | apply pA | apply pN | apply p1 | refine pS ?_ (IsS104.ge HI0.out)) | exact HB.out)); rintro e w8 ⟨rfl, hi, hb, hk⟩; have n0_ := q_ (KeepBut.trans (by repeat (first | (with_reducible first | exact HK.out | apply KeepBut.set_ | apply keep_drewN | apply keep_drew | apply keep_alloc) | exact HK.out)) hk (.inl rfl)); have n1_ := q_ (hb); have n2_ := q_ (hi); clear HK; clear HB; clear HI0; have HK := n0_; have HB := n1_; have HI0 := n2_; clear n0_ n1_ n2_; (try clear hb); (try clear hb2); (try clear hk); (try clear hi)))
  repeat (go_quiet (first | (go_at_call 79; (with_reducible refine (wire_Reader_ready.calls g s0_0 s0_1 s0_2 true t204 t205 t206 w0 _ ?side1 ?side2 A3.out).mono ?_); (case side1 => repeat (first | (with_reducible first | exact HI0.out | apply IsS104.alloc | apply IsS104.drewN | apply IsS104.drew | apply IsS104.set_0 | apply IsS104.set_1 | apply IsS104.set_2) | exact HI0.out)); (case side2 => repeat (first | (with_reducible first | exact HB.out | apply pA | apply pN | apply p1 | refine pS ?_ (IsS104.ge HI0.out)) | exact HB.out)); rintro e w7 ⟨rfl, hi, hb, hk⟩; have n0_ := q_ (KeepBut.trans (by repeat (first | (with_reducible first | exact HK.out | apply KeepBut.set_ | apply keep_drewN | apply keep_drew | apply keep_alloc) | exact HK.out)) hk (.inl rfl)); have n1_ := q_ (hb); have n2_ := q_ (hi); clear HK; clear HB; clear HI0; have HK := n0_; have HB := n1_; have HI0 := n2_; clear n0_ n1_ n2_; (try clear hb); (try clear hb2); (try clear hk); (try clear hi)) | (go_at_call 80; (with_reducible refine (wire_Reader_count.calls k g t204 t205 t206 a1 t207 t208 t209 t210 t211 w0 _ ?side1 ?side2 A5.out).mono ?_); (case side1 => repeat (first | (with_reducible first | exact HI0.out | apply IsS104.alloc | apply IsS104.drewN | apply IsS104.drew | apply IsS104.set_0 | apply IsS104.set_1 | apply IsS104.set_2) | exact HI0.out)); (case side2 => repeat (first | (with_reducible first | exact HB.out | apply pA | apply pN | apply p1 | refine pS ?_ (IsS104.ge HI0.out)) | exact HB.out)); rintro e w8 ⟨rfl, hi, hb, hk⟩; have n0_ := q_ (KeepBut.trans (by repeat (first | (with_reducible first | exact HK.out | apply KeepBut.set_ | apply keep_drewN | apply keep_drew | apply keep_alloc) | exact HK.out)) hk (.inl rfl)); have n1_ := q_ (hb); have n2_ := q_ (hi); clear HK; clear HB; clear HI0; have HK := n0_; have HB := n1_; have HI0 := n2_; clear n0_ n1_ n2_; (try clear hb); (try clear hb2); (try clear hk); (try clear hi))); go_upto_region 4 with (first | (go_at_call 79; (with_reducible refine (wire_Reader_ready.calls g s0_0 s0_1 s0_2 true t204 t205 t206 w0 _ ?side1 ?side2 A3.out).mono ?_); (case side1 => repeat (first | (with_reducible first | exact HI0.out | apply IsS104.alloc | apply IsS104.drewN | apply IsS104.drew | apply IsS104.set_0 | apply IsS104.set_1 | apply IsS104.set_2) | exact HI0.out)); (case side2 => repeat (first | (with_reducible first | exact HB.out | apply pA | apply pN | apply p1 | refine pS ?_ (IsS104.ge HI0.out)) | exact HB.out)); rintro e w7 ⟨rfl, hi, hb, hk⟩; have n0_ := q_ (KeepBut.trans (by repeat (first | (with_reducible first | exact HK.out | apply KeepBut.set_ | apply keep_drewN | apply keep_drew | apply keep_alloc) | exact HK.out)) hk (.inl rfl)); have n1_ := q_ (hb); have n2_ := q_ (hi); clear HK; clear HB; clear HI0; have HK := n0_; have HB := n1_; have HI0 := n2_; clear n0_ n1_ n2_; (try clear hb); (try clear hb2); (try clear hk); (try clear hi)) | (go_at_call 80; (with_reducible refine (wire_Reader_count.calls k g t204 t205 t206 a1 t207 t208 t209 t210 t211 w0 _ ?side1 ?side2 A5.out).mono ?_); (case side1 => repeat (first | (with_reducible first | exact HI0.out | apply IsS104.alloc | apply IsS104.drewN | apply IsS104.drew | apply IsS104.set_0 | apply IsS104.set_1 | apply IsS104.set_2) | exact HI0.out)); (case side2 => repeat (first | (with_reducible first | exact HB.out | apply pA | apply pN | apply p1 | refine pS ?_ (IsS104.ge HI0.out)) | exact HB.out)); rintro e w8 ⟨rfl, hi, hb, hk⟩; have n0_ := q_ (KeepBut.trans (by repeat (first | (with_reducible first | exact HK.out | apply KeepBut.set_ | apply keep_drewN | apply keep_drew | apply keep_alloc) | exact HK.out)) hk (.inl rfl)); have n1_ := q_ (hb); have n2_ := q_ (hi); clear HK; clear HB; clear HI0; have HK := n0_; have HB := n1_; have HI0 := n2_; clear n0_ n1_ n2_; (try clear hb); (try clear hb2); (try clear hk); (try clear hi))))
  (try simp only [Act.put, List.setIfInBounds_toArray, List.set_cons_zero, List.set_cons_succ])
  go_cut [31] (fun v31 wc => ∃ (kq : Nat) (x31_5 : Bool), v31 = .bool x31_5 ∧ Aside0 (wire_Reader_Text.j0 kq t207 t208 x31_5 t209 t210 t211 = some (r1, r2, r3, r4)) ∧ Aside0 (kq ≤ k) ∧ Aside0 (IsS104 w0 wc g t209 t210 t211) ∧ Aside0 (KeepBut w wc g none) ∧ Aside0 (Below w0.heap.size w0 wc))
  case first =>
   have H := HC6.out
   clear HC6
   by_cases c9 : t211 = 0
   ·rw [if_pos c9] at H
    have c9b0 : (t211 == 0) = true := beq_iff_eq.mpr c9
    have c9b1 : (t211 != 0) = false := oD c9
    clear c9
    (first | rw [c9b0] | (simp only [i64_w, i32_w]; rw [c9b0]) | skip)
    have H' := Aside0.mk H
    clear H
    obtain ⟨HGz10, hgz10⟩ := HI0.out
    have hcz10_0 := cellS104_0 HGz10
    have hcz10_1 := cellS104_1 HGz10
    have hcz10_2 := cellS104_2 HGz10
    have hfz10_0 := bF HGz10 0
    have hfz10_1 := bF HGz10 1
    have hfz10_2 := bF HGz10 2
    clear HGz10 hgz10
    go_wp2
    repeat (go_quiet (fail); try go_wp2)
    go_meet
    case rel => exact ⟨_, (decide (t207 > (wrap64 ((t209.size : Int) - t208)))), (by first | rfl | (simp; done) | (simp [*]; done)), H', ⟨by first | omega | exact Nat.le_refl _⟩, ⟨by repeat (first | (with_reducible first | exact HI0.out | apply IsS104.alloc | apply IsS104.drewN | apply IsS104.drew | apply IsS104.set_0 | apply IsS104.set_1 | apply IsS104.set_2) | exact HI0.out)⟩, ⟨by repeat (first | (with_reducible first | exact HK.out | apply KeepBut.set_ | apply keep_drewN | apply keep_drew | apply keep_alloc) | exact HK.out)⟩, ⟨by repeat (first | (with_reducible first | exact HB.out | apply pA | apply pN | apply p1 | refine pS ?_ (IsS104.ge HI0.out)) | exact HB.out)⟩⟩
   ·rw [if_neg c9] at H
    have c9b0 : (t211 == 0) = false := oC c9
    have c9b1 : (t211 != 0) = true := bne_iff_ne.mpr c9
    (first | rw [c9b0] | (simp only [i64_w, i32_w]; rw [c9b0]) | skip)
    have H' := Aside0.mk H
    clear H
    obtain ⟨HGz11, hgz11⟩ := HI0.out
    have hcz11_0 := cellS104_0 HGz11
    have hcz11_1 := cellS104_1 HGz11
    have hcz11_2 := cellS104_2 HGz11
    have hfz11_0 := bF HGz11 0
    have hfz11_1 := bF HGz11 1
    have hfz11_2 := bF HGz11 2
    clear HGz11 hgz11
    go_wp2
    repeat (go_quiet (fail); try go_wp2)
    go_meet
    case rel => exact ⟨_, (false), (by first | rfl | (simp; done) | (simp [*]; done)), H', ⟨by first | omega | exact Nat.le_refl _⟩, ⟨by repeat (first | (with_reducible first | exact HI0.out | apply IsS104.alloc | apply IsS104.drewN | apply IsS104.drew | apply IsS104.set_0 | apply IsS104.set_1 | apply IsS104.set_2) | exact HI0.out)⟩, ⟨by repeat (first | (with_reducible first | exact HK.out | apply KeepBut.set_ | apply keep_drewN | apply keep_drew | apply keep_alloc) | exact HK.out)⟩, ⟨by repeat (first | (with_reducible first | exact HB.out | apply pA | apply pN | apply p1 | refine pS ?_ (IsS104.ge HI0.out)) | exact HB.out)⟩⟩
  case rest =>
   clear HC6
   try clear p2
   try clear c4
   try clear c5
   try clear p6
   try clear c9
   try clear c9b0
   try clear c9b1
   try clear hcz10_0
   try clear hcz10_1
   try clear hcz10_2
   try clear hcz11_0
   try clear hcz11_1
   try clear hcz11_2
   try clear hfz10_0
   try clear hfz10_1
   try clear hfz10_2
   try clear hfz11_0
   try clear hfz11_1
   try clear hfz11_2
   obtain ⟨kq, x31_5, rfl, HA, HJ5, HI0, HK, HB⟩ := hcut
   cases kq with
   | zero => exact absurd HA.out (by simp [wire_Reader_Text.j0])
   | succ kj5 =>
    have H := HA.out
    clear HA
    simp only [wire_Reader_Text.j0] at H
    by_cases c12 : x31_5 = true
    ·subst c12
     have H1 : (some ((⟨#[]⟩ : ByteArray), t209, t210, 3)) = some (r1, r2, r3, r4) := by rw [if_pos rfl] at H; exact H
     clear H
     have H := H1
     clear H1
     simp only [Option.some.injEq, Prod.mk.injEq] at H
     obtain ⟨rfl, rfl, rfl, rfl⟩ := H
     obtain ⟨HGz13, hgz13⟩ := HI0.out
     have hcz13_0 := cellS104_0 HGz13
     have hcz13_1 := cellS104_1 HGz13
     have hcz13_2 := cellS104_2 HGz13
     have hfz13_0 := bF HGz13 0
     have hfz13_1 := bF HGz13 1
     have hfz13_2 := bF HGz13 2
     clear HGz13 hgz13
     go_wp2
     repeat (go_quiet (fail); try go_wp2)
     go_ret
     exact ⟨by first | rfl | (simp [*] <;> rfl), by repeat (first | (with_reducible first | exact HI0.out | apply IsS104.alloc | apply IsS104.drewN | apply IsS104.drew | apply IsS104.set_0 | apply IsS104.set_1 | apply IsS104.set_2) | exact HI0.out), by repeat (first | (with_reducible first | exact HB.out | apply pA | apply pN | apply p1 | refine pS ?_ (IsS104.ge HI0.out)) | exact HB.out), by repeat (first | (with_reducible first | exact HK.out | apply KeepBut.set_ | apply keep_drewN | apply keep_drew | apply keep_alloc) | exact HK.out)⟩
    ·replace c12 := Bool.eq_false_iff.mpr c12
     subst c12
     have H1 : (if t211 = 0 then (if 0 ≤ t208 then (if t208 ≤ (wrap64 (t208 + t207)) then (if (wrap64 (t208 + t207)) ≤ (t209.size : Int) then (some (t209.extract (t208 : Int).toNat ((wrap64 (t208 + t207)) : Int).toNat, t209, wrap64 (t208 + t207), t211)) else (none)) else (none)) else (none)) else (some ((⟨#[]⟩ : ByteArray), t209, t210, t211))) = some (r1, r2, r3, r4) := by rw [if_neg (show ¬ (false = true) by decide)] at H; exact H
     clear H
     have H := H1
     clear H1
     by_cases c14 : t211 = 0
     ·rw [if_pos c14] at H
      have c14b0 : (t211 == 0) = true := beq_iff_eq.mpr c14
      have c14b1 : (t211 != 0) = false := oD c14
      clear c14
      by_cases c15 : 0 ≤ t208
      ·rw [if_pos c15] at H
       have c15b0 := eq_true c15
       have c15b1 : decide (0 ≤ t208) = true := decide_eq_true c15
       clear c15
       by_cases c16 : t208 ≤ (wrap64 (t208 + t207))
       ·rw [if_pos c16] at H
        have c16b0 := eq_true c16
        have c16b1 : decide (t208 ≤ (wrap64 (t208 + t207))) = true := decide_eq_true c16
        by_cases c17 : (wrap64 (t208 + t207)) ≤ (t209.size : Int)
        ·rw [if_pos c17] at H
         have c17b0 := eq_true c17
         have c17b1 : decide ((wrap64 (t208 + t207)) ≤ (t209.size : Int)) = true := decide_eq_true c17
         simp only [Option.some.injEq, Prod.mk.injEq] at H
         obtain ⟨rfl, rfl, rfl, rfl⟩ := H
         obtain ⟨HGz18, hgz18⟩ := HI0.out
         have hcz18_0 := cellS104_0 HGz18
         have hcz18_1 := cellS104_1 HGz18
         have hcz18_2 := cellS104_2 HGz18
         have hfz18_0 := bF HGz18 0
         have hfz18_1 := bF HGz18 1
         have hfz18_2 := bF HGz18 2
         clear HGz18 hgz18
         go_wp2
         repeat (go_quiet (fail); try go_wp2)
         go_ret
         exact ⟨by first | rfl | (simp [*] <;> rfl), by repeat (first | (with_reducible first | exact HI0.out | apply IsS104.alloc | apply IsS104.drewN | apply IsS104.drew | apply IsS104.set_0 | apply IsS104.set_1 | apply IsS104.set_2) | exact HI0.out), by repeat (first | (with_reducible first | exact HB.out | apply pA | apply pN | apply p1 | refine pS ?_ (IsS104.ge HI0.out)) | exact HB.out), by repeat (first | (with_reducible first | exact HK.out | apply KeepBut.set_ | apply keep_drewN | apply keep_drew | apply keep_alloc) | exact HK.out)⟩
        ·rw [if_neg c17] at H
         exact absurd H (by simp)
       ·rw [if_neg c16] at H
        exact absurd H (by simp)
      ·rw [if_neg c15] at H
       exact absurd H (by simp)
     ·rw [if_neg c14] at H
      have c14b0 : (t211 == 0) = false := oC c14
      have c14b1 : (t211 != 0) = true := bne_iff_ne.mpr c14
      simp only [Option.some.injEq, Prod.mk.injEq] at H
      obtain ⟨rfl, rfl, rfl, rfl⟩ := H
      obtain ⟨HGz19, hgz19⟩ := HI0.out
      have hcz19_0 := cellS104_0 HGz19
      have hcz19_1 := cellS104_1 HGz19
      have hcz19_2 := cellS104_2 HGz19
      have hfz19_0 := bF HGz19 0
      have hfz19_1 := bF HGz19 1
      have hfz19_2 := bF HGz19 2
      clear HGz19 hgz19
      go_wp2
      repeat (go_quiet (fail); try go_wp2)
      go_ret
      exact ⟨by first | rfl | (simp [*] <;> rfl), by repeat (first | (with_reducible first | exact HI0.out | apply IsS104.alloc | apply IsS104.drewN | apply IsS104.drew | apply IsS104.set_0 | apply IsS104.set_1 | apply IsS104.set_2) | exact HI0.out), by repeat (first | (with_reducible first | exact HB.out | apply pA | apply pN | apply p1 | refine pS ?_ (IsS104.ge HI0.out)) | exact HB.out), by repeat (first | (with_reducible first | exact HK.out | apply KeepBut.set_ | apply keep_drewN | apply keep_drew | apply keep_alloc) | exact HK.out)⟩
 ·replace c4 := Bool.eq_false_iff.mpr c4
  subst c4
  have H1 : (some ((⟨#[]⟩ : ByteArray), t204, t205, t206)) = some (r1, r2, r3, r4) := by rw [if_neg (show ¬ (false = true) by decide)] at H; exact H
  clear H
  have H := H1
  clear H1
  simp only [Option.some.injEq, Prod.mk.injEq] at H
  obtain ⟨rfl, rfl, rfl, rfl⟩ := H
  go_enter Tryd.func52, Tryd.ntmps52
  go_wp2_with (first | (go_at_call 79; (with_reducible refine (wire_Reader_ready.calls g s0_0 s0_1 s0_2 false t204 t205 t206 w0 _ ?side1 ?side2 A3.out).mono ?_); (case side1 => repeat (first | (with_reducible first | exact HI0.out | apply IsS104.alloc | apply IsS104.drewN | apply IsS104.drew | apply IsS104.set_0 | apply IsS104.set_1 | apply IsS104.set_2) | exact HI0.out)); (case side2 => repeat (first | (with_reducible first | exact HB.out | apply pA | apply pN | apply p1 | refine pS ?_ (IsS104.ge HI0.out)) | exact HB.out)); rintro e w20 ⟨rfl, hi, hb, hk⟩; have n0_ := q_ (KeepBut.trans (by repeat (first | (with_reducible first | exact HK.out | apply KeepBut.set_ | apply keep_drewN | apply keep_drew | apply keep_alloc) | exact HK.out)) hk (.inl rfl)); have n1_ := q_ (hb); have n2_ := q_ (hi); clear HK; clear HB; clear HI0; have HK := n0_; have HB := n1_; have HI0 := n2_; clear n0_ n1_ n2_; (try clear hb); (try clear hb2); (try clear hk); (try clear hi)))
  repeat (go_quiet (first | (go_at_call 79; (with_reducible refine (wire_Reader_ready.calls g s0_0 s0_1 s0_2 false t204 t205 t206 w0 _ ?side1 ?side2 A3.out).mono ?_); (case side1 => repeat (first | (with_reducible first | exact HI0.out | apply IsS104.alloc | apply IsS104.drewN | apply IsS104.drew | apply IsS104.set_0 | apply IsS104.set_1 | apply IsS104.set_2) | exact HI0.out)); (case side2 => repeat (first | (with_reducible first | exact HB.out | apply pA | apply pN | apply p1 | refine pS ?_ (IsS104.ge HI0.out)) | exact HB.out)); rintro e w20 ⟨rfl, hi, hb, hk⟩; have n0_ := q_ (KeepBut.trans (by repeat (first | (with_reducible first | exact HK.out | apply KeepBut.set_ | apply keep_drewN | apply keep_drew | apply keep_alloc) | exact HK.out)) hk (.inl rfl)); have n1_ := q_ (hb); have n2_ := q_ (hi); clear HK; clear HB; clear HI0; have HK := n0_; have HB := n1_; have HI0 := n2_; clear n0_ n1_ n2_; (try clear hb); (try clear hb2); (try clear hk); (try clear hi))); try go_wp2_with (first | (go_at_call 79; (with_reducible refine (wire_Reader_ready.calls g s0_0 s0_1 s0_2 false t204 t205 t206 w0 _ ?side1 ?side2 A3.out).mono ?_); (case side1 => repeat (first | (with_reducible first | exact HI0.out | apply IsS104.alloc | apply IsS104.drewN | apply IsS104.drew | apply IsS104.set_0 | apply IsS104.set_1 | apply IsS104.set_2) | exact HI0.out)); (case side2 => repeat (first | (with_reducible first | exact HB.out | apply pA | apply pN | apply p1 | refine pS ?_ (IsS104.ge HI0.out)) | exact HB.out)); rintro e w20 ⟨rfl, hi, hb, hk⟩; have n0_ := q_ (KeepBut.trans (by repeat (first | (with_reducible first | exact HK.out | apply KeepBut.set_ | apply keep_drewN | apply keep_drew | apply keep_alloc) | exact HK.out)) hk (.inl rfl)); have n1_ := q_ (hb); have n2_ := q_ (hi); clear HK; clear HB; clear HI0; have HK := n0_; have HB := n1_; have HI0 := n2_; clear n0_ n1_ n2_; (try clear hb); (try clear hb2); (try clear hk); (try clear hi))))
  go_ret
  exact ⟨by first | rfl | (simp [*] <;> rfl), by repeat (first | (with_reducible first | exact HI0.out | apply IsS104.alloc | apply IsS104.drewN | apply IsS104.drew | apply IsS104.set_0 | apply IsS104.set_1 | apply IsS104.set_2) | exact HI0.out), by repeat (first | (with_reducible first | exact HB.out | apply pA | apply pN | apply p1 | refine pS ?_ (IsS104.ge HI0.out)) | exact HB.out), by repeat (first | (with_reducible first | exact HK.out | apply KeepBut.set_ | apply keep_drewN | apply keep_drew | apply keep_alloc) | exact HK.out)⟩
def wire_Reader_signed.f (k : Nat) (s0_0 : ByteArray) (s0_1 : Int) (s0_2 : Int) (a1 : Int) (a2 : Int) (a3 : Int) : Option (Int × Int × Int × ByteArray × Int × Int) := (wire_Reader_next.f k s0_0 s0_1 s0_2 a1).bind fun bt212 => (if bt212.2.2.1 = 0 then (if (Go.bits .xor .i64 (wrap64 (bt212.1 / 2)) (wrap64 (-(wrap64 (Go.bits .and .u64 bt212.1 1))))) < a2 then (some (0, 0, 9, bt212.2.2.2.1, bt212.2.2.2.2.1, bt212.2.2.2.2.2)) else (if (Go.bits .xor .i64 (wrap64 (bt212.1 / 2)) (wrap64 (-(wrap64 (Go.bits .and .u64 bt212.1 1))))) > a3 then (some (0, 0, 9, bt212.2.2.2.1, bt212.2.2.2.2.1, bt212.2.2.2.2.2)) else (some (Go.bits .xor .i64 (wrap64 (bt212.1 / 2)) (wrap64 (-(wrap64 (Go.bits .and .u64 bt212.1 1)))), bt212.2.1, 0, bt212.2.2.2.1, bt212.2.2.2.2.1, bt212.2.2.2.2.2)))) else (some (0, 0, bt212.2.2.1, bt212.2.2.2.1, bt212.2.2.2.2.1, bt212.2.2.2.2.2)))
set_option maxHeartbeats 8000000 in
set_option maxRecDepth 100000 in
theorem wire_Reader_signed.calls (k : Nat) (g : Nat) (s0_0 : ByteArray) (s0_1 : Int) (s0_2 : Int) (a1 : Int) (a2 : Int) (a3 : Int) (r1 : Int) (r2 : Int) (r3 : Int) (r4 : ByteArray) (r5 : Int) (r6 : Int) (w0 w : World) (hI : IsS104 w0 w g s0_0 s0_1 s0_2) (hB : Below w0.heap.size w0 w) (h : wire_Reader_signed.f k s0_0 s0_1 s0_2 a1 a2 a3 = some (r1, r2, r3, r4, r5, r6)) :
  Calls Tryd.prog 81 #[.pointer (some ⟨g, 0, none⟩), .int .i64 a1, .int .i64 a2, .int .i64 a3] w fun e w' => e = .returned (.tuple #[.int .i64 r1, .int .i64 r2, .int .i64 r3]) ∧ IsS104 w0 w' g r4 r5 r6 ∧ Below w0.heap.size w0 w' ∧ KeepBut w w' g none := by
 have HI0 := Aside0.mk hI
 have HK := q_ (KeepBut.refl w g none)
 have HL := Aside0.mk hB.size
 clear hI
 have HW0 := Aside0.mk hB.size
 have HB := Aside0.mk hB
 clear hB
 have H : ((wire_Reader_next.f k s0_0 s0_1 s0_2 a1).bind fun bt212 => (if bt212.2.2.1 = 0 then (if (Go.bits .xor .i64 (wrap64 (bt212.1 / 2)) (wrap64 (-(wrap64 (Go.bits .and .u64 bt212.1 1))))) < a2 then (some (0, 0, 9, bt212.2.2.2.1, bt212.2.2.2.2.1, bt212.2.2.2.2.2)) else (if (Go.bits .xor .i64 (wrap64 (bt212.1 / 2)) (wrap64 (-(wrap64 (Go.bits .and .u64 bt212.1 1))))) > a3 then (some (0, 0, 9, bt212.2.2.2.1, bt212.2.2.2.2.1, bt212.2.2.2.2.2)) else (some (Go.bits .xor .i64 (wrap64 (bt212.1 / 2)) (wrap64 (-(wrap64 (Go.bits .and .u64 bt212.1 1)))), bt212.2.1, 0, bt212.2.2.2.1, bt212.2.2.2.2.1, bt212.2.2.2.2.2)))) else (some (0, 0, bt212.2.2.1, bt212.2.2.2.1, bt212.2.2.2.2.1, bt212.2.2.2.2.2)))) = some (r1, r2, r3, r4, r5, r6) := h
 clear h
 replace H := oB H
 obtain ⟨⟨t212, t213, t214, t215, t216, t217⟩, A50, H⟩ := H
 replace H : (if t214 = 0 then (if (Go.bits .xor .i64 (wrap64 (t212 / 2)) (wrap64 (-(wrap64 (Go.bits .and .u64 t212 1))))) < a2 then (some (0, 0, 9, t215, t216, t217)) else (if (Go.bits .xor .i64 (wrap64 (t212 / 2)) (wrap64 (-(wrap64 (Go.bits .and .u64 t212 1))))) > a3 then (some (0, 0, 9, t215, t216, t217)) else (some (Go.bits .xor .i64 (wrap64 (t212 / 2)) (wrap64 (-(wrap64 (Go.bits .and .u64 t212 1)))), t213, 0, t215, t216, t217)))) else (some (0, 0, t214, t215, t216, t217))) = some (r1, r2, r3, r4, r5, r6) := H
 have A5 := Aside0.mk A50
 clear A50
 by_cases c6 : t214 = 0
 ·rw [if_pos c6] at H
  have c6b0 : (t214 == 0) = true := beq_iff_eq.mpr c6
  have c6b1 : (t214 != 0) = false := oD c6
  clear c6
  by_cases c7 : (Go.bits .xor .i64 (wrap64 (t212 / 2)) (wrap64 (-(wrap64 (Go.bits .and .u64 t212 1))))) < a2
  ·rw [if_pos c7] at H
   have c7b0 : decide ((Go.bits .xor .i64 (wrap64 (t212 / 2)) (wrap64 (-(wrap64 (Go.bits .and .u64 t212 1))))) < a2) = true := decide_eq_true c7
   clear c7
   simp only [Option.some.injEq, Prod.mk.injEq] at H
   obtain ⟨rfl, rfl, rfl, rfl, rfl, rfl⟩ := H
   go_enter Tryd.func81, Tryd.ntmps81
   go_wp2_with (first | ((with_reducible refine gate_callee (f := 96) rfl ?_); refine goesL_ (some 18) rfl rfl Tryd.func96 (by kernel_rfl) rfl #[.pointer (some ⟨g, 0, none⟩), .int .i64 a1] rfl (by first | rfl | (simp only [List.map_toArray]; rfl)) ?_; (with_reducible refine (wire_Reader_next.calls k g s0_0 s0_1 s0_2 a1 t212 t213 t214 t215 t216 t217 w0 _ ?side1 ?side2 A5.out).mono ?_); (case side1 => repeat (first | (with_reducible first | exact HI0.out | apply IsS104.alloc | apply IsS104.drewN | apply IsS104.drew | apply IsS104.set_0 | apply IsS104.set_1 | apply IsS104.set_2) | exact HI0.out)); (case side2 => repeat (first | (with_reducible first | exact HB.out | apply pA | apply pN | apply p1 | refine pS ?_ (IsS104.ge HI0.out)) | exact HB.out)); rintro e w8 ⟨rfl, hi, hb, hk⟩; refine ⟨_, rfl, ?_⟩; have n0_ := q_ (KeepBut.trans (by repeat (first | (with_reducible first | exact HK.out | apply KeepBut.set_ | apply keep_drewN | apply keep_drew | apply keep_alloc) | exact HK.out)) hk (.inl rfl)); have n1_ := q_ (hb); have n2_ := q_ (hi); clear HK; clear HB; clear HI0; have HK := n0_; have HB := n1_; have HI0 := n2_; clear n0_ n1_ n2_; (try clear hb); (try clear hb2); (try clear hk); (try clear hi)))
   go_ret3
   exact ⟨by first | rfl | (simp [*] <;> rfl), by repeat (first | (with_reducible first | exact HI0.out | apply IsS104.alloc | apply IsS104.drewN | apply IsS104.drew | apply IsS104.set_0 | apply IsS104.set_1 | apply IsS104.set_2) | exact HI0.out), by repeat (first | (with_reducible first | exact HB.out | apply pA | apply pN | apply p1 | refine pS ?_ (IsS104.ge HI0.out)) | exact HB.out), by repeat (first | (with_reducible first | exact HK.out | apply KeepBut.set_ | apply keep_drewN | apply keep_drew | apply keep_alloc) | exact HK.out)⟩
  ·rw [if_neg c7] at H
   have c7b0 : decide ((Go.bits .xor .i64 (wrap64 (t212 / 2)) (wrap64 (-(wrap64 (Go.bits .and .u64 t212 1))))) < a2) = false := decide_eq_false c7
   clear c7
   by_cases c9 : (Go.bits .xor .i64 (wrap64 (t212 / 2)) (wrap64 (-(wrap64 (Go.bits .and .u64 t212 1))))) > a3
   ·rw [if_pos c9] at H
    have c9b0 : decide (a3 < (Go.bits .xor .i64 (wrap64 (t212 / 2)) (wrap64 (-(wrap64 (Go.bits .and .u64 t212 1)))))) = true := decide_eq_true c9
    clear c9
    simp only [Option.some.injEq, Prod.mk.injEq] at H
    obtain ⟨rfl, rfl, rfl, rfl, rfl, rfl⟩ := H
    go_enter Tryd.func81, Tryd.ntmps81
    go_wp2_with (first | ((with_reducible refine gate_callee (f := 96) rfl ?_); refine goesL_ (some 18) rfl rfl Tryd.func96 (by kernel_rfl) rfl #[.pointer (some ⟨g, 0, none⟩), .int .i64 a1] rfl (by first | rfl | (simp only [List.map_toArray]; rfl)) ?_; (with_reducible refine (wire_Reader_next.calls k g s0_0 s0_1 s0_2 a1 t212 t213 t214 t215 t216 t217 w0 _ ?side1 ?side2 A5.out).mono ?_); (case side1 => repeat (first | (with_reducible first | exact HI0.out | apply IsS104.alloc | apply IsS104.drewN | apply IsS104.drew | apply IsS104.set_0 | apply IsS104.set_1 | apply IsS104.set_2) | exact HI0.out)); (case side2 => repeat (first | (with_reducible first | exact HB.out | apply pA | apply pN | apply p1 | refine pS ?_ (IsS104.ge HI0.out)) | exact HB.out)); rintro e w10 ⟨rfl, hi, hb, hk⟩; refine ⟨_, rfl, ?_⟩; have n0_ := q_ (KeepBut.trans (by repeat (first | (with_reducible first | exact HK.out | apply KeepBut.set_ | apply keep_drewN | apply keep_drew | apply keep_alloc) | exact HK.out)) hk (.inl rfl)); have n1_ := q_ (hb); have n2_ := q_ (hi); clear HK; clear HB; clear HI0; have HK := n0_; have HB := n1_; have HI0 := n2_; clear n0_ n1_ n2_; (try clear hb); (try clear hb2); (try clear hk); (try clear hi)))
    go_ret3
    exact ⟨by first | rfl | (simp [*] <;> rfl), by repeat (first | (with_reducible first | exact HI0.out | apply IsS104.alloc | apply IsS104.drewN | apply IsS104.drew | apply IsS104.set_0 | apply IsS104.set_1 | apply IsS104.set_2) | exact HI0.out), by repeat (first | (with_reducible first | exact HB.out | apply pA | apply pN | apply p1 | refine pS ?_ (IsS104.ge HI0.out)) | exact HB.out), by repeat (first | (with_reducible first | exact HK.out | apply KeepBut.set_ | apply keep_drewN | apply keep_drew | apply keep_alloc) | exact HK.out)⟩
   ·rw [if_neg c9] at H
    have c9b0 : decide (a3 < (Go.bits .xor .i64 (wrap64 (t212 / 2)) (wrap64 (-(wrap64 (Go.bits .and .u64 t212 1)))))) = false := decide_eq_false c9
    clear c9
    simp only [Option.some.injEq, Prod.mk.injEq] at H
    obtain ⟨rfl, rfl, rfl, rfl, rfl, rfl⟩ := H
    go_enter Tryd.func81, Tryd.ntmps81
    go_wp2_with (first | ((with_reducible refine gate_callee (f := 96) rfl ?_); refine goesL_ (some 18) rfl rfl Tryd.func96 (by kernel_rfl) rfl #[.pointer (some ⟨g, 0, none⟩), .int .i64 a1] rfl (by first | rfl | (simp only [List.map_toArray]; rfl)) ?_; (with_reducible refine (wire_Reader_next.calls k g s0_0 s0_1 s0_2 a1 t212 t213 t214 t215 t216 t217 w0 _ ?side1 ?side2 A5.out).mono ?_); (case side1 => repeat (first | (with_reducible first | exact HI0.out | apply IsS104.alloc | apply IsS104.drewN | apply IsS104.drew | apply IsS104.set_0 | apply IsS104.set_1 | apply IsS104.set_2) | exact HI0.out)); (case side2 => repeat (first | (with_reducible first | exact HB.out | apply pA | apply pN | apply p1 | refine pS ?_ (IsS104.ge HI0.out)) | exact HB.out)); rintro e w11 ⟨rfl, hi, hb, hk⟩; refine ⟨_, rfl, ?_⟩; have n0_ := q_ (KeepBut.trans (by repeat (first | (with_reducible first | exact HK.out | apply KeepBut.set_ | apply keep_drewN | apply keep_drew | apply keep_alloc) | exact HK.out)) hk (.inl rfl)); have n1_ := q_ (hb); have n2_ := q_ (hi); clear HK; clear HB; clear HI0; have HK := n0_; have HB := n1_; have HI0 := n2_; clear n0_ n1_ n2_; (try clear hb); (try clear hb2); (try clear hk); (try clear hi)))
    go_ret3
    exact ⟨by first | rfl | (simp [*] <;> rfl), by repeat (first | (with_reducible first | exact HI0.out | apply IsS104.alloc | apply IsS104.drewN | apply IsS104.drew | apply IsS104.set_0 | apply IsS104.set_1 | apply IsS104.set_2) | exact HI0.out), by repeat (first | (with_reducible first | exact HB.out | apply pA | apply pN | apply p1 | refine pS ?_ (IsS104.ge HI0.out)) | exact HB.out), by repeat (first | (with_reducible first | exact HK.out | apply KeepBut.set_ | apply keep_drewN | apply keep_drew | apply keep_alloc) | exact HK.out)⟩
 ·rw [if_neg c6] at H
  have c6b0 : (t214 == 0) = false := oC c6
  have c6b1 : (t214 != 0) = true := bne_iff_ne.mpr c6
  simp only [Option.some.injEq, Prod.mk.injEq] at H
  obtain ⟨rfl, rfl, rfl, rfl, rfl, rfl⟩ := H
  go_enter Tryd.func81, Tryd.ntmps81
  go_wp2_with (first | ((with_reducible refine gate_callee (f := 96) rfl ?_); refine goesL_ (some 18) rfl rfl Tryd.func96 (by kernel_rfl) rfl #[.pointer (some ⟨g, 0, none⟩), .int .i64 a1] rfl (by first | rfl | (simp only [List.map_toArray]; rfl)) ?_; (with_reducible refine (wire_Reader_next.calls k g s0_0 s0_1 s0_2 a1 t212 t213 t214 t215 t216 t217 w0 _ ?side1 ?side2 A5.out).mono ?_); (case side1 => repeat (first | (with_reducible first | exact HI0.out | apply IsS104.alloc | apply IsS104.drewN | apply IsS104.drew | apply IsS104.set_0 | apply IsS104.set_1 | apply IsS104.set_2) | exact HI0.out)); (case side2 => repeat (first | (with_reducible first | exact HB.out | apply pA | apply pN | apply p1 | refine pS ?_ (IsS104.ge HI0.out)) | exact HB.out)); rintro e w12 ⟨rfl, hi, hb, hk⟩; refine ⟨_, rfl, ?_⟩; have n0_ := q_ (KeepBut.trans (by repeat (first | (with_reducible first | exact HK.out | apply KeepBut.set_ | apply keep_drewN | apply keep_drew | apply keep_alloc) | exact HK.out)) hk (.inl rfl)); have n1_ := q_ (hb); have n2_ := q_ (hi); clear HK; clear HB; clear HI0; have HK := n0_; have HB := n1_; have HI0 := n2_; clear n0_ n1_ n2_; (try clear hb); (try clear hb2); (try clear hk); (try clear hi)))
  go_ret3
  exact ⟨by first | rfl | (simp [*] <;> rfl), by repeat (first | (with_reducible first | exact HI0.out | apply IsS104.alloc | apply IsS104.drewN | apply IsS104.drew | apply IsS104.set_0 | apply IsS104.set_1 | apply IsS104.set_2) | exact HI0.out), by repeat (first | (with_reducible first | exact HB.out | apply pA | apply pN | apply p1 | refine pS ?_ (IsS104.ge HI0.out)) | exact HB.out), by repeat (first | (with_reducible first | exact HK.out | apply KeepBut.set_ | apply keep_drewN | apply keep_drew | apply keep_alloc) | exact HK.out)⟩
def wire_Reader_Ints.l0 : Nat → Int → Int → Int → Int → List Int → ByteArray → Int → Int → Option (List Int × ByteArray × Int × Int)
 | 0, _, _, _, _, _, _, _, _ => none
 | k + 1, x2, x3, x9, x10, x11, x1000, x1001, x1002 => if x1002 = 0 then (if (x11.length : Int) < x9 then ((wire_Reader_signed.f k x1000 x1001 x1002 x10 x2 x3).bind fun bt227 => (if x11.length < 17592186044416 then (wire_Reader_Ints.l0 k x2 x3 x9 (wrap64 (x10 + bt227.2.1)) (x11 ++ [bt227.1]) bt227.2.2.2.1 bt227.2.2.2.2.1 bt227.2.2.1) else (none))) else (some (x11, x1000, x10, x1002))) else (some (([] : List Int), x1000, x1001, x1002))
def wire_Reader_Ints.f (k : Nat) (s0_0 : ByteArray) (s0_1 : Int) (s0_2 : Int) (a1 : Int) (a2 : Int) (a3 : Int) : Option (List Int × ByteArray × Int × Int) := (wire_Reader_ready.f s0_0 s0_1 s0_2).bind fun bt218 => (if bt218.1 = true then ((wire_Reader_count.f k bt218.2.1 bt218.2.2.1 bt218.2.2.2 a1).bind fun bt222 => (wire_Reader_Ints.l0 k a2 a3 bt222.1 bt222.2.1 ([] : List Int) bt222.2.2.1 bt222.2.2.2.1 bt222.2.2.2.2)) else (some (([] : List Int), bt218.2.1, bt218.2.2.1, bt218.2.2.2)))
set_option maxHeartbeats 8000000 in
set_option maxRecDepth 100000 in
theorem wire_Reader_Ints.calls (k : Nat) (g : Nat) (s0_0 : ByteArray) (s0_1 : Int) (s0_2 : Int) (a1 : Int) (a2 : Int) (a3 : Int) (r1 : List Int) (r2 : ByteArray) (r3 : Int) (r4 : Int) (w0 w : World) (hI : IsS104 w0 w g s0_0 s0_1 s0_2) (hB : Below w0.heap.size w0 w) (h : wire_Reader_Ints.f k s0_0 s0_1 s0_2 a1 a2 a3 = some (r1, r2, r3, r4)) :
  Calls Tryd.prog 53 #[.pointer (some ⟨g, 0, none⟩), .int .i64 a1, .int .i64 a2, .int .i64 a3] w fun e w' => ∃ v0_ : Value, e = .returned (v0_) ∧ Kd.R (Kd.int .i64) 3 w' w.heap.size (fun _ => True) v0_ r1 ∧ IsS104 w0 w' g r2 r3 r4 ∧ Below w0.heap.size w0 w' ∧ KeepBut w w' g none := by
 have HI0 := Aside0.mk hI
 have HK := q_ (KeepBut.refl w g none)
 have HL := Aside0.mk hB.size
 clear hI
 have HW0 := Aside0.mk hB.size
 have HB := Aside0.mk hB
 clear hB
 have H : ((wire_Reader_ready.f s0_0 s0_1 s0_2).bind fun bt218 => (if bt218.1 = true then ((wire_Reader_count.f k bt218.2.1 bt218.2.2.1 bt218.2.2.2 a1).bind fun bt222 => (wire_Reader_Ints.l0 k a2 a3 bt222.1 bt222.2.1 ([] : List Int) bt222.2.2.1 bt222.2.2.2.1 bt222.2.2.2.2)) else (some (([] : List Int), bt218.2.1, bt218.2.2.1, bt218.2.2.2)))) = some (r1, r2, r3, r4) := h
 clear h
 replace H := oB H
 obtain ⟨⟨t218, t219, t220, t221⟩, A50, H⟩ := H
 replace H : (if t218 = true then ((wire_Reader_count.f k t219 t220 t221 a1).bind fun bt222 => (wire_Reader_Ints.l0 k a2 a3 bt222.1 bt222.2.1 ([] : List Int) bt222.2.2.1 bt222.2.2.2.1 bt222.2.2.2.2)) else (some (([] : List Int), t219, t220, t221))) = some (r1, r2, r3, r4) := H
 have A5 := Aside0.mk A50
 clear A50
 by_cases c6 : t218 = true
 ·subst c6
  have H1 : ((wire_Reader_count.f k t219 t220 t221 a1).bind fun bt222 => (wire_Reader_Ints.l0 k a2 a3 bt222.1 bt222.2.1 ([] : List Int) bt222.2.2.1 bt222.2.2.2.1 bt222.2.2.2.2)) = some (r1, r2, r3, r4) := by rw [if_pos rfl] at H; exact H
  clear H
  have H := H1
  clear H1
  replace H := oB H
  obtain ⟨⟨t222, t223, t224, t225, t226⟩, A70, H⟩ := H
  replace H : (wire_Reader_Ints.l0 k a2 a3 t222 t223 ([] : List Int) t224 t225 t226) = some (r1, r2, r3, r4) := H
  have A7 := Aside0.mk A70
  clear A70
  have H' := Aside0.mk H
  clear H
  go_enter Tryd.func53, Tryd.ntmps53
  go_wp2_with (first | ((with_reducible refine gate_callee (f := 79) rfl ?_); refine goesL_ (some 16) rfl rfl Tryd.func79 (by kernel_rfl) rfl #[.pointer (some ⟨g, 0, none⟩)] rfl (by first | rfl | (simp only [List.map_toArray]; rfl)) ?_; (with_reducible refine (wire_Reader_ready.calls g s0_0 s0_1 s0_2 true t219 t220 t221 w0 _ ?side1 ?side2 A5.out).mono ?_); (case side1 => repeat (first | (with_reducible first | exact HI0.out | apply IsS104.alloc | apply IsS104.drewN | apply IsS104.drew | apply IsS104.set_0 | apply IsS104.set_1 | apply IsS104.set_2) | exact HI0.out)); (case side2 => repeat (first | (with_reducible first | exact HB.out | apply pA | apply pN | apply p1 | refine pS ?_ (IsS104.ge HI0.out)) | exact HB.out)); rintro e w8 ⟨rfl, hi, hb, hk⟩; refine ⟨_, rfl, ?_⟩; have n0_ := q_ (KeepBut.trans (by repeat (first | (with_reducible first | exact HK.out | apply KeepBut.set_ | apply keep_drewN | apply keep_drew | apply keep_alloc) | exact HK.out)) hk (.inl rfl)); have n1_ := q_ (hb); have n2_ := q_ (hi); clear HK; clear HB; clear HI0; have HK := n0_; have HB := n1_; have HI0 := n2_; clear n0_ n1_ n2_; (try clear hb); (try clear hb2); (try clear hk); (try clear hi)) | ((with_reducible refine gate_callee (f := 80) rfl ?_); refine goesL_ (some 21) rfl rfl Tryd.func80 (by kernel_rfl) rfl #[.pointer (some ⟨g, 0, none⟩), .int .i64 a1] rfl (by first | rfl | (simp only [List.map_toArray]; rfl)) ?_; (with_reducible refine (wire_Reader_count.calls k g t219 t220 t221 a1 t222 t223 t224 t225 t226 w0 _ ?side1 ?side2 A7.out).mono ?_); (case side1 => repeat (first | (with_reducible first | exact HI0.out | apply IsS104.alloc | apply IsS104.drewN | apply IsS104.drew | apply IsS104.set_0 | apply IsS104.set_1 | apply IsS104.set_2) | exact HI0.out)); (case side2 => repeat (first | (with_reducible first | exact HB.out | apply pA | apply pN | apply p1 | refine pS ?_ (IsS104.ge HI0.out)) | exact HB.out)); rintro e w9 ⟨rfl, hi, hb, hk⟩; refine ⟨_, rfl, ?_⟩; have n0_ := q_ (KeepBut.trans (by repeat (first | (with_reducible first | exact HK.out | apply KeepBut.set_ | apply keep_drewN | apply keep_drew | apply keep_alloc) | exact HK.out)) hk (.inl rfl)); have n1_ := q_ (hb); have n2_ := q_ (hi); clear HK; clear HB; clear HI0; have HK := n0_; have HB := n1_; have HI0 := n2_; clear n0_ n1_ n2_; (try clear hb); (try clear hb2); (try clear hk); (try clear hi)))
  go_loopg [10, 11] k (fun kq v10 v11 w' => ∃ (x10_1 : Int) (x11_1 : List Int) (x1000_1 : ByteArray) (x1001_1 : Int) (x1002_1 : Int), v10 = .int .i64 x10_1 ∧ Aside0 (wire_Reader_Ints.l0 kq a2 a3 t222 x10_1 x11_1 x1000_1 x1001_1 x1002_1 = some (r1, r2, r3, r4)) ∧ Aside0 (kq ≤ k) ∧ Aside0 (Kd.R (Kd.int .i64) 3 w' w.heap.size (fun _ => True) v11 x11_1) ∧ Aside0 (IsS104 w0 w' g x1000_1 x1001_1 x1002_1) ∧ Aside0 (KeepBut w w' g none) ∧ Aside0 (Below w0.heap.size w0 w'))
  case atStart => exact ⟨(t223), (([] : List Int)), (t224), (t225), (t226), (by first | rfl | (simp; done) | (simp [*]; done)), H', ⟨Nat.le_refl _⟩, ⟨by first | exact Kd.R_nil _ _ _ _ _ | exact Kd.N_nil _ _ _ _ _ | exact Kd.V_nil _ _ _ _ _ | exact Kd.Q_nil _ _ _ _ _ | exact Kd.S_nil _ _ _ _ _⟩, ⟨by repeat (first | (with_reducible first | exact HI0.out | apply IsS104.alloc | apply IsS104.drewN | apply IsS104.drew | apply IsS104.set_0 | apply IsS104.set_1 | apply IsS104.set_2) | exact HI0.out)⟩, ⟨by repeat (first | (with_reducible first | exact HK.out | apply KeepBut.set_ | apply keep_drewN | apply keep_drew | apply keep_alloc) | exact HK.out)⟩, ⟨by repeat (first | (with_reducible first | exact HB.out | apply pA | apply pN | apply p1 | refine pS ?_ (IsS104.ge HI0.out)) | exact HB.out)⟩⟩
  case round =>
   clear H'
   try clear p2
   try clear c5
   try clear c6
   try clear c7
   try clear c8
   obtain ⟨x10_1, x11_1, x1000_1, x1001_1, x1002_1, rfl, HA, HK1, HO_11, HI0, HK, HB⟩ := hrel
   cases gk with
   | zero => exact absurd HA.out (by simp [wire_Reader_Ints.l0])
   | succ k1 =>
    have H := HA.out
    clear HA
    simp only [wire_Reader_Ints.l0] at H
    by_cases c10 : x1002_1 = 0
    ·rw [if_pos c10] at H
     have c10b0 : (x1002_1 == 0) = true := beq_iff_eq.mpr c10
     have c10b1 : (x1002_1 != 0) = false := oD c10
     clear c10
     by_cases c11 : (x11_1.length : Int) < t222
     ·rw [if_pos c11] at H
      have c11b0 : decide ((x11_1.length : Int) < t222) = true := decide_eq_true c11
      clear c11
      replace H := oB H
      obtain ⟨⟨t227, t228, t229, t230, t231, t232⟩, A120, H⟩ := H
      replace H : (if x11_1.length < 17592186044416 then (wire_Reader_Ints.l0 k1 a2 a3 t222 (wrap64 (x10_1 + t228)) (x11_1 ++ [t227]) t230 t231 t229) else (none)) = some (r1, r2, r3, r4) := H
      have A12 := Aside0.mk A120
      clear A120
      by_cases c13 : x11_1.length < 17592186044416
      ·rw [if_pos c13] at H
       have LMc13 := Aside0.mk c13
       clear c13
       obtain ⟨y233, hy233⟩ : ∃ y_ : List Int, y_ = (x11_1 ++ [t227]) := ⟨_, rfl⟩
       replace H : (wire_Reader_Ints.l0 k1 a2 a3 t222 (wrap64 (x10_1 + t228)) y233 t230 t231 t229) = some (r1, r2, r3, r4) := by first | (rw [hy233]; with_reducible exact H) | (have H2_ := (Option.bind_some _ _).symm.trans H; rw [hy233]; with_reducible exact H2_) | (have H2_ := (Option.bind_some _ _).symm.trans H; with_reducible exact H2_) | with_reducible exact H | (rw [hy233]; exact H) | exact H
       have Ny233 := Aside0.mk hy233
       clear hy233
       have H' := Aside0.mk H
       clear H
       obtain ⟨HGz14, hgz14⟩ := HI0.out
       have hcz14_0 := cellS104_0 HGz14
       have hcz14_1 := cellS104_1 HGz14
       have hcz14_2 := cellS104_2 HGz14
       have hfz14_0 := bF HGz14 0
       have hfz14_1 := bF HGz14 1
       have hfz14_2 := bF HGz14 2
       clear HGz14 hgz14
       obtain ⟨Ao15, co15, eo15⟩ := Kd.R_slice HO_11.out
       subst eo15
       go_wp2_with (first | ((with_reducible refine gate_callee (f := 81) rfl ?_); refine goesL_ (some 40) rfl rfl Tryd.func81 (by kernel_rfl) rfl #[.pointer (some ⟨g, 0, none⟩), .int .i64 x10_1, .int .i64 a2, .int .i64 a3] rfl (by first | rfl | (simp only [List.map_toArray]; rfl)) ?_; (with_reducible refine (wire_Reader_signed.calls k1 g x1000_1 x1001_1 x1002_1 x10_1 a2 a3 t227 t228 t229 t230 t231 t232 w0 _ ?side1 ?side2 A12.out).mono ?_); (case side1 => repeat (first | (with_reducible first | exact HI0.out | apply IsS104.alloc | apply IsS104.drewN | apply IsS104.drew | apply IsS104.set_0 | apply IsS104.set_1 | apply IsS104.set_2) | exact HI0.out)); (case side2 => repeat (first | (with_reducible first | exact HB.out | apply pA | apply pN | apply p1 | refine pS ?_ (IsS104.ge HI0.out)) | exact HB.out)); rintro e w16 ⟨rfl, hi, hb, hk⟩; refine ⟨_, rfl, ?_⟩; have n0_ := q_ (Kd.R_mono (Kd.R_keep (IsS104.apart (show IsS104 w0 _ g x1000_1 x1001_1 x1002_1 from by repeat (first | (with_reducible first | exact HI0.out | apply IsS104.alloc | apply IsS104.drewN | apply IsS104.drew | apply IsS104.set_0 | apply IsS104.set_1 | apply IsS104.set_2) | exact HI0.out)) (by (with_reducible repeat (first | apply Kd.R_alloc | apply Kd.R_drewN | apply Kd.R_drew)); exact HO_11.out) (by decide)) hk (fun _ h => h.2)) (fun _ h => h.1)); have n1_ := q_ (KeepBut.trans (by repeat (first | (with_reducible first | exact HK.out | apply KeepBut.set_ | apply keep_drewN | apply keep_drew | apply keep_alloc) | exact HK.out)) hk (.inl rfl)); have n2_ := q_ (hb); have n3_ := q_ (hi); clear HO_11; clear HK; clear HB; clear HI0; have HO_11 := n0_; have HK := n1_; have HB := n2_; have HI0 := n3_; clear n0_ n1_ n2_ n3_; (try clear hb); (try clear hb2); (try clear hk); (try clear hi); obtain ⟨HGz17, hgz17⟩ := HI0.out; have hcz17_0 := cellS104_0 HGz17; have hcz17_1 := cellS104_1 HGz17; have hcz17_2 := cellS104_2 HGz17; have hfz17_0 := bF HGz17 0; have hfz17_1 := bF HGz17 1; have hfz17_2 := bF HGz17 2; clear HGz17 hgz17) | ((with_reducible refine gate_builtin (b := .append) (xs := #[.tmp 48, .tmp 50]) rfl ?_); (try (refine gate_guard (by rfl) ?_; dsimp only)); at_builtin; refine Kd.R_append (Kd.int .i64) w.heap.size rfl (.tmp 48) (.tmp 50) 52 3 (.int .i64 0) 8 rfl Tryd.underlying52 info3 rfl (by decide) (by omega) (.slice Ao15 x11_1.length co15) x11_1 t227 [.int .i64 t227] (fun _ => True) (fun _ => False) rfl (by first | (go_simp; done) | (go_simp; rfl)) ?aP (fun _ hk => hk.elim) ?aF ?aO (Below.refl _ _) ?aS ?aL ?_; (case aP => exact rfl); (case aF => exact (fun _ _ => trivial)); (case aO => exact (by (with_reducible repeat (first | apply Kd.R_alloc | apply Kd.R_drewN | apply Kd.R_drew)); exact Kd.R_mono (Kd.R_far (p := ⟨g, 2, none⟩) (IsS104.apart HI0.out HO_11.out (by decide)) (fun _ hk => hk.2) (.int .i64 t229)) (fun _ hk => trivial))); (case aS => exact (keep_size (w := w) (g := g) (row := none) (by repeat (first | (with_reducible first | exact HK.out | apply KeepBut.set_ | apply keep_drewN | apply keep_drew | apply keep_alloc) | exact HK.out)))); (case aL => have := LMc13.out; omega); intro v234 w18 ho hb hg hat; rw [← Ny233.out] at ho; have n0_ := q_ (IsS104.grown (by repeat (first | (with_reducible first | exact HI0.out | apply IsS104.alloc | apply IsS104.drewN | apply IsS104.drew | apply IsS104.set_0 | apply IsS104.set_1 | apply IsS104.set_2) | exact HI0.out)) hg (IsS104.own_ne HI0.out HO_11.out (by decide))); have n1_ := q_ (below_weaken (by repeat (first | (with_reducible first | exact HB.out | apply pA | apply pN | apply p1 | refine pS ?_ (IsS104.ge HI0.out)) | exact HB.out)) HL.out hb); have n2_ := q_ (KeepBut.trans (by repeat (first | (with_reducible first | exact HK.out | apply KeepBut.set_ | apply keep_drewN | apply keep_drew | apply keep_alloc) | exact HK.out)) (KeepBut.of_grown hg g) (Kd.R_base2 HO_11.out)); have n3_ := q_ (ho); clear HI0; clear HB; clear HK; clear HO_11; have HI0 := n0_; have HB := n1_; have HK := n2_; have HO235 := n3_; clear n0_ n1_ n2_ n3_; clear ho hb hg hat))
       go_roundg k1
       case measure => have := HK1.out; omega
       case rel => exact ⟨(wrap64 (x10_1 + t228)), (y233), (t230), (t231), (t229), (by first | rfl | (simp; done) | (simp [*]; done)), H', ⟨by have := HK1.out; omega⟩, ⟨by (with_reducible repeat (first | apply Kd.R_alloc | apply Kd.R_drewN | apply Kd.R_drew)); exact HO235.out⟩, ⟨by repeat (first | (with_reducible first | exact HI0.out | apply IsS104.alloc | apply IsS104.drewN | apply IsS104.drew | apply IsS104.set_0 | apply IsS104.set_1 | apply IsS104.set_2) | exact HI0.out)⟩, ⟨by repeat (first | (with_reducible first | exact HK.out | apply KeepBut.set_ | apply keep_drewN | apply keep_drew | apply keep_alloc) | exact HK.out)⟩, ⟨by repeat (first | (with_reducible first | exact HB.out | apply pA | apply pN | apply p1 | refine pS ?_ (IsS104.ge HI0.out)) | exact HB.out)⟩⟩
      ·rw [if_neg c13] at H
       exact absurd H (by simp)
     ·rw [if_neg c11] at H
      have c11b0 : decide ((x11_1.length : Int) < t222) = false := decide_eq_false c11
      clear c11
      simp only [Option.some.injEq, Prod.mk.injEq] at H
      obtain ⟨rfl, rfl, rfl, rfl⟩ := H
      obtain ⟨HGz19, hgz19⟩ := HI0.out
      have hcz19_0 := cellS104_0 HGz19
      have hcz19_1 := cellS104_1 HGz19
      have hcz19_2 := cellS104_2 HGz19
      have hfz19_0 := bF HGz19 0
      have hfz19_1 := bF HGz19 1
      have hfz19_2 := bF HGz19 2
      clear HGz19 hgz19
      obtain ⟨Ao20, co20, eo20⟩ := Kd.R_slice HO_11.out
      subst eo20
      go_wp2
      go_ret
      exact ⟨_, by first | rfl | (simp [*] <;> rfl), by (with_reducible repeat (first | apply Kd.R_alloc | apply Kd.R_drewN | apply Kd.R_drew)); exact Kd.R_mono (Kd.R_far (p := ⟨g, 1, none⟩) (IsS104.apart HI0.out HO_11.out (by decide)) (fun _ hk => hk.2) (.int .i64 x10_1)) (fun _ hk => trivial), by repeat (first | (with_reducible first | exact HI0.out | apply IsS104.alloc | apply IsS104.drewN | apply IsS104.drew | apply IsS104.set_0 | apply IsS104.set_1 | apply IsS104.set_2) | exact HI0.out), by repeat (first | (with_reducible first | exact HB.out | apply pA | apply pN | apply p1 | refine pS ?_ (IsS104.ge HI0.out)) | exact HB.out), by repeat (first | (with_reducible first | exact HK.out | apply KeepBut.set_ | apply keep_drewN | apply keep_drew | apply keep_alloc) | exact HK.out)⟩
    ·rw [if_neg c10] at H
     have c10b0 : (x1002_1 == 0) = false := oC c10
     have c10b1 : (x1002_1 != 0) = true := bne_iff_ne.mpr c10
     simp only [Option.some.injEq, Prod.mk.injEq] at H
     obtain ⟨rfl, rfl, rfl, rfl⟩ := H
     obtain ⟨HGz21, hgz21⟩ := HI0.out
     have hcz21_0 := cellS104_0 HGz21
     have hcz21_1 := cellS104_1 HGz21
     have hcz21_2 := cellS104_2 HGz21
     have hfz21_0 := bF HGz21 0
     have hfz21_1 := bF HGz21 1
     have hfz21_2 := bF HGz21 2
     clear HGz21 hgz21
     go_wp2
     go_ret
     exact ⟨_, by first | rfl | (simp [*] <;> rfl), by first | exact Kd.R_nil _ _ _ _ _ | exact Kd.N_nil _ _ _ _ _ | exact Kd.V_nil _ _ _ _ _ | exact Kd.Q_nil _ _ _ _ _ | exact Kd.S_nil _ _ _ _ _, by repeat (first | (with_reducible first | exact HI0.out | apply IsS104.alloc | apply IsS104.drewN | apply IsS104.drew | apply IsS104.set_0 | apply IsS104.set_1 | apply IsS104.set_2) | exact HI0.out), by repeat (first | (with_reducible first | exact HB.out | apply pA | apply pN | apply p1 | refine pS ?_ (IsS104.ge HI0.out)) | exact HB.out), by repeat (first | (with_reducible first | exact HK.out | apply KeepBut.set_ | apply keep_drewN | apply keep_drew | apply keep_alloc) | exact HK.out)⟩
 ·replace c6 := Bool.eq_false_iff.mpr c6
  subst c6
  have H1 : (some (([] : List Int), t219, t220, t221)) = some (r1, r2, r3, r4) := by rw [if_neg (show ¬ (false = true) by decide)] at H; exact H
  clear H
  have H := H1
  clear H1
  simp only [Option.some.injEq, Prod.mk.injEq] at H
  obtain ⟨rfl, rfl, rfl, rfl⟩ := H
  go_enter Tryd.func53, Tryd.ntmps53
  go_wp2_with (first | ((with_reducible refine gate_callee (f := 79) rfl ?_); refine goesL_ (some 16) rfl rfl Tryd.func79 (by kernel_rfl) rfl #[.pointer (some ⟨g, 0, none⟩)] rfl (by first | rfl | (simp only [List.map_toArray]; rfl)) ?_; (with_reducible refine (wire_Reader_ready.calls g s0_0 s0_1 s0_2 false t219 t220 t221 w0 _ ?side1 ?side2 A5.out).mono ?_); (case side1 => repeat (first | (with_reducible first | exact HI0.out | apply IsS104.alloc | apply IsS104.drewN | apply IsS104.drew | apply IsS104.set_0 | apply IsS104.set_1 | apply IsS104.set_2) | exact HI0.out)); (case side2 => repeat (first | (with_reducible first | exact HB.out | apply pA | apply pN | apply p1 | refine pS ?_ (IsS104.ge HI0.out)) | exact HB.out)); rintro e w22 ⟨rfl, hi, hb, hk⟩; refine ⟨_, rfl, ?_⟩; have n0_ := q_ (KeepBut.trans (by repeat (first | (with_reducible first | exact HK.out | apply KeepBut.set_ | apply keep_drewN | apply keep_drew | apply keep_alloc) | exact HK.out)) hk (.inl rfl)); have n1_ := q_ (hb); have n2_ := q_ (hi); clear HK; clear HB; clear HI0; have HK := n0_; have HB := n1_; have HI0 := n2_; clear n0_ n1_ n2_; (try clear hb); (try clear hb2); (try clear hk); (try clear hi)))
  go_ret
  exact ⟨_, by first | rfl | (simp [*] <;> rfl), by first | exact Kd.R_nil _ _ _ _ _ | exact Kd.N_nil _ _ _ _ _ | exact Kd.V_nil _ _ _ _ _ | exact Kd.Q_nil _ _ _ _ _ | exact Kd.S_nil _ _ _ _ _, by repeat (first | (with_reducible first | exact HI0.out | apply IsS104.alloc | apply IsS104.drewN | apply IsS104.drew | apply IsS104.set_0 | apply IsS104.set_1 | apply IsS104.set_2) | exact HI0.out), by repeat (first | (with_reducible first | exact HB.out | apply pA | apply pN | apply p1 | refine pS ?_ (IsS104.ge HI0.out)) | exact HB.out), by repeat (first | (with_reducible first | exact HK.out | apply KeepBut.set_ | apply keep_drewN | apply keep_drew | apply keep_alloc) | exact HK.out)⟩
end Go.Proofs.YtblmgmhjlbkncaaDoor.PA
