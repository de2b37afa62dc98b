/- Each Go function that the law reaches as a Lean function, and that its call comes to that function's answer. -/
import Derived.Test.YtblmgmhjlbkncaaDoorCOrderBack4
import Derived.Test.YtblmgmhjlbkncaaDoorVOrderBack
import Derived.Test.YtblmgmhjlbkncaaDoorProg
import Derived.Test.YtblmgmhjlbkncaaDoorShelf
import Derived.Below
import Derived.Deep.Draws
import Derived.Deep.AppendLies
import Derived.Maps.AppendAt
import Derived.OwnWalk
import Derived.Laws.BytesArg
import Derived.Laws.MakeOwn
import Derived.Laws.OwnMore
import Derived.Deep.OwnRows
import Derived.Tactics
import Derived.Lib.ConvBytes
import Derived.Laws.Slices
import Derived.WalkKit
import Derived.KernelRfl
import Derived.RowKit3
import Derived.Deep.LoopGhost
import Derived.Deep.QuietTactic
import Derived.BigQuiet
import Derived.WideLaws
import Derived.Deep.DeepCutAuto
import Derived.Deep.CutBlock
import Derived.Deep.RegionHeld3
import Derived.Laws.Rows
import Derived.Lib.AppendStr
import Derived.ArgAppend
import Derived.Laws.IdiomCopy
import Derived.OrdersHeld
import Derived.Laws.BitsLemmas
import Derived.RowKit
import Derived.LoopN
import Derived.Laws.EntriesVeiled
import Derived.LaidSub
import Derived.MakeChecks
import Derived.Lib.LaidTab
import Derived.Maps.OwnOps
import Derived.Maps.Views
import Derived.Maps.Keyed
import Derived.Shelf.SlicesQ.Load
import Derived.Laws.Tables
namespace Go.Proofs.YtblmgmhjlbkncaaDoor.PA
open Go.RowKit Go.Proofs.YtblmgmhjlbkncaaDoorW.PrintWords Go.Proofs.YtblmgmhjlbkncaaDoorW.PrintLast Go.Proofs.YtblmgmhjlbkncaaDoorW.PrintMore
attribute [local go_sem] max2_int min2_int max_two min_two max_three min_three max_four min_four
set_option linter.unusedVariables false
set_option linter.unusedSimpArgs false
attribute [local go_sem high] eqA23
def sawmilllaw46_OrderBack.j0 : Nat → ByteArray → Bool → Option (Bool)
 | 0, _, _ => none
 | k + 1, x1, x45 => if x45 = true then (none) else ((order_Decode.f k x1).bind fun bt506 => (if bt506.2.2.2.2.2.2.2.2.2.2.2 = 0 then ((order_Encode.f k bt506.1 bt506.2.1 bt506.2.2.1 bt506.2.2.2.1 bt506.2.2.2.2.1 bt506.2.2.2.2.2.1 bt506.2.2.2.2.2.2.1 bt506.2.2.2.2.2.2.2.1 bt506.2.2.2.2.2.2.2.2.1 bt506.2.2.2.2.2.2.2.2.2.1 bt506.2.2.2.2.2.2.2.2.2.2.1).bind fun bt519 => (if bt519.2 = 0 then (if bt519.1.toList = x1.toList then ((sawmilllaw46_awake.f).bind fun t521 => (some t521)) else (none)) else (none))) else (if bt506.2.2.2.2.2.2.2.2.2.2.2 = 5 then (if (bt506.1.toList == ([] : List UInt8) && (bt506.2.1.toList == ([] : List UInt8) && (bt506.2.2.1 == 0 && (bt506.2.2.2.1 == 0 && (bt506.2.2.2.2.1 == 0 && (bt506.2.2.2.2.2.1 == 0 && (bt506.2.2.2.2.2.2.1 == 0 && (bt506.2.2.2.2.2.2.2.1 == 0 && (bt506.2.2.2.2.2.2.2.2.1 == 0 && (bt506.2.2.2.2.2.2.2.2.2.1 == 0 && (bt506.2.2.2.2.2.2.2.2.2.2.1 == 0))))))))))) = true then ((sawmilllaw46_awake.f).bind fun t522 => (some t522)) else (none)) else (none))))
def sawmilllaw46_OrderBack.f (k : Nat) (a0_0 : ByteArray) (a0_1 : ByteArray) (a0_2 : Int) (a0_3 : Int) (a0_4 : Int) (a0_5 : Int) (a0_6 : Int) (a0_7 : Int) (a0_8 : Int) (a0_9 : Int) (a0_10 : Int) (a1 : ByteArray) : Option (Bool) := if (a1.size : Int) > 1000 then ((sawmilllaw46_awake.f).bind fun t490 => (some t490)) else ((order_Encode.f k a0_0 a0_1 a0_2 a0_3 a0_4 a0_5 a0_6 a0_7 a0_8 a0_9 a0_10).bind fun bt491 => ((order_Decode.f k bt491.1).bind fun bt493 => (if bt491.2 = 0 then (if bt493.2.2.2.2.2.2.2.2.2.2.2 = 0 then (if (!(bt493.1.toList == a0_0.toList) || (!(bt493.2.1.toList == a0_1.toList) || (!(bt493.2.2.1 == a0_2) || (!(bt493.2.2.2.1 == a0_3) || (!(bt493.2.2.2.2.1 == a0_4) || (!(bt493.2.2.2.2.2.1 == a0_5) || (!(bt493.2.2.2.2.2.2.1 == a0_6) || (!(bt493.2.2.2.2.2.2.2.1 == a0_7) || (!(bt493.2.2.2.2.2.2.2.2.1 == a0_8) || (!(bt493.2.2.2.2.2.2.2.2.2.1 == a0_9) || (!(bt493.2.2.2.2.2.2.2.2.2.2.1 == a0_10)))))))))))) = true then (sawmilllaw46_OrderBack.j0 k a1 true) else (sawmilllaw46_OrderBack.j0 k a1 false)) else (sawmilllaw46_OrderBack.j0 k a1 true)) else (sawmilllaw46_OrderBack.j0 k a1 (bt491.1.toList != ([] : List UInt8))))))
set_option maxHeartbeats 8000000 in
set_option maxRecDepth 100000 in
theorem sawmilllaw46_OrderBack.calls (k : Nat) (a0_0 : ByteArray) (a0_1 : ByteArray) (a0_2 : Int) (a0_3 : Int) (a0_4 : Int) (a0_5 : Int) (a0_6 : Int) (a0_7 : Int) (a0_8 : Int) (a0_9 : Int) (a0_10 : Int) (a1 : ByteArray) (r : Bool) (w : World) (h : sawmilllaw46_OrderBack.f k a0_0 a0_1 a0_2 a0_3 a0_4 a0_5 a0_6 a0_7 a0_8 a0_9 a0_10 a1 = some r) :
  Calls Tryd.prog 7 #[.agg #[.string a0_0, .string a0_1, .int .i64 a0_2, .int .i64 a0_3, .int .i64 a0_4, .int .i64 a0_5, .int .i64 a0_6, .int .i64 a0_7, .int .i64 a0_8, .int .i64 a0_9, .int .i64 a0_10], .string a1] w fun e w' => e = .returned (.bool r) ∧ Below w.heap.size w w' := by
 have hu23 := Tryd.underlying23
 have HB := q_ (Below.refl w.heap.size w)
 have H : (if (a1.size : Int) > 1000 then ((sawmilllaw46_awake.f).bind fun t490 => (some t490)) else ((order_Encode.f k a0_0 a0_1 a0_2 a0_3 a0_4 a0_5 a0_6 a0_7 a0_8 a0_9 a0_10).bind fun bt491 => ((order_Decode.f k bt491.1).bind fun bt493 => (if bt491.2 = 0 then (if bt493.2.2.2.2.2.2.2.2.2.2.2 = 0 then (if (!(bt493.1.toList == a0_0.toList) || (!(bt493.2.1.toList == a0_1.toList) || (!(bt493.2.2.1 == a0_2) || (!(bt493.2.2.2.1 == a0_3) || (!(bt493.2.2.2.2.1 == a0_4) || (!(bt493.2.2.2.2.2.1 == a0_5) || (!(bt493.2.2.2.2.2.2.1 == a0_6) || (!(bt493.2.2.2.2.2.2.2.1 == a0_7) || (!(bt493.2.2.2.2.2.2.2.2.1 == a0_8) || (!(bt493.2.2.2.2.2.2.2.2.2.1 == a0_9) || (!(bt493.2.2.2.2.2.2.2.2.2.2.1 == a0_10)))))))))))) = true then (sawmilllaw46_OrderBack.j0 k a1 true) else (sawmilllaw46_OrderBack.j0 k a1 false)) else (sawmilllaw46_OrderBack.j0 k a1 true)) else (sawmilllaw46_OrderBack.j0 k a1 (bt491.1.toList != ([] : List UInt8))))))) = some r := h
 clear h
 by_cases c3 : (a1.size : Int) > 1000
 ·rw [if_pos c3] at H
  have c3b0 : decide (1000 < (a1.size : Int)) = true := decide_eq_true c3
  have c3b1 : decide (1000 < a1.size) = true := decide_eq_true (by omega)
  clear c3
  replace H := oB H
  obtain ⟨t490, A40, H⟩ := H
  replace H : (some t490) = some r := H
  have A4 := Aside0.mk A40
  clear A40
  obtain rfl := Option.some.inj H
  go_enter Tryd.func7, Tryd.ntmps7
  go_wp2_with (first | (refine wpList_load_cells (by rfl) 23 _ (by exact rfl) ⟨gb489, 0, none⟩ (by rfl) _ _ (cells_of_blk (by (with_reducible repeat (first | refine bN ?_ _ | refine bW ?_ | refine bA ?_ _)); exact BK489.out)) Tryd.underlying23 rfl (by kernel_rfl) ?_) | ((with_reducible refine gate_dst (N := 2) rfl ?_); refine box_event ?hg (N := 2) ?hd (cs := #[.string a0_0, .string a0_1, .int .i64 a0_2, .int .i64 a0_3, .int .i64 a0_4, .int .i64 a0_5, .int .i64 a0_6, .int .i64 a0_7, .int .i64 a0_8, .int .i64 a0_9, .int .i64 a0_10]) (t := 23) ?hr ?_; (case hd => rfl); (case hg => rfl); (case hr => first | (go_simp; done) | (go_simp; rfl)); intro gb489 hg w5 hbox hb; have n0_ := q_ (pT (by repeat (first | (with_reducible first | exact HB.out | apply pA | apply pN | apply p1) | exact HB.out)) hb); have n1_ := q_ (hbox); have n2_ := q_ ((by rw [hg]; exact (pZ (by repeat (first | (with_reducible first | exact HB.out | apply pA | apply pN | apply p1) | exact HB.out))) : w.heap.size ≤ gb489)); have n3_ := n2_; clear HB; have HB := n0_; have BK489 := n1_; have GW489 := n2_; have GE489 := n3_; clear n0_ n1_ n2_ n3_; clear hb hbox hg) | ((with_reducible refine gate_callee (f := 11) rfl ?_); refine goesL_ (some 16) rfl rfl Tryd.func11 (by kernel_rfl) rfl #[] rfl (by first | rfl | (simp only [List.map_toArray]; rfl)) ?_; (with_reducible refine (sawmilllaw46_awake.calls  t490 _ A4.out).mono ?_); rintro e w6 ⟨rfl, hb⟩; refine ⟨_, rfl, ?_⟩; have n0_ := q_ (bB (g := gb489) (by (with_reducible repeat (first | refine bN ?_ _ | refine bW ?_ | refine bA ?_ _)); exact BK489.out) hb); have n1_ := q_ (pT (by repeat (first | (with_reducible first | exact HB.out | apply pA | apply pN | apply p1 | refine pS ?_ GE489.out) | exact HB.out)) hb); clear BK489; clear HB; have BK489 := n0_; have HB := n1_; clear n0_ n1_; (try clear hb); (try clear hb2); (try clear hk); (try clear hi)))
  go_ret
  exact ⟨by first | rfl | (simp [*] <;> rfl), by repeat (first | (with_reducible first | exact HB.out | apply pA | apply pN | apply p1 | refine pS ?_ GE489.out) | exact HB.out)⟩
 ·rw [if_neg c3] at H
  have c3b0 : decide (1000 < (a1.size : Int)) = false := decide_eq_false c3
  have c3b1 : decide (1000 < a1.size) = false := decide_eq_false (by omega)
  clear c3
  replace H := oB H
  obtain ⟨⟨t491, t492⟩, A70, H⟩ := H
  replace H : ((order_Decode.f k t491).bind fun bt493 => (if t492 = 0 then (if bt493.2.2.2.2.2.2.2.2.2.2.2 = 0 then (if (!(bt493.1.toList == a0_0.toList) || (!(bt493.2.1.toList == a0_1.toList) || (!(bt493.2.2.1 == a0_2) || (!(bt493.2.2.2.1 == a0_3) || (!(bt493.2.2.2.2.1 == a0_4) || (!(bt493.2.2.2.2.2.1 == a0_5) || (!(bt493.2.2.2.2.2.2.1 == a0_6) || (!(bt493.2.2.2.2.2.2.2.1 == a0_7) || (!(bt493.2.2.2.2.2.2.2.2.1 == a0_8) || (!(bt493.2.2.2.2.2.2.2.2.2.1 == a0_9) || (!(bt493.2.2.2.2.2.2.2.2.2.2.1 == a0_10)))))))))))) = true then (sawmilllaw46_OrderBack.j0 k a1 true) else (sawmilllaw46_OrderBack.j0 k a1 false)) else (sawmilllaw46_OrderBack.j0 k a1 true)) else (sawmilllaw46_OrderBack.j0 k a1 (t491.toList != ([] : List UInt8))))) = some r := H
  have A7 := Aside0.mk A70
  clear A70
  replace H := oB H
  obtain ⟨⟨t493, t494, t495, t496, t497, t498, t499, t500, t501, t502, t503, t504⟩, A80, H⟩ := H
  replace H : (if t492 = 0 then (if t504 = 0 then (if (!(t493.toList == a0_0.toList) || (!(t494.toList == a0_1.toList) || (!(t495 == a0_2) || (!(t496 == a0_3) || (!(t497 == a0_4) || (!(t498 == a0_5) || (!(t499 == a0_6) || (!(t500 == a0_7) || (!(t501 == a0_8) || (!(t502 == a0_9) || (!(t503 == a0_10)))))))))))) = true then (sawmilllaw46_OrderBack.j0 k a1 true) else (sawmilllaw46_OrderBack.j0 k a1 false)) else (sawmilllaw46_OrderBack.j0 k a1 true)) else (sawmilllaw46_OrderBack.j0 k a1 (t491.toList != ([] : List UInt8)))) = some r := H
  have A8 := Aside0.mk A80
  clear A80
  have HC9 := Aside0.mk H
  clear H
  go_enter Tryd.func7, Tryd.ntmps7
  go_upto_region 5 with (first | ((with_reducible refine gate_dst (N := 2) rfl ?_); refine box_event ?hg (N := 2) ?hd (cs := #[.string a0_0, .string a0_1, .int .i64 a0_2, .int .i64 a0_3, .int .i64 a0_4, .int .i64 a0_5, .int .i64 a0_6, .int .i64 a0_7, .int .i64 a0_8, .int .i64 a0_9, .int .i64 a0_10]) (t := 23) ?hr ?_; (case hd => rfl); (case hg => rfl); (case hr => first | (go_simp; done) | (go_simp; rfl)); intro gb489 hg w10 hbox hb; have n0_ := q_ (pT (by repeat (first | (with_reducible first | exact HB.out | apply pA | apply pN | apply p1) | exact HB.out)) hb); have n1_ := q_ (hbox); have n2_ := q_ ((by rw [hg]; exact (pZ (by repeat (first | (with_reducible first | exact HB.out | apply pA | apply pN | apply p1) | exact HB.out))) : w.heap.size ≤ gb489)); have n3_ := n2_; clear HB; have HB := n0_; have BK489 := n1_; have GW489 := n2_; have GE489 := n3_; clear n0_ n1_ n2_ n3_; clear hb hbox hg; have hcz11 := blk_all BK489.out; simp only [CellsAt, List.toList_toArray, Nat.reduceAdd, and_true] at hcz11; have hfz11 := bF BK489.out) | ((with_reducible refine gate_callee (f := 22) rfl ?_); refine goesL_ (some 19) rfl rfl Tryd.func22 (by kernel_rfl) rfl #[.agg #[.string a0_0, .string a0_1, .int .i64 a0_2, .int .i64 a0_3, .int .i64 a0_4, .int .i64 a0_5, .int .i64 a0_6, .int .i64 a0_7, .int .i64 a0_8, .int .i64 a0_9, .int .i64 a0_10]] rfl (by first | rfl | (simp only [List.map_toArray]; rfl)) ?_; (with_reducible refine (order_Encode.calls k a0_0 a0_1 a0_2 a0_3 a0_4 a0_5 a0_6 a0_7 a0_8 a0_9 a0_10 t491 t492 _ A7.out).mono ?_); rintro e w12 ⟨rfl, hb⟩; refine ⟨_, rfl, ?_⟩; have n0_ := q_ (bB (g := gb489) (by (with_reducible repeat (first | refine bN ?_ _ | refine bW ?_ | refine bA ?_ _)); exact BK489.out) hb); have n1_ := q_ (pT (by repeat (first | (with_reducible first | exact HB.out | apply pA | apply pN | apply p1 | refine pS ?_ GE489.out) | exact HB.out)) hb); clear BK489; clear HB; have BK489 := n0_; have HB := n1_; clear n0_ n1_; (try clear hb); (try clear hb2); (try clear hk); (try clear hi)) | ((with_reducible refine gate_callee (f := 24) rfl ?_); refine goesL_ (some 24) rfl rfl Tryd.func24 (by kernel_rfl) rfl #[.string t491] rfl (by first | rfl | (simp only [List.map_toArray]; rfl)) ?_; (with_reducible refine (order_Decode.calls k t491 t493 t494 t495 t496 t497 t498 t499 t500 t501 t502 t503 t504 _ A8.out).mono ?_); rintro e w13 ⟨rfl, hb⟩; refine ⟨_, rfl, ?_⟩; have n0_ := q_ (bB (g := gb489) (by (with_reducible repeat (first | refine bN ?_ _ | refine bW ?_ | refine bA ?_ _)); exact BK489.out) hb); have n1_ := q_ (pT (by repeat (first | (with_reducible first | exact HB.out | apply pA | apply pN | apply p1 | refine pS ?_ GE489.out) | exact HB.out)) hb); clear BK489; clear HB; have BK489 := n0_; have HB := n1_; clear n0_ n1_; (try clear hb); (try clear hb2); (try clear hk); (try clear hi)) | ((with_reducible refine gate_dst (N := 7) rfl ?_); refine box_event ?hg (N := 7) ?hd (cs := #[.string (⟨#[]⟩ : ByteArray), .string (⟨#[]⟩ : ByteArray), .int .i64 0, .int .i64 0, .int .i64 0, .int .i64 0, .int .i64 0, .int .i64 0, .int .i64 0, .int .i64 0, .int .i64 0]) (t := 23) ?hr ?_; (case hd => rfl); (case hg => rfl); (case hr => first | (go_simp; done) | (go_simp; rfl)); intro gb505 hg w14 hbox hb; have n0_ := q_ (bB (g := gb489) (by (with_reducible repeat (first | refine bN ?_ _ | refine bW ?_ | refine bA ?_ _)); exact BK489.out) hb); have n1_ := q_ (pT (by repeat (first | (with_reducible first | exact HB.out | apply pA | apply pN | apply p1 | refine pS ?_ GE489.out) | exact HB.out)) hb); have n2_ := q_ (hbox); have n3_ := q_ ((by rw [hg]; exact (pZ (by repeat (first | (with_reducible first | exact HB.out | apply pA | apply pN | apply p1 | refine pS ?_ GE489.out) | exact HB.out))) : w.heap.size ≤ gb505)); have n4_ := n3_; have n5_ := q_ ((by rw [hg]; exact Nat.ne_of_lt (blk_lt (g := gb489) (by (with_reducible repeat (first | refine bN ?_ _ | refine bW ?_ | refine bA ?_ _)); exact BK489.out)) : gb489 ≠ gb505)); have n6_ := q_ ((by rw [hg]; exact Nat.ne_of_gt (blk_lt (g := gb489) (by (with_reducible repeat (first | refine bN ?_ _ | refine bW ?_ | refine bA ?_ _)); exact BK489.out)) : gb505 ≠ gb489)); clear BK489; clear HB; have BK489 := n0_; have HB := n1_; have BK505 := n2_; have GW505 := n3_; have GE505 := n4_; have NB489_505 := n5_; have NB505_489 := n6_; clear n0_ n1_ n2_ n3_ n4_ n5_ n6_; clear hb hbox hg; have hnb15 := NB505_489.out; have hnc15 := NB489_505.out; have hcz16 := blk_all BK505.out; simp only [CellsAt, List.toList_toArray, Nat.reduceAdd, and_true] at hcz16; have hfz16 := bF BK505.out))
  (try simp only [Act.put, List.setIfInBounds_toArray, List.set_cons_zero, List.set_cons_succ])
  go_cut [45] (fun v45 wc => ∃ (kq : Nat) (x45_8 : Bool), v45 = .bool x45_8 ∧ Aside0 (sawmilllaw46_OrderBack.j0 kq a1 x45_8 = some r) ∧ Aside0 (kq ≤ k) ∧ Aside0 (wc.heap[gb489]? = some (.cells #[.string a0_0, .string a0_1, .int .i64 a0_2, .int .i64 a0_3, .int .i64 a0_4, .int .i64 a0_5, .int .i64 a0_6, .int .i64 a0_7, .int .i64 a0_8, .int .i64 a0_9, .int .i64 a0_10] 23 (0, 0))) ∧ Aside0 (wc.heap[gb505]? = some (.cells #[.string t493, .string t494, .int .i64 t495, .int .i64 t496, .int .i64 t497, .int .i64 t498, .int .i64 t499, .int .i64 t500, .int .i64 t501, .int .i64 t502, .int .i64 t503] 23 (0, 0))) ∧ Aside0 (Below w.heap.size w wc))
  case first =>
   have H := HC9.out
   clear HC9
   by_cases c17 : t492 = 0
   ·rw [if_pos c17] at H
    have c17b0 : (t492 == 0) = true := beq_iff_eq.mpr c17
    have c17b1 : (t492 != 0) = false := oD c17
    clear c17
    (first | rw [c17b0] | (simp only [i64_w, i32_w]; rw [c17b0]) | skip)
    by_cases c18 : t504 = 0
    ·rw [if_pos c18] at H
     have c18b0 : (t504 == 0) = true := beq_iff_eq.mpr c18
     have c18b1 : (t504 != 0) = false := oD c18
     clear c18
     by_cases c19 : (!(t493.toList == a0_0.toList) || (!(t494.toList == a0_1.toList) || (!(t495 == a0_2) || (!(t496 == a0_3) || (!(t497 == a0_4) || (!(t498 == a0_5) || (!(t499 == a0_6) || (!(t500 == a0_7) || (!(t501 == a0_8) || (!(t502 == a0_9) || (!(t503 == a0_10)))))))))))) = true
     ·rw [if_pos c19] at H
      have c19b0 : (!(t493.toList == a0_0.toList) || (!(t494.toList == a0_1.toList) || (!(t495 == a0_2) || (!(t496 == a0_3) || (!(t497 == a0_4) || (!(t498 == a0_5) || (!(t499 == a0_6) || (!(t500 == a0_7) || (!(t501 == a0_8) || (!(t502 == a0_9) || (!(t503 == a0_10)))))))))))) = true := c19
      clear c19
      have H' := Aside0.mk H
      clear H
      have hnb20 := NB505_489.out
      have hnc20 := NB489_505.out
      have hcz21 := blk_all BK505.out
      simp only [CellsAt, List.toList_toArray, Nat.reduceAdd, and_true] at hcz21
      have hfz21 := bF BK505.out
      have hcz22 := blk_all BK489.out
      simp only [CellsAt, List.toList_toArray, Nat.reduceAdd, and_true] at hcz22
      have hfz22 := bF BK489.out
      go_wp2
      go_meet
      case rel => exact ⟨_, (true), (by first | rfl | (simp; done) | (simp [*]; done)), H', ⟨by first | omega | exact Nat.le_refl _⟩, ⟨by (with_reducible repeat (first | refine bN ?_ _ | refine bW ?_ | refine bA ?_ _)); refine blk_far ?_ NB489_505.out _; (with_reducible repeat (first | refine bN ?_ _ | refine bW ?_ | refine bA ?_ _)); refine blk_far ?_ NB489_505.out _; (with_reducible repeat (first | refine bN ?_ _ | refine bW ?_ | refine bA ?_ _)); refine blk_far ?_ NB489_505.out _; (with_reducible repeat (first | refine bN ?_ _ | refine bW ?_ | refine bA ?_ _)); refine blk_far ?_ NB489_505.out _; (with_reducible repeat (first | refine bN ?_ _ | refine bW ?_ | refine bA ?_ _)); refine blk_far ?_ NB489_505.out _; (with_reducible repeat (first | refine bN ?_ _ | refine bW ?_ | refine bA ?_ _)); refine blk_far ?_ NB489_505.out _; (with_reducible repeat (first | refine bN ?_ _ | refine bW ?_ | refine bA ?_ _)); refine blk_far ?_ NB489_505.out _; (with_reducible repeat (first | refine bN ?_ _ | refine bW ?_ | refine bA ?_ _)); refine blk_far ?_ NB489_505.out _; (with_reducible repeat (first | refine bN ?_ _ | refine bW ?_ | refine bA ?_ _)); refine blk_far ?_ NB489_505.out _; (with_reducible repeat (first | refine bN ?_ _ | refine bW ?_ | refine bA ?_ _)); refine blk_far ?_ NB489_505.out _; (with_reducible repeat (first | refine bN ?_ _ | refine bW ?_ | refine bA ?_ _)); refine blk_far ?_ NB489_505.out _; (with_reducible repeat (first | refine bN ?_ _ | refine bW ?_ | refine bA ?_ _)); exact BK489.out⟩, ⟨by (with_reducible repeat (first | refine bN ?_ _ | refine bW ?_ | refine bA ?_ _)); refine blk_put (cs := #[.string t493, .string t494, .int .i64 t495, .int .i64 t496, .int .i64 t497, .int .i64 t498, .int .i64 t499, .int .i64 t500, .int .i64 t501, .int .i64 t502, .int .i64 0]) ?_ 10 _ rfl; (with_reducible repeat (first | refine bN ?_ _ | refine bW ?_ | refine bA ?_ _)); refine blk_put (cs := #[.string t493, .string t494, .int .i64 t495, .int .i64 t496, .int .i64 t497, .int .i64 t498, .int .i64 t499, .int .i64 t500, .int .i64 t501, .int .i64 0, .int .i64 0]) ?_ 9 _ rfl; (with_reducible repeat (first | refine bN ?_ _ | refine bW ?_ | refine bA ?_ _)); refine blk_put (cs := #[.string t493, .string t494, .int .i64 t495, .int .i64 t496, .int .i64 t497, .int .i64 t498, .int .i64 t499, .int .i64 t500, .int .i64 0, .int .i64 0, .int .i64 0]) ?_ 8 _ rfl; (with_reducible repeat (first | refine bN ?_ _ | refine bW ?_ | refine bA ?_ _)); refine blk_put (cs := #[.string t493, .string t494, .int .i64 t495, .int .i64 t496, .int .i64 t497, .int .i64 t498, .int .i64 t499, .int .i64 0, .int .i64 0, .int .i64 0, .int .i64 0]) ?_ 7 _ rfl; (with_reducible repeat (first | refine bN ?_ _ | refine bW ?_ | refine bA ?_ _)); refine blk_put (cs := #[.string t493, .string t494, .int .i64 t495, .int .i64 t496, .int .i64 t497, .int .i64 t498, .int .i64 0, .int .i64 0, .int .i64 0, .int .i64 0, .int .i64 0]) ?_ 6 _ rfl; (with_reducible repeat (first | refine bN ?_ _ | refine bW ?_ | refine bA ?_ _)); refine blk_put (cs := #[.string t493, .string t494, .int .i64 t495, .int .i64 t496, .int .i64 t497, .int .i64 0, .int .i64 0, .int .i64 0, .int .i64 0, .int .i64 0, .int .i64 0]) ?_ 5 _ rfl; (with_reducible repeat (first | refine bN ?_ _ | refine bW ?_ | refine bA ?_ _)); refine blk_put (cs := #[.string t493, .string t494, .int .i64 t495, .int .i64 t496, .int .i64 0, .int .i64 0, .int .i64 0, .int .i64 0, .int .i64 0, .int .i64 0, .int .i64 0]) ?_ 4 _ rfl; (with_reducible repeat (first | refine bN ?_ _ | refine bW ?_ | refine bA ?_ _)); refine blk_put (cs := #[.string t493, .string t494, .int .i64 t495, .int .i64 0, .int .i64 0, .int .i64 0, .int .i64 0, .int .i64 0, .int .i64 0, .int .i64 0, .int .i64 0]) ?_ 3 _ rfl; (with_reducible repeat (first | refine bN ?_ _ | refine bW ?_ | refine bA ?_ _)); refine blk_put (cs := #[.string t493, .string t494, .int .i64 0, .int .i64 0, .int .i64 0, .int .i64 0, .int .i64 0, .int .i64 0, .int .i64 0, .int .i64 0, .int .i64 0]) ?_ 2 _ rfl; (with_reducible repeat (first | refine bN ?_ _ | refine bW ?_ | refine bA ?_ _)); refine blk_put (cs := #[.string t493, .string (⟨#[]⟩ : ByteArray), .int .i64 0, .int .i64 0, .int .i64 0, .int .i64 0, .int .i64 0, .int .i64 0, .int .i64 0, .int .i64 0, .int .i64 0]) ?_ 1 _ rfl; (with_reducible repeat (first | refine bN ?_ _ | refine bW ?_ | refine bA ?_ _)); refine blk_put (cs := #[.string (⟨#[]⟩ : ByteArray), .string (⟨#[]⟩ : ByteArray), .int .i64 0, .int .i64 0, .int .i64 0, .int .i64 0, .int .i64 0, .int .i64 0, .int .i64 0, .int .i64 0, .int .i64 0]) ?_ 0 _ rfl; (with_reducible repeat (first | refine bN ?_ _ | refine bW ?_ | refine bA ?_ _)); exact BK505.out⟩, ⟨by repeat (first | (with_reducible first | exact HB.out | apply pA | apply pN | apply p1 | refine pS ?_ GE489.out | refine pS ?_ GE505.out) | exact HB.out)⟩⟩
     ·rw [if_neg c19] at H
      have c19b0 : (!(t493.toList == a0_0.toList) || (!(t494.toList == a0_1.toList) || (!(t495 == a0_2) || (!(t496 == a0_3) || (!(t497 == a0_4) || (!(t498 == a0_5) || (!(t499 == a0_6) || (!(t500 == a0_7) || (!(t501 == a0_8) || (!(t502 == a0_9) || (!(t503 == a0_10)))))))))))) = false := by simpa using c19
      clear c19
      have H' := Aside0.mk H
      clear H
      have hnb23 := NB505_489.out
      have hnc23 := NB489_505.out
      have hcz24 := blk_all BK505.out
      simp only [CellsAt, List.toList_toArray, Nat.reduceAdd, and_true] at hcz24
      have hfz24 := bF BK505.out
      have hcz25 := blk_all BK489.out
      simp only [CellsAt, List.toList_toArray, Nat.reduceAdd, and_true] at hcz25
      have hfz25 := bF BK489.out
      go_wp2
      go_meet
      case rel => exact ⟨_, (false), (by first | rfl | (simp; done) | (simp [*]; done)), H', ⟨by first | omega | exact Nat.le_refl _⟩, ⟨by (with_reducible repeat (first | refine bN ?_ _ | refine bW ?_ | refine bA ?_ _)); refine blk_far ?_ NB489_505.out _; (with_reducible repeat (first | refine bN ?_ _ | refine bW ?_ | refine bA ?_ _)); refine blk_far ?_ NB489_505.out _; (with_reducible repeat (first | refine bN ?_ _ | refine bW ?_ | refine bA ?_ _)); refine blk_far ?_ NB489_505.out _; (with_reducible repeat (first | refine bN ?_ _ | refine bW ?_ | refine bA ?_ _)); refine blk_far ?_ NB489_505.out _; (with_reducible repeat (first | refine bN ?_ _ | refine bW ?_ | refine bA ?_ _)); refine blk_far ?_ NB489_505.out _; (with_reducible repeat (first | refine bN ?_ _ | refine bW ?_ | refine bA ?_ _)); refine blk_far ?_ NB489_505.out _; (with_reducible repeat (first | refine bN ?_ _ | refine bW ?_ | refine bA ?_ _)); refine blk_far ?_ NB489_505.out _; (with_reducible repeat (first | refine bN ?_ _ | refine bW ?_ | refine bA ?_ _)); refine blk_far ?_ NB489_505.out _; (with_reducible repeat (first | refine bN ?_ _ | refine bW ?_ | refine bA ?_ _)); refine blk_far ?_ NB489_505.out _; (with_reducible repeat (first | refine bN ?_ _ | refine bW ?_ | refine bA ?_ _)); refine blk_far ?_ NB489_505.out _; (with_reducible repeat (first | refine bN ?_ _ | refine bW ?_ | refine bA ?_ _)); refine blk_far ?_ NB489_505.out _; (with_reducible repeat (first | refine bN ?_ _ | refine bW ?_ | refine bA ?_ _)); exact BK489.out⟩, ⟨by (with_reducible repeat (first | refine bN ?_ _ | refine bW ?_ | refine bA ?_ _)); refine blk_put (cs := #[.string t493, .string t494, .int .i64 t495, .int .i64 t496, .int .i64 t497, .int .i64 t498, .int .i64 t499, .int .i64 t500, .int .i64 t501, .int .i64 t502, .int .i64 0]) ?_ 10 _ rfl; (with_reducible repeat (first | refine bN ?_ _ | refine bW ?_ | refine bA ?_ _)); refine blk_put (cs := #[.string t493, .string t494, .int .i64 t495, .int .i64 t496, .int .i64 t497, .int .i64 t498, .int .i64 t499, .int .i64 t500, .int .i64 t501, .int .i64 0, .int .i64 0]) ?_ 9 _ rfl; (with_reducible repeat (first | refine bN ?_ _ | refine bW ?_ | refine bA ?_ _)); refine blk_put (cs := #[.string t493, .string t494, .int .i64 t495, .int .i64 t496, .int .i64 t497, .int .i64 t498, .int .i64 t499, .int .i64 t500, .int .i64 0, .int .i64 0, .int .i64 0]) ?_ 8 _ rfl; (with_reducible repeat (first | refine bN ?_ _ | refine bW ?_ | refine bA ?_ _)); refine blk_put (cs := #[.string t493, .string t494, .int .i64 t495, .int .i64 t496, .int .i64 t497, .int .i64 t498, .int .i64 t499, .int .i64 0, .int .i64 0, .int .i64 0, .int .i64 0]) ?_ 7 _ rfl; (with_reducible repeat (first | refine bN ?_ _ | refine bW ?_ | refine bA ?_ _)); refine blk_put (cs := #[.string t493, .string t494, .int .i64 t495, .int .i64 t496, .int .i64 t497, .int .i64 t498, .int .i64 0, .int .i64 0, .int .i64 0, .int .i64 0, .int .i64 0]) ?_ 6 _ rfl; (with_reducible repeat (first | refine bN ?_ _ | refine bW ?_ | refine bA ?_ _)); refine blk_put (cs := #[.string t493, .string t494, .int .i64 t495, .int .i64 t496, .int .i64 t497, .int .i64 0, .int .i64 0, .int .i64 0, .int .i64 0, .int .i64 0, .int .i64 0]) ?_ 5 _ rfl; (with_reducible repeat (first | refine bN ?_ _ | refine bW ?_ | refine bA ?_ _)); refine blk_put (cs := #[.string t493, .string t494, .int .i64 t495, .int .i64 t496, .int .i64 0, .int .i64 0, .int .i64 0, .int .i64 0, .int .i64 0, .int .i64 0, .int .i64 0]) ?_ 4 _ rfl; (with_reducible repeat (first | refine bN ?_ _ | refine bW ?_ | refine bA ?_ _)); refine blk_put (cs := #[.string t493, .string t494, .int .i64 t495, .int .i64 0, .int .i64 0, .int .i64 0, .int .i64 0, .int .i64 0, .int .i64 0, .int .i64 0, .int .i64 0]) ?_ 3 _ rfl; (with_reducible repeat (first | refine bN ?_ _ | refine bW ?_ | refine bA ?_ _)); refine blk_put (cs := #[.string t493, .string t494, .int .i64 0, .int .i64 0, .int .i64 0, .int .i64 0, .int .i64 0, .int .i64 0, .int .i64 0, .int .i64 0, .int .i64 0]) ?_ 2 _ rfl; (with_reducible repeat (first | refine bN ?_ _ | refine bW ?_ | refine bA ?_ _)); refine blk_put (cs := #[.string t493, .string (⟨#[]⟩ : ByteArray), .int .i64 0, .int .i64 0, .int .i64 0, .int .i64 0, .int .i64 0, .int .i64 0, .int .i64 0, .int .i64 0, .int .i64 0]) ?_ 1 _ rfl; (with_reducible repeat (first | refine bN ?_ _ | refine bW ?_ | refine bA ?_ _)); refine blk_put (cs := #[.string (⟨#[]⟩ : ByteArray), .string (⟨#[]⟩ : ByteArray), .int .i64 0, .int .i64 0, .int .i64 0, .int .i64 0, .int .i64 0, .int .i64 0, .int .i64 0, .int .i64 0, .int .i64 0]) ?_ 0 _ rfl; (with_reducible repeat (first | refine bN ?_ _ | refine bW ?_ | refine bA ?_ _)); exact BK505.out⟩, ⟨by repeat (first | (with_reducible first | exact HB.out | apply pA | apply pN | apply p1 | refine pS ?_ GE489.out | refine pS ?_ GE505.out) | exact HB.out)⟩⟩
    ·rw [if_neg c18] at H
     have c18b0 : (t504 == 0) = false := oC c18
     have c18b1 : (t504 != 0) = true := bne_iff_ne.mpr c18
     have H' := Aside0.mk H
     clear H
     go_wp2
     go_meet
     case rel => exact ⟨_, (true), (by first | rfl | (simp; done) | (simp [*]; done)), H', ⟨by first | omega | exact Nat.le_refl _⟩, ⟨by (with_reducible repeat (first | refine bN ?_ _ | refine bW ?_ | refine bA ?_ _)); refine blk_far ?_ NB489_505.out _; (with_reducible repeat (first | refine bN ?_ _ | refine bW ?_ | refine bA ?_ _)); refine blk_far ?_ NB489_505.out _; (with_reducible repeat (first | refine bN ?_ _ | refine bW ?_ | refine bA ?_ _)); refine blk_far ?_ NB489_505.out _; (with_reducible repeat (first | refine bN ?_ _ | refine bW ?_ | refine bA ?_ _)); refine blk_far ?_ NB489_505.out _; (with_reducible repeat (first | refine bN ?_ _ | refine bW ?_ | refine bA ?_ _)); refine blk_far ?_ NB489_505.out _; (with_reducible repeat (first | refine bN ?_ _ | refine bW ?_ | refine bA ?_ _)); refine blk_far ?_ NB489_505.out _; (with_reducible repeat (first | refine bN ?_ _ | refine bW ?_ | refine bA ?_ _)); refine blk_far ?_ NB489_505.out _; (with_reducible repeat (first | refine bN ?_ _ | refine bW ?_ | refine bA ?_ _)); refine blk_far ?_ NB489_505.out _; (with_reducible repeat (first | refine bN ?_ _ | refine bW ?_ | refine bA ?_ _)); refine blk_far ?_ NB489_505.out _; (with_reducible repeat (first | refine bN ?_ _ | refine bW ?_ | refine bA ?_ _)); refine blk_far ?_ NB489_505.out _; (with_reducible repeat (first | refine bN ?_ _ | refine bW ?_ | refine bA ?_ _)); refine blk_far ?_ NB489_505.out _; (with_reducible repeat (first | refine bN ?_ _ | refine bW ?_ | refine bA ?_ _)); exact BK489.out⟩, ⟨by (with_reducible repeat (first | refine bN ?_ _ | refine bW ?_ | refine bA ?_ _)); refine blk_put (cs := #[.string t493, .string t494, .int .i64 t495, .int .i64 t496, .int .i64 t497, .int .i64 t498, .int .i64 t499, .int .i64 t500, .int .i64 t501, .int .i64 t502, .int .i64 0]) ?_ 10 _ rfl; (with_reducible repeat (first | refine bN ?_ _ | refine bW ?_ | refine bA ?_ _)); refine blk_put (cs := #[.string t493, .string t494, .int .i64 t495, .int .i64 t496, .int .i64 t497, .int .i64 t498, .int .i64 t499, .int .i64 t500, .int .i64 t501, .int .i64 0, .int .i64 0]) ?_ 9 _ rfl; (with_reducible repeat (first | refine bN ?_ _ | refine bW ?_ | refine bA ?_ _)); refine blk_put (cs := #[.string t493, .string t494, .int .i64 t495, .int .i64 t496, .int .i64 t497, .int .i64 t498, .int .i64 t499, .int .i64 t500, .int .i64 0, .int .i64 0, .int .i64 0]) ?_ 8 _ rfl; (with_reducible repeat (first | refine bN ?_ _ | refine bW ?_ | refine bA ?_ _)); refine blk_put (cs := #[.string t493, .string t494, .int .i64 t495, .int .i64 t496, .int .i64 t497, .int .i64 t498, .int .i64 t499, .int .i64 0, .int .i64 0, .int .i64 0, .int .i64 0]) ?_ 7 _ rfl; (with_reducible repeat (first | refine bN ?_ _ | refine bW ?_ | refine bA ?_ _)); refine blk_put (cs := #[.string t493, .string t494, .int .i64 t495, .int .i64 t496, .int .i64 t497, .int .i64 t498, .int .i64 0, .int .i64 0, .int .i64 0, .int .i64 0, .int .i64 0]) ?_ 6 _ rfl; (with_reducible repeat (first | refine bN ?_ _ | refine bW ?_ | refine bA ?_ _)); refine blk_put (cs := #[.string t493, .string t494, .int .i64 t495, .int .i64 t496, .int .i64 t497, .int .i64 0, .int .i64 0, .int .i64 0, .int .i64 0, .int .i64 0, .int .i64 0]) ?_ 5 _ rfl; (with_reducible repeat (first | refine bN ?_ _ | refine bW ?_ | refine bA ?_ _)); refine blk_put (cs := #[.string t493, .string t494, .int .i64 t495, .int .i64 t496, .int .i64 0, .int .i64 0, .int .i64 0, .int .i64 0, .int .i64 0, .int .i64 0, .int .i64 0]) ?_ 4 _ rfl; (with_reducible repeat (first | refine bN ?_ _ | refine bW ?_ | refine bA ?_ _)); refine blk_put (cs := #[.string t493, .string t494, .int .i64 t495, .int .i64 0, .int .i64 0, .int .i64 0, .int .i64 0, .int .i64 0, .int .i64 0, .int .i64 0, .int .i64 0]) ?_ 3 _ rfl; (with_reducible repeat (first | refine bN ?_ _ | refine bW ?_ | refine bA ?_ _)); refine blk_put (cs := #[.string t493, .string t494, .int .i64 0, .int .i64 0, .int .i64 0, .int .i64 0, .int .i64 0, .int .i64 0, .int .i64 0, .int .i64 0, .int .i64 0]) ?_ 2 _ rfl; (with_reducible repeat (first | refine bN ?_ _ | refine bW ?_ | refine bA ?_ _)); refine blk_put (cs := #[.string t493, .string (⟨#[]⟩ : ByteArray), .int .i64 0, .int .i64 0, .int .i64 0, .int .i64 0, .int .i64 0, .int .i64 0, .int .i64 0, .int .i64 0, .int .i64 0]) ?_ 1 _ rfl; (with_reducible repeat (first | refine bN ?_ _ | refine bW ?_ | refine bA ?_ _)); refine blk_put (cs := #[.string (⟨#[]⟩ : ByteArray), .string (⟨#[]⟩ : ByteArray), .int .i64 0, .int .i64 0, .int .i64 0, .int .i64 0, .int .i64 0, .int .i64 0, .int .i64 0, .int .i64 0, .int .i64 0]) ?_ 0 _ rfl; (with_reducible repeat (first | refine bN ?_ _ | refine bW ?_ | refine bA ?_ _)); exact BK505.out⟩, ⟨by repeat (first | (with_reducible first | exact HB.out | apply pA | apply pN | apply p1 | refine pS ?_ GE489.out | refine pS ?_ GE505.out) | exact HB.out)⟩⟩
   ·rw [if_neg c17] at H
    have c17b0 : (t492 == 0) = false := oC c17
    have c17b1 : (t492 != 0) = true := bne_iff_ne.mpr c17
    (first | rw [c17b0] | (simp only [i64_w, i32_w]; rw [c17b0]) | skip)
    have H' := Aside0.mk H
    clear H
    go_wp2
    go_meet
    case rel => exact ⟨_, ((t491.toList != ([] : List UInt8))), (by first | rfl | (simp; done) | (simp [*]; done) | (cases h_ : t491.toList <;> simp [h_])), H', ⟨by first | omega | exact Nat.le_refl _⟩, ⟨by (with_reducible repeat (first | refine bN ?_ _ | refine bW ?_ | refine bA ?_ _)); refine blk_far ?_ NB489_505.out _; (with_reducible repeat (first | refine bN ?_ _ | refine bW ?_ | refine bA ?_ _)); refine blk_far ?_ NB489_505.out _; (with_reducible repeat (first | refine bN ?_ _ | refine bW ?_ | refine bA ?_ _)); refine blk_far ?_ NB489_505.out _; (with_reducible repeat (first | refine bN ?_ _ | refine bW ?_ | refine bA ?_ _)); refine blk_far ?_ NB489_505.out _; (with_reducible repeat (first | refine bN ?_ _ | refine bW ?_ | refine bA ?_ _)); refine blk_far ?_ NB489_505.out _; (with_reducible repeat (first | refine bN ?_ _ | refine bW ?_ | refine bA ?_ _)); refine blk_far ?_ NB489_505.out _; (with_reducible repeat (first | refine bN ?_ _ | refine bW ?_ | refine bA ?_ _)); refine blk_far ?_ NB489_505.out _; (with_reducible repeat (first | refine bN ?_ _ | refine bW ?_ | refine bA ?_ _)); refine blk_far ?_ NB489_505.out _; (with_reducible repeat (first | refine bN ?_ _ | refine bW ?_ | refine bA ?_ _)); refine blk_far ?_ NB489_505.out _; (with_reducible repeat (first | refine bN ?_ _ | refine bW ?_ | refine bA ?_ _)); refine blk_far ?_ NB489_505.out _; (with_reducible repeat (first | refine bN ?_ _ | refine bW ?_ | refine bA ?_ _)); refine blk_far ?_ NB489_505.out _; (with_reducible repeat (first | refine bN ?_ _ | refine bW ?_ | refine bA ?_ _)); exact BK489.out⟩, ⟨by (with_reducible repeat (first | refine bN ?_ _ | refine bW ?_ | refine bA ?_ _)); refine blk_put (cs := #[.string t493, .string t494, .int .i64 t495, .int .i64 t496, .int .i64 t497, .int .i64 t498, .int .i64 t499, .int .i64 t500, .int .i64 t501, .int .i64 t502, .int .i64 0]) ?_ 10 _ rfl; (with_reducible repeat (first | refine bN ?_ _ | refine bW ?_ | refine bA ?_ _)); refine blk_put (cs := #[.string t493, .string t494, .int .i64 t495, .int .i64 t496, .int .i64 t497, .int .i64 t498, .int .i64 t499, .int .i64 t500, .int .i64 t501, .int .i64 0, .int .i64 0]) ?_ 9 _ rfl; (with_reducible repeat (first | refine bN ?_ _ | refine bW ?_ | refine bA ?_ _)); refine blk_put (cs := #[.string t493, .string t494, .int .i64 t495, .int .i64 t496, .int .i64 t497, .int .i64 t498, .int .i64 t499, .int .i64 t500, .int .i64 0, .int .i64 0, .int .i64 0]) ?_ 8 _ rfl; (with_reducible repeat (first | refine bN ?_ _ | refine bW ?_ | refine bA ?_ _)); refine blk_put (cs := #[.string t493, .string t494, .int .i64 t495, .int .i64 t496, .int .i64 t497, .int .i64 t498, .int .i64 t499, .int .i64 0, .int .i64 0, .int .i64 0, .int .i64 0]) ?_ 7 _ rfl; (with_reducible repeat (first | refine bN ?_ _ | refine bW ?_ | refine bA ?_ _)); refine blk_put (cs := #[.string t493, .string t494, .int .i64 t495, .int .i64 t496, .int .i64 t497, .int .i64 t498, .int .i64 0, .int .i64 0, .int .i64 0, .int .i64 0, .int .i64 0]) ?_ 6 _ rfl; (with_reducible repeat (first | refine bN ?_ _ | refine bW ?_ | refine bA ?_ _)); refine blk_put (cs := #[.string t493, .string t494, .int .i64 t495, .int .i64 t496, .int .i64 t497, .int .i64 0, .int .i64 0, .int .i64 0, .int .i64 0, .int .i64 0, .int .i64 0]) ?_ 5 _ rfl; (with_reducible repeat (first | refine bN ?_ _ | refine bW ?_ | refine bA ?_ _)); refine blk_put (cs := #[.string t493, .string t494, .int .i64 t495, .int .i64 t496, .int .i64 0, .int .i64 0, .int .i64 0, .int .i64 0, .int .i64 0, .int .i64 0, .int .i64 0]) ?_ 4 _ rfl; (with_reducible repeat (first | refine bN ?_ _ | refine bW ?_ | refine bA ?_ _)); refine blk_put (cs := #[.string t493, .string t494, .int .i64 t495, .int .i64 0, .int .i64 0, .int .i64 0, .int .i64 0, .int .i64 0, .int .i64 0, .int .i64 0, .int .i64 0]) ?_ 3 _ rfl; (with_reducible repeat (first | refine bN ?_ _ | refine bW ?_ | refine bA ?_ _)); refine blk_put (cs := #[.string t493, .string t494, .int .i64 0, .int .i64 0, .int .i64 0, .int .i64 0, .int .i64 0, .int .i64 0, .int .i64 0, .int .i64 0, .int .i64 0]) ?_ 2 _ rfl; (with_reducible repeat (first | refine bN ?_ _ | refine bW ?_ | refine bA ?_ _)); refine blk_put (cs := #[.string t493, .string (⟨#[]⟩ : ByteArray), .int .i64 0, .int .i64 0, .int .i64 0, .int .i64 0, .int .i64 0, .int .i64 0, .int .i64 0, .int .i64 0, .int .i64 0]) ?_ 1 _ rfl; (with_reducible repeat (first | refine bN ?_ _ | refine bW ?_ | refine bA ?_ _)); refine blk_put (cs := #[.string (⟨#[]⟩ : ByteArray), .string (⟨#[]⟩ : ByteArray), .int .i64 0, .int .i64 0, .int .i64 0, .int .i64 0, .int .i64 0, .int .i64 0, .int .i64 0, .int .i64 0, .int .i64 0]) ?_ 0 _ rfl; (with_reducible repeat (first | refine bN ?_ _ | refine bW ?_ | refine bA ?_ _)); exact BK505.out⟩, ⟨by repeat (first | (with_reducible first | exact HB.out | apply pA | apply pN | apply p1 | refine pS ?_ GE489.out | refine pS ?_ GE505.out) | exact HB.out)⟩⟩
  case rest =>
   clear HC9
   try clear c1
   try clear c2
   try clear p2
   try clear c3
   try clear c3b0
   try clear c3b1
   try clear c7
   try clear c11
   try clear c15
   try clear c17
   try clear c17b0
   try clear c17b1
   try clear c18
   try clear c18b0
   try clear c18b1
   try clear c19
   try clear c19b0
   try clear c20
   try clear c22
   try clear c23
   try clear c24
   try clear hcz11
   try clear hcz16
   try clear hcz21
   try clear hcz22
   try clear hcz24
   try clear hcz25
   try clear hfz11
   try clear hfz16
   try clear hfz21
   try clear hfz22
   try clear hfz24
   try clear hfz25
   obtain ⟨kq, x45_8, rfl, HA, HJ8, BK489, BK505, HB⟩ := hcut
   cases kq with
   | zero => exact absurd HA.out (by simp [sawmilllaw46_OrderBack.j0])
   | succ kj8 =>
    have H := HA.out
    clear HA
    simp only [sawmilllaw46_OrderBack.j0] at H
    by_cases c26 : x45_8 = true
    ·subst c26
     have H1 : (none) = some r := by rw [if_pos rfl] at H; exact H
     clear H
     have H := H1
     clear H1
     exact absurd H (by simp)
    ·replace c26 := Bool.eq_false_iff.mpr c26
     subst c26
     have H1 : ((order_Decode.f kj8 a1).bind fun bt506 => (if bt506.2.2.2.2.2.2.2.2.2.2.2 = 0 then ((order_Encode.f kj8 bt506.1 bt506.2.1 bt506.2.2.1 bt506.2.2.2.1 bt506.2.2.2.2.1 bt506.2.2.2.2.2.1 bt506.2.2.2.2.2.2.1 bt506.2.2.2.2.2.2.2.1 bt506.2.2.2.2.2.2.2.2.1 bt506.2.2.2.2.2.2.2.2.2.1 bt506.2.2.2.2.2.2.2.2.2.2.1).bind fun bt519 => (if bt519.2 = 0 then (if bt519.1.toList = a1.toList then ((sawmilllaw46_awake.f).bind fun t521 => (some t521)) else (none)) else (none))) else (if bt506.2.2.2.2.2.2.2.2.2.2.2 = 5 then (if (bt506.1.toList == ([] : List UInt8) && (bt506.2.1.toList == ([] : List UInt8) && (bt506.2.2.1 == 0 && (bt506.2.2.2.1 == 0 && (bt506.2.2.2.2.1 == 0 && (bt506.2.2.2.2.2.1 == 0 && (bt506.2.2.2.2.2.2.1 == 0 && (bt506.2.2.2.2.2.2.2.1 == 0 && (bt506.2.2.2.2.2.2.2.2.1 == 0 && (bt506.2.2.2.2.2.2.2.2.2.1 == 0 && (bt506.2.2.2.2.2.2.2.2.2.2.1 == 0))))))))))) = true then ((sawmilllaw46_awake.f).bind fun t522 => (some t522)) else (none)) else (none)))) = some r := by rw [if_neg (show ¬ (false = true) by decide)] at H; exact H
     clear H
     have H := H1
     clear H1
     replace H := oB H
     obtain ⟨⟨t506, t507, t508, t509, t510, t511, t512, t513, t514, t515, t516, t517⟩, A270, H⟩ := H
     replace H : (if t517 = 0 then ((order_Encode.f kj8 t506 t507 t508 t509 t510 t511 t512 t513 t514 t515 t516).bind fun bt519 => (if bt519.2 = 0 then (if bt519.1.toList = a1.toList then ((sawmilllaw46_awake.f).bind fun t521 => (some t521)) else (none)) else (none))) else (if t517 = 5 then (if (t506.toList == ([] : List UInt8) && (t507.toList == ([] : List UInt8) && (t508 == 0 && (t509 == 0 && (t510 == 0 && (t511 == 0 && (t512 == 0 && (t513 == 0 && (t514 == 0 && (t515 == 0 && (t516 == 0))))))))))) = true then ((sawmilllaw46_awake.f).bind fun t522 => (some t522)) else (none)) else (none))) = some r := H
     have A27 := Aside0.mk A270
     clear A270
     by_cases c28 : t517 = 0
     ·rw [if_pos c28] at H
      have c28b0 : (t517 == 0) = true := beq_iff_eq.mpr c28
      have c28b1 : (t517 != 0) = false := oD c28
      clear c28
      replace H := oB H
      obtain ⟨⟨t519, t520⟩, A290, H⟩ := H
      replace H : (if t520 = 0 then (if t519.toList = a1.toList then ((sawmilllaw46_awake.f).bind fun t521 => (some t521)) else (none)) else (none)) = some r := H
      have A29 := Aside0.mk A290
      clear A290
      by_cases c30 : t520 = 0
      ·rw [if_pos c30] at H
       have c30b0 : (t520 == 0) = true := beq_iff_eq.mpr c30
       have c30b1 : (t520 != 0) = false := oD c30
       clear c30
       by_cases c31 : t519.toList = a1.toList
       ·rw [if_pos c31] at H
        have c31b0 : (t519.toList == a1.toList) = true := beq_iff_eq.mpr c31
        have c31b1 : (t519.toList != a1.toList) = false := oD c31
        clear c31
        replace H := oB H
        obtain ⟨t521, A320, H⟩ := H
        replace H : (some t521) = some r := H
        have A32 := Aside0.mk A320
        clear A320
        obtain rfl := Option.some.inj H
        go_wp2_with (first | (refine wpList_store_row rfl 23 _ _ (by exact rfl) gb518 (by rfl) #[.string t506, .string t507, .int .i64 t508, .int .i64 t509, .int .i64 t510, .int .i64 t511, .int .i64 t512, .int .i64 t513, .int .i64 t514, .int .i64 t515, .int .i64 t516] (by rfl) BK518.out rfl rfl (by kernel_rfl) ?_; intro ws_ hbox hgr; (try replace BK489 := q_ (blk_grown BK489.out hgr (fun e => NB489_518.out (Option.some.inj e)))); (try replace BK505 := q_ (blk_grown BK505.out hgr (fun e => NB505_518.out (Option.some.inj e)))); replace BK518 := Aside0.mk hbox; replace HB := q_ (pw_below_grown HB.out _ (pZ HB.out) hgr (fun k hk => by obtain rfl := Option.some.inj hk; exact GE518.out)); clear hbox hgr) | (refine wpList_load_cells (by rfl) 23 _ (by exact rfl) ⟨gb518, 0, none⟩ (by rfl) _ _ (cells_of_blk (by (with_reducible repeat (first | refine bN ?_ _ | refine bW ?_ | refine bA ?_ _)); exact BK518.out)) Tryd.underlying23 rfl (by kernel_rfl) ?_) | ((with_reducible refine gate_callee (f := 24) rfl ?_); refine goesL_ (some 48) rfl rfl Tryd.func24 (by kernel_rfl) rfl #[.string a1] rfl (by first | rfl | (simp only [List.map_toArray]; rfl)) ?_; (with_reducible refine (order_Decode.calls kj8 a1 t506 t507 t508 t509 t510 t511 t512 t513 t514 t515 t516 t517 _ A27.out).mono ?_); rintro e w33 ⟨rfl, hb⟩; refine ⟨_, rfl, ?_⟩; have n0_ := q_ (bB (g := gb489) (by (with_reducible repeat (first | refine bN ?_ _ | refine bW ?_ | refine bA ?_ _)); exact BK489.out) hb); have n1_ := q_ (bB (g := gb505) (by (with_reducible repeat (first | refine bN ?_ _ | refine bW ?_ | refine bA ?_ _)); exact BK505.out) hb); have n2_ := q_ (pT (by repeat (first | (with_reducible first | exact HB.out | apply pA | apply pN | apply p1 | refine pS ?_ GE489.out | refine pS ?_ GE505.out) | exact HB.out)) hb); clear BK489; clear BK505; clear HB; have BK489 := n0_; have BK505 := n1_; have HB := n2_; clear n0_ n1_ n2_; (try clear hb); (try clear hb2); (try clear hk); (try clear hi)) | ((with_reducible refine gate_dst (N := 9) rfl ?_); refine box_event ?hg (N := 9) ?hd (cs := #[.string (⟨#[]⟩ : ByteArray), .string (⟨#[]⟩ : ByteArray), .int .i64 0, .int .i64 0, .int .i64 0, .int .i64 0, .int .i64 0, .int .i64 0, .int .i64 0, .int .i64 0, .int .i64 0]) (t := 23) ?hr ?_; (case hd => rfl); (case hg => rfl); (case hr => first | (go_simp; done) | (go_simp; rfl)); intro gb518 hg w34 hbox hb; have n0_ := q_ (bB (g := gb489) (by (with_reducible repeat (first | refine bN ?_ _ | refine bW ?_ | refine bA ?_ _)); exact BK489.out) hb); have n1_ := q_ (bB (g := gb505) (by (with_reducible repeat (first | refine bN ?_ _ | refine bW ?_ | refine bA ?_ _)); exact BK505.out) hb); have n2_ := q_ (pT (by repeat (first | (with_reducible first | exact HB.out | apply pA | apply pN | apply p1 | refine pS ?_ GE489.out | refine pS ?_ GE505.out) | exact HB.out)) hb); have n3_ := q_ (hbox); have n4_ := q_ ((by rw [hg]; exact (pZ (by repeat (first | (with_reducible first | exact HB.out | apply pA | apply pN | apply p1 | refine pS ?_ GE489.out | refine pS ?_ GE505.out) | exact HB.out))) : w.heap.size ≤ gb518)); have n5_ := n4_; have n6_ := q_ ((by rw [hg]; exact Nat.ne_of_lt (blk_lt (g := gb489) (by (with_reducible repeat (first | refine bN ?_ _ | refine bW ?_ | refine bA ?_ _)); exact BK489.out)) : gb489 ≠ gb518)); have n7_ := q_ ((by rw [hg]; exact Nat.ne_of_gt (blk_lt (g := gb489) (by (with_reducible repeat (first | refine bN ?_ _ | refine bW ?_ | refine bA ?_ _)); exact BK489.out)) : gb518 ≠ gb489)); have n8_ := q_ ((by rw [hg]; exact Nat.ne_of_lt (blk_lt (g := gb505) (by (with_reducible repeat (first | refine bN ?_ _ | refine bW ?_ | refine bA ?_ _)); exact BK505.out)) : gb505 ≠ gb518)); have n9_ := q_ ((by rw [hg]; exact Nat.ne_of_gt (blk_lt (g := gb505) (by (with_reducible repeat (first | refine bN ?_ _ | refine bW ?_ | refine bA ?_ _)); exact BK505.out)) : gb518 ≠ gb505)); clear BK489; clear BK505; clear HB; have BK489 := n0_; have BK505 := n1_; have HB := n2_; have BK518 := n3_; have GW518 := n4_; have GE518 := n5_; have NB489_518 := n6_; have NB518_489 := n7_; have NB505_518 := n8_; have NB518_505 := n9_; clear n0_ n1_ n2_ n3_ n4_ n5_ n6_ n7_ n8_ n9_; clear hb hbox hg; have hnb35 := NB518_489.out; have hnc35 := NB489_518.out; have hnb36 := NB518_505.out; have hnc36 := NB505_518.out) | ((with_reducible refine gate_callee (f := 22) rfl ?_); refine goesL_ (some 65) rfl rfl Tryd.func22 (by kernel_rfl) rfl #[.agg #[.string t506, .string t507, .int .i64 t508, .int .i64 t509, .int .i64 t510, .int .i64 t511, .int .i64 t512, .int .i64 t513, .int .i64 t514, .int .i64 t515, .int .i64 t516]] rfl (by first | rfl | (simp only [List.map_toArray]; rfl)) ?_; (with_reducible refine (order_Encode.calls kj8 t506 t507 t508 t509 t510 t511 t512 t513 t514 t515 t516 t519 t520 _ A29.out).mono ?_); rintro e w38 ⟨rfl, hb⟩; refine ⟨_, rfl, ?_⟩; have n0_ := q_ (bB (g := gb489) (by (with_reducible repeat (first | refine bN ?_ _ | refine bW ?_ | refine bA ?_ _)); exact BK489.out) hb); have n1_ := q_ (bB (g := gb505) (by (with_reducible repeat (first | refine bN ?_ _ | refine bW ?_ | refine bA ?_ _)); exact BK505.out) hb); have n2_ := q_ (bB (g := gb518) (by (with_reducible repeat (first | refine bN ?_ _ | refine bW ?_ | refine bA ?_ _)); exact BK518.out) hb); have n3_ := q_ (pT (by repeat (first | (with_reducible first | exact HB.out | apply pA | apply pN | apply p1 | refine pS ?_ GE489.out | refine pS ?_ GE505.out | refine pS ?_ GE518.out) | exact HB.out)) hb); clear BK489; clear BK505; clear BK518; clear HB; have BK489 := n0_; have BK505 := n1_; have BK518 := n2_; have HB := n3_; clear n0_ n1_ n2_ n3_; (try clear hb); (try clear hb2); (try clear hk); (try clear hi)) | (go_at_call 11; (with_reducible refine (sawmilllaw46_awake.calls  t521 _ A32.out).mono ?_); rintro e w39 ⟨rfl, hb⟩; have n0_ := q_ (bB (g := gb489) (by (with_reducible repeat (first | refine bN ?_ _ | refine bW ?_ | refine bA ?_ _)); exact BK489.out) hb); have n1_ := q_ (bB (g := gb505) (by (with_reducible repeat (first | refine bN ?_ _ | refine bW ?_ | refine bA ?_ _)); exact BK505.out) hb); have n2_ := q_ (bB (g := gb518) (by (with_reducible repeat (first | refine bN ?_ _ | refine bW ?_ | refine bA ?_ _)); exact BK518.out) hb); have n3_ := q_ (pT (by repeat (first | (with_reducible first | exact HB.out | apply pA | apply pN | apply p1 | refine pS ?_ GE489.out | refine pS ?_ GE505.out | refine pS ?_ GE518.out) | exact HB.out)) hb); clear BK489; clear BK505; clear BK518; clear HB; have BK489 := n0_; have BK505 := n1_; have BK518 := n2_; have HB := n3_; clear n0_ n1_ n2_ n3_; (try clear hb); (try clear hb2); (try clear hk); (try clear hi)))
        go_ret
        exact ⟨by first | rfl | (simp [*] <;> rfl), by repeat (first | (with_reducible first | exact HB.out | apply pA | apply pN | apply p1 | refine pS ?_ GE489.out | refine pS ?_ GE505.out | refine pS ?_ GE518.out) | exact HB.out)⟩
       ·rw [if_neg c31] at H
        exact absurd H (by simp)
      ·rw [if_neg c30] at H
       exact absurd H (by simp)
     ·rw [if_neg c28] at H
      have c28b0 : (t517 == 0) = false := oC c28
      have c28b1 : (t517 != 0) = true := bne_iff_ne.mpr c28
      by_cases c40 : t517 = 5
      ·rw [if_pos c40] at H
       have c40b0 : (t517 == 5) = true := beq_iff_eq.mpr c40
       have c40b1 : (t517 != 5) = false := oD c40
       clear c40
       by_cases c41 : (t506.toList == ([] : List UInt8) && (t507.toList == ([] : List UInt8) && (t508 == 0 && (t509 == 0 && (t510 == 0 && (t511 == 0 && (t512 == 0 && (t513 == 0 && (t514 == 0 && (t515 == 0 && (t516 == 0))))))))))) = true
       ·rw [if_pos c41] at H
        have c41b0 : (t506.toList == ([] : List UInt8) && (t507.toList == ([] : List UInt8) && (t508 == 0 && (t509 == 0 && (t510 == 0 && (t511 == 0 && (t512 == 0 && (t513 == 0 && (t514 == 0 && (t515 == 0 && (t516 == 0))))))))))) = true := c41
        (try (have c41b3 : (t506.toList = ([] : List UInt8) ∧ t507.toList = ([] : List UInt8) ∧ t508 = 0 ∧ t509 = 0 ∧ t510 = 0 ∧ t511 = 0 ∧ t512 = 0 ∧ t513 = 0 ∧ t514 = 0 ∧ t515 = 0 ∧ t516 = 0) = True := eq_true (by simpa using c41)))
        (try (have c41b1 : decide (t506.toList = ([] : List UInt8) && (t507.toList == ([] : List UInt8) && (t508 == 0 && (t509 == 0 && (t510 == 0 && (t511 == 0 && (t512 == 0 && (t513 == 0 && (t514 == 0 && (t515 == 0 && (t516 == 0))))))))))) = true := by simpa using c41))
        (try (have c41b2 : (t506.toList == ([] : List UInt8) && (t507.toList == ([] : List UInt8) && (t508 == 0 && (t509 == 0 && (t510 == 0 && (t511 == 0 && (t512 == 0 && (t513 == 0 && (t514 == 0 && (t515 == 0 && (t516 == 0))))))))))) = true := by simpa using c41))
        clear c41
        replace H := oB H
        obtain ⟨t522, A420, H⟩ := H
        replace H : (some t522) = some r := H
        have A42 := Aside0.mk A420
        clear A420
        obtain rfl := Option.some.inj H
        go_wp2_with (first | (refine wpList_store_row rfl 23 _ _ (by exact rfl) gb518 (by rfl) #[.string t506, .string t507, .int .i64 t508, .int .i64 t509, .int .i64 t510, .int .i64 t511, .int .i64 t512, .int .i64 t513, .int .i64 t514, .int .i64 t515, .int .i64 t516] (by rfl) BK518.out rfl rfl (by kernel_rfl) ?_; intro ws_ hbox hgr; (try replace BK489 := q_ (blk_grown BK489.out hgr (fun e => NB489_518.out (Option.some.inj e)))); (try replace BK505 := q_ (blk_grown BK505.out hgr (fun e => NB505_518.out (Option.some.inj e)))); replace BK518 := Aside0.mk hbox; replace HB := q_ (pw_below_grown HB.out _ (pZ HB.out) hgr (fun k hk => by obtain rfl := Option.some.inj hk; exact GE518.out)); clear hbox hgr) | (refine wpList_load_cells (by rfl) 23 _ (by exact rfl) ⟨gb518, 0, none⟩ (by rfl) _ _ (cells_of_blk (by (with_reducible repeat (first | refine bN ?_ _ | refine bW ?_ | refine bA ?_ _)); exact BK518.out)) Tryd.underlying23 rfl (by kernel_rfl) ?_) | ((with_reducible refine gate_callee (f := 24) rfl ?_); refine goesL_ (some 48) rfl rfl Tryd.func24 (by kernel_rfl) rfl #[.string a1] rfl (by first | rfl | (simp only [List.map_toArray]; rfl)) ?_; (with_reducible refine (order_Decode.calls kj8 a1 t506 t507 t508 t509 t510 t511 t512 t513 t514 t515 t516 t517 _ A27.out).mono ?_); rintro e w43 ⟨rfl, hb⟩; refine ⟨_, rfl, ?_⟩; have n0_ := q_ (bB (g := gb489) (by (with_reducible repeat (first | refine bN ?_ _ | refine bW ?_ | refine bA ?_ _)); exact BK489.out) hb); have n1_ := q_ (bB (g := gb505) (by (with_reducible repeat (first | refine bN ?_ _ | refine bW ?_ | refine bA ?_ _)); exact BK505.out) hb); have n2_ := q_ (pT (by repeat (first | (with_reducible first | exact HB.out | apply pA | apply pN | apply p1 | refine pS ?_ GE489.out | refine pS ?_ GE505.out) | exact HB.out)) hb); clear BK489; clear BK505; clear HB; have BK489 := n0_; have BK505 := n1_; have HB := n2_; clear n0_ n1_ n2_; (try clear hb); (try clear hb2); (try clear hk); (try clear hi)) | ((with_reducible refine gate_dst (N := 9) rfl ?_); refine box_event ?hg (N := 9) ?hd (cs := #[.string (⟨#[]⟩ : ByteArray), .string (⟨#[]⟩ : ByteArray), .int .i64 0, .int .i64 0, .int .i64 0, .int .i64 0, .int .i64 0, .int .i64 0, .int .i64 0, .int .i64 0, .int .i64 0]) (t := 23) ?hr ?_; (case hd => rfl); (case hg => rfl); (case hr => first | (go_simp; done) | (go_simp; rfl)); intro gb518 hg w44 hbox hb; have n0_ := q_ (bB (g := gb489) (by (with_reducible repeat (first | refine bN ?_ _ | refine bW ?_ | refine bA ?_ _)); exact BK489.out) hb); have n1_ := q_ (bB (g := gb505) (by (with_reducible repeat (first | refine bN ?_ _ | refine bW ?_ | refine bA ?_ _)); exact BK505.out) hb); have n2_ := q_ (pT (by repeat (first | (with_reducible first | exact HB.out | apply pA | apply pN | apply p1 | refine pS ?_ GE489.out | refine pS ?_ GE505.out) | exact HB.out)) hb); have n3_ := q_ (hbox); have n4_ := q_ ((by rw [hg]; exact (pZ (by repeat (first | (with_reducible first | exact HB.out | apply pA | apply pN | apply p1 | refine pS ?_ GE489.out | refine pS ?_ GE505.out) | exact HB.out))) : w.heap.size ≤ gb518)); have n5_ := n4_; have n6_ := q_ ((by rw [hg]; exact Nat.ne_of_lt (blk_lt (g := gb489) (by (with_reducible repeat (first | refine bN ?_ _ | refine bW ?_ | refine bA ?_ _)); exact BK489.out)) : gb489 ≠ gb518)); have n7_ := q_ ((by rw [hg]; exact Nat.ne_of_gt (blk_lt (g := gb489) (by (with_reducible repeat (first | refine bN ?_ _ | refine bW ?_ | refine bA ?_ _)); exact BK489.out)) : gb518 ≠ gb489)); have n8_ := q_ ((by rw [hg]; exact Nat.ne_of_lt (blk_lt (g := gb505) (by (with_reducible repeat (first | refine bN ?_ _ | refine bW ?_ | refine bA ?_ _)); exact BK505.out)) : gb505 ≠ gb518)); have n9_ := q_ ((by rw [hg]; exact Nat.ne_of_gt (blk_lt (g := gb505) (by (with_reducible repeat (first | refine bN ?_ _ | refine bW ?_ | refine bA ?_ _)); exact BK505.out)) : gb518 ≠ gb505)); clear BK489; clear BK505; clear HB; have BK489 := n0_; have BK505 := n1_; have HB := n2_; have BK518 := n3_; have GW518 := n4_; have GE518 := n5_; have NB489_518 := n6_; have NB518_489 := n7_; have NB505_518 := n8_; have NB518_505 := n9_; clear n0_ n1_ n2_ n3_ n4_ n5_ n6_ n7_ n8_ n9_; clear hb hbox hg; have hnb45 := NB518_489.out; have hnc45 := NB489_518.out; have hnb46 := NB518_505.out; have hnc46 := NB505_518.out) | (go_at_call 11; (with_reducible refine (sawmilllaw46_awake.calls  t522 _ A42.out).mono ?_); rintro e w48 ⟨rfl, hb⟩; have n0_ := q_ (bB (g := gb489) (by (with_reducible repeat (first | refine bN ?_ _ | refine bW ?_ | refine bA ?_ _)); exact BK489.out) hb); have n1_ := q_ (bB (g := gb505) (by (with_reducible repeat (first | refine bN ?_ _ | refine bW ?_ | refine bA ?_ _)); exact BK505.out) hb); have n2_ := q_ (bB (g := gb518) (by (with_reducible repeat (first | refine bN ?_ _ | refine bW ?_ | refine bA ?_ _)); exact BK518.out) hb); have n3_ := q_ (pT (by repeat (first | (with_reducible first | exact HB.out | apply pA | apply pN | apply p1 | refine pS ?_ GE489.out | refine pS ?_ GE505.out | refine pS ?_ GE518.out) | exact HB.out)) hb); clear BK489; clear BK505; clear BK518; clear HB; have BK489 := n0_; have BK505 := n1_; have BK518 := n2_; have HB := n3_; clear n0_ n1_ n2_ n3_; (try clear hb); (try clear hb2); (try clear hk); (try clear hi)))
        go_ret
        exact ⟨by first | rfl | (simp [*] <;> rfl), by repeat (first | (with_reducible first | exact HB.out | apply pA | apply pN | apply p1 | refine pS ?_ GE489.out | refine pS ?_ GE505.out | refine pS ?_ GE518.out) | exact HB.out)⟩
       ·rw [if_neg c41] at H
        exact absurd H (by simp)
      ·rw [if_neg c40] at H
       exact absurd H (by simp)
end Go.Proofs.YtblmgmhjlbkncaaDoor.PA
namespace Go.Proofs.YtblmgmhjlbkncaaDoor.PA
open Go.RowKit Go.Proofs.YtblmgmhjlbkncaaDoorW.PrintWords Go.Proofs.YtblmgmhjlbkncaaDoorW.PrintLast Go.Proofs.YtblmgmhjlbkncaaDoorW.PrintMore
attribute [local go_sem] max2_int min2_int max_two min_two max_three min_three max_four min_four
set_option linter.unusedVariables false
set_option linter.unusedSimpArgs false
end Go.Proofs.YtblmgmhjlbkncaaDoor.PA
namespace Go.Proofs.YtblmgmhjlbkncaaDoor.PA
open Go.RowKit Go.Proofs.YtblmgmhjlbkncaaDoorW.PrintWords Go.Proofs.YtblmgmhjlbkncaaDoorW.PrintLast Go.Proofs.YtblmgmhjlbkncaaDoorW.PrintMore
attribute [local go_sem] max2_int min2_int max_two min_two max_three min_three max_four min_four
set_option linter.unusedVariables false
set_option linter.unusedSimpArgs false
end Go.Proofs.YtblmgmhjlbkncaaDoor.PA
namespace Go.Proofs.YtblmgmhjlbkncaaDoor.PA
open Go.RowKit Go.Proofs.YtblmgmhjlbkncaaDoorW.PrintWords Go.Proofs.YtblmgmhjlbkncaaDoorW.PrintLast Go.Proofs.YtblmgmhjlbkncaaDoorW.PrintMore
attribute [local go_sem] max2_int min2_int max_two min_two max_three min_three max_four min_four
set_option linter.unusedVariables false
set_option linter.unusedSimpArgs false
end Go.Proofs.YtblmgmhjlbkncaaDoor.PA
namespace Go.Proofs.YtblmgmhjlbkncaaDoor.PA
open Go.RowKit Go.Proofs.YtblmgmhjlbkncaaDoorW.PrintWords Go.Proofs.YtblmgmhjlbkncaaDoorW.PrintLast Go.Proofs.YtblmgmhjlbkncaaDoorW.PrintMore
attribute [local go_sem] max2_int min2_int max_two min_two max_three min_three max_four min_four
set_option linter.unusedVariables false
set_option linter.unusedSimpArgs false
end Go.Proofs.YtblmgmhjlbkncaaDoor.PA
namespace Go.Proofs.YtblmgmhjlbkncaaDoor.PA
open Go.RowKit Go.Proofs.YtblmgmhjlbkncaaDoorW.PrintWords Go.Proofs.YtblmgmhjlbkncaaDoorW.PrintLast Go.Proofs.YtblmgmhjlbkncaaDoorW.PrintMore
attribute [local go_sem] max2_int min2_int max_two min_two max_three min_three max_four min_four
set_option linter.unusedVariables false
set_option linter.unusedSimpArgs false
end Go.Proofs.YtblmgmhjlbkncaaDoor.PA
namespace Go.Proofs.YtblmgmhjlbkncaaDoor.PA
open Go.RowKit Go.Proofs.YtblmgmhjlbkncaaDoorW.PrintWords Go.Proofs.YtblmgmhjlbkncaaDoorW.PrintLast Go.Proofs.YtblmgmhjlbkncaaDoorW.PrintMore
attribute [local go_sem] max2_int min2_int max_two min_two max_three min_three max_four min_four
set_option linter.unusedVariables false
set_option linter.unusedSimpArgs false
end Go.Proofs.YtblmgmhjlbkncaaDoor.PA
namespace Go.Proofs.YtblmgmhjlbkncaaDoor.PA
open Go.RowKit Go.Proofs.YtblmgmhjlbkncaaDoorW.PrintWords Go.Proofs.YtblmgmhjlbkncaaDoorW.PrintLast Go.Proofs.YtblmgmhjlbkncaaDoorW.PrintMore
attribute [local go_sem] max2_int min2_int max_two min_two max_three min_three max_four min_four
set_option linter.unusedVariables false
set_option linter.unusedSimpArgs false
end Go.Proofs.YtblmgmhjlbkncaaDoor.PA
namespace Go.Proofs.YtblmgmhjlbkncaaDoor.PA
open Go.RowKit Go.Proofs.YtblmgmhjlbkncaaDoorW.PrintWords Go.Proofs.YtblmgmhjlbkncaaDoorW.PrintLast Go.Proofs.YtblmgmhjlbkncaaDoorW.PrintMore
attribute [local go_sem] max2_int min2_int max_two min_two max_three min_three max_four min_four
set_option linter.unusedVariables false
set_option linter.unusedSimpArgs false
end Go.Proofs.YtblmgmhjlbkncaaDoor.PA
namespace Go.Proofs.YtblmgmhjlbkncaaDoor.PA
open Go.RowKit Go.Proofs.YtblmgmhjlbkncaaDoorW.PrintWords Go.Proofs.YtblmgmhjlbkncaaDoorW.PrintLast Go.Proofs.YtblmgmhjlbkncaaDoorW.PrintMore
attribute [local go_sem] max2_int min2_int max_two min_two max_three min_three max_four min_four
set_option linter.unusedVariables false
set_option linter.unusedSimpArgs false
end Go.Proofs.YtblmgmhjlbkncaaDoor.PA
namespace Go.Proofs.YtblmgmhjlbkncaaDoor.PA
open Go.RowKit Go.Proofs.YtblmgmhjlbkncaaDoorW.PrintWords Go.Proofs.YtblmgmhjlbkncaaDoorW.PrintLast Go.Proofs.YtblmgmhjlbkncaaDoorW.PrintMore
attribute [local go_sem] max2_int min2_int max_two min_two max_three min_three max_four min_four
set_option linter.unusedVariables false
set_option linter.unusedSimpArgs false
end Go.Proofs.YtblmgmhjlbkncaaDoor.PA
namespace Go.Proofs.YtblmgmhjlbkncaaDoor.PA
open Go.RowKit Go.Proofs.YtblmgmhjlbkncaaDoorW.PrintWords Go.Proofs.YtblmgmhjlbkncaaDoorW.PrintLast Go.Proofs.YtblmgmhjlbkncaaDoorW.PrintMore
attribute [local go_sem] max2_int min2_int max_two min_two max_three min_three max_four min_four
set_option linter.unusedVariables false
set_option linter.unusedSimpArgs false
end Go.Proofs.YtblmgmhjlbkncaaDoor.PA
namespace Go.Proofs.YtblmgmhjlbkncaaDoor.PA
open Go.RowKit Go.Proofs.YtblmgmhjlbkncaaDoorW.PrintWords Go.Proofs.YtblmgmhjlbkncaaDoorW.PrintLast Go.Proofs.YtblmgmhjlbkncaaDoorW.PrintMore
attribute [local go_sem] max2_int min2_int max_two min_two max_three min_three max_four min_four
set_option linter.unusedVariables false
set_option linter.unusedSimpArgs false
mutual
def sawmillref05_number.l0 : Nat → ByteArray → Int → Int → Int → Int → Option (Int × Int × Int)
 | 0, _, _, _, _, _ => none
 | k + 1, x0, x1, x7, x8, x9 => if x9 < 10 then (if (wrap64 (x1 + x9)) ≥ (x0.size : Int) then (some (0, x1, 3)) else (if 0 ≤ (wrap64 (x1 + x9)) then (if (wrap64 (x1 + x9)) < (x0.size : Int) then (if x9 = 9 then (sawmillref05_number.j1 k x0 x1 x7 x8 x9 (IntKind.u64.wrap (bt x0 (wrap64 (x1 + x9)))) (decide ((IntKind.u64.wrap (bt x0 (wrap64 (x1 + x9)))) > 1))) else (sawmillref05_number.j1 k x0 x1 x7 x8 x9 (IntKind.u64.wrap (bt x0 (wrap64 (x1 + x9)))) false)) else (none)) else (none))) else (some (0, x1, 5))
def sawmillref05_number.j1 : Nat → ByteArray → Int → Int → Int → Int → Int → Bool → Option (Int × Int × Int)
 | 0, _, _, _, _, _, _, _ => none
 | k + 1, x0, x1, x7, x8, x9, x10, x33 => if x33 = true then (some (0, x1, 5)) else (if x10 < 128 then (if x10 = 0 then (if x9 > 0 then (some (0, x1, 5)) else (some (IntKind.u64.wrap (x7 + (IntKind.u64.wrap ((Int.tmod x10 128) * x8))), wrap64 ((wrap64 (x1 + x9)) + 1), 0))) else (some (IntKind.u64.wrap (x7 + (IntKind.u64.wrap ((Int.tmod x10 128) * x8))), wrap64 ((wrap64 (x1 + x9)) + 1), 0))) else (sawmillref05_number.l0 k x0 x1 (IntKind.u64.wrap (x7 + (IntKind.u64.wrap ((Int.tmod x10 128) * x8)))) (IntKind.u64.wrap (x8 * 128)) (wrap64 (x9 + 1))))
end
def sawmillref05_number.f (k : Nat) (a0 : ByteArray) (a1 : Int) : Option (Int × Int × Int) := sawmillref05_number.l0 k a0 a1 0 1 0
def sawmillref05_fail.f (a0_0 : ByteArray) (a0_1 : Int) (a0_2 : Int) (a1 : Int) : Option (ByteArray × Int × Int) := some (a0_0, a0_1, a1)
def sawmillref05_ReadText.j0 : Nat → Int → Int → Bool → ByteArray → Int → Int → Option (ByteArray × Int × Int × ByteArray)
 | 0, _, _, _, _, _, _ => none
 | k + 1, x6, x7, x34, x384000, x384001, x384002 => if x34 = true then ((sawmillref05_fail.f x384000 x384001 x384002 4).bind fun bt391 => (some (bt391.1, bt391.2.1, bt391.2.2, (⟨#[]⟩ : ByteArray)))) else (if x6 > (IntKind.u64.wrap (wrap64 ((x384000.size : Int) - x7))) then ((sawmillref05_fail.f x384000 x384001 x384002 3).bind fun bt394 => (some (bt394.1, bt394.2.1, bt394.2.2, (⟨#[]⟩ : ByteArray)))) else (if 0 ≤ x7 then (if x7 ≤ (wrap64 (x7 + (wrap64 (x6)))) then (if (wrap64 (x7 + (wrap64 (x6)))) ≤ (x384000.size : Int) then (some (x384000, wrap64 (x7 + (wrap64 (x6))), x384002, x384000.extract (x7 : Int).toNat ((wrap64 (x7 + (wrap64 (x6)))) : Int).toNat)) else (none)) else (none)) else (none)))
def sawmillref05_ReadText.f (k : Nat) (a0_0 : ByteArray) (a0_1 : Int) (a0_2 : Int) (a1 : Int) : Option (ByteArray × Int × Int × ByteArray) := if a0_2 = 0 then ((sawmillref05_number.f k a0_0 a0_1).bind fun bt385 => (if bt385.2.2 = 0 then (if a1 < 0 then (sawmillref05_ReadText.j0 k bt385.1 bt385.2.1 true a0_0 a0_1 a0_2) else (sawmillref05_ReadText.j0 k bt385.1 bt385.2.1 (decide (bt385.1 > (IntKind.u64.wrap (a1)))) a0_0 a0_1 a0_2)) else ((sawmillref05_fail.f a0_0 a0_1 a0_2 bt385.2.2).bind fun bt388 => (some (bt388.1, bt388.2.1, bt388.2.2, (⟨#[]⟩ : ByteArray)))))) else (some (a0_0, a0_1, a0_2, (⟨#[]⟩ : ByteArray)))
def sawmillref05_NewReader.f (a0 : ByteArray) : Option (ByteArray × Int × Int) := some (a0, 0, 0)
def sawmillref05_signed.f (k : Nat) (a0 : ByteArray) (a1 : Int) (a2 : Int) (a3 : Int) : Option (Int × Int × Int) := (sawmillref05_number.f k a0 a1).bind fun bt398 => (if bt398.2.2 = 0 then (if (Int.tmod bt398.1 2) = 1 then (if (wrap64 ((wrap64 (-(wrap64 (IntKind.u64.wrap (Int.tdiv bt398.1 2))))) - 1)) < a2 then (some (0, a1, 9)) else (if (wrap64 ((wrap64 (-(wrap64 (IntKind.u64.wrap (Int.tdiv bt398.1 2))))) - 1)) > a3 then (some (0, a1, 9)) else (some (wrap64 ((wrap64 (-(wrap64 (IntKind.u64.wrap (Int.tdiv bt398.1 2))))) - 1), bt398.2.1, 0)))) else (if (wrap64 (IntKind.u64.wrap (Int.tdiv bt398.1 2))) < a2 then (some (0, a1, 9)) else (if (wrap64 (IntKind.u64.wrap (Int.tdiv bt398.1 2))) > a3 then (some (0, a1, 9)) else (some (wrap64 (IntKind.u64.wrap (Int.tdiv bt398.1 2)), bt398.2.1, 0))))) else (some (0, a1, bt398.2.2)))
end Go.Proofs.YtblmgmhjlbkncaaDoor.PA
namespace Go.Proofs.YtblmgmhjlbkncaaDoor.PA
open Go.RowKit Go.Proofs.YtblmgmhjlbkncaaDoorW.PrintWords Go.Proofs.YtblmgmhjlbkncaaDoorW.PrintLast Go.Proofs.YtblmgmhjlbkncaaDoorW.PrintMore
attribute [local go_sem] max2_int min2_int max_two min_two max_three min_three max_four min_four
set_option linter.unusedVariables false
set_option linter.unusedSimpArgs false
mutual
def sawmillref05_ReadInts.j0 : Nat → Int → Int → Int → Int → Bool → ByteArray → Int → Int → Option (ByteArray × Int × Int × List Int)
 | 0, _, _, _, _, _, _, _, _ => none
 | k + 1, x2, x3, x10, x11, x42, x402000, x402001, x402002 => if x42 = true then ((sawmillref05_fail.f x402000 x402001 x402002 4).bind fun bt409 => (some (bt409.1, bt409.2.1, bt409.2.2, ([] : List Int)))) else (sawmillref05_ReadInts.l0 k x2 x3 x10 x11 (([] : List Int)) x402000 x402001 x402002)
def sawmillref05_ReadInts.l0 : Nat → Int → Int → Int → Int → List Int → ByteArray → Int → Int → Option (ByteArray × Int × Int × List Int)
 | 0, _, _, _, _, _, _, _, _ => none
 | k + 1, x2, x3, x10, x11, x13, x402000, x402001, x402002 => if (IntKind.u64.wrap ((x13.length : Int))) < x10 then ((sawmillref05_signed.f k x402000 x11 x2 x3).bind fun bt415 => (if bt415.2.2 = 0 then (if x13.length < 17592186044416 then (sawmillref05_ReadInts.l0 k x2 x3 x10 bt415.2.1 (x13 ++ [bt415.1]) x402000 x402001 x402002) else (none)) else ((sawmillref05_fail.f x402000 x402001 x402002 bt415.2.2).bind fun bt421 => (some (bt421.1, bt421.2.1, bt421.2.2, ([] : List Int)))))) else (some (x402000, x11, x402002, x13))
end
def sawmillref05_ReadInts.f (k : Nat) (a0_0 : ByteArray) (a0_1 : Int) (a0_2 : Int) (a1 : Int) (a2 : Int) (a3 : Int) : Option (ByteArray × Int × Int × List Int) := if a0_2 = 0 then ((sawmillref05_number.f k a0_0 a0_1).bind fun bt403 => (if bt403.2.2 = 0 then (if a1 < 0 then (sawmillref05_ReadInts.j0 k a2 a3 bt403.1 bt403.2.1 true a0_0 a0_1 a0_2) else (sawmillref05_ReadInts.j0 k a2 a3 bt403.1 bt403.2.1 (decide (bt403.1 > (IntKind.u64.wrap (a1)))) a0_0 a0_1 a0_2)) else ((sawmillref05_fail.f a0_0 a0_1 a0_2 bt403.2.2).bind fun bt406 => (some (bt406.1, bt406.2.1, bt406.2.2, ([] : List Int)))))) else (some (a0_0, a0_1, a0_2, ([] : List Int)))
def sawmillref05_Left.f (a0_0 : ByteArray) (a0_1 : Int) (a0_2 : Int) : Option (Int) := some (wrap64 ((a0_0.size : Int) - a0_1))
def sawmillref05_End.f (a0_0 : ByteArray) (a0_1 : Int) (a0_2 : Int) : Option (Int) := if a0_2 = 0 then ((sawmillref05_Left.f a0_0 a0_1 a0_2).bind fun t426 => (if t426 > 0 then (some 4) else (some a0_2))) else (some a0_2)
end Go.Proofs.YtblmgmhjlbkncaaDoor.PA
namespace Go.Proofs.YtblmgmhjlbkncaaDoor.PA
open Go.RowKit Go.Proofs.YtblmgmhjlbkncaaDoorW.PrintWords Go.Proofs.YtblmgmhjlbkncaaDoorW.PrintLast Go.Proofs.YtblmgmhjlbkncaaDoorW.PrintMore
attribute [local go_sem] max2_int min2_int max_two min_two max_three min_three max_four min_four
set_option linter.unusedVariables false
set_option linter.unusedSimpArgs false
attribute [local go_sem high] eqA23
def sawmillref46_Decode.f (k : Nat) (a0 : ByteArray) : Option (ByteArray × ByteArray × Int × Int × Int × Int × Int × Int × Int × Int × Int × Int) := (sawmillref05_NewReader.f a0).bind fun bt428 => ((sawmillref05_ReadText.f k bt428.1 bt428.2.1 bt428.2.2 16).bind fun bt431 => ((sawmillref05_ReadText.f k bt431.1 bt431.2.1 bt431.2.2.1 16).bind fun bt436 => ((sawmillref05_ReadInts.f k bt436.1 bt436.2.1 bt436.2.2.1 9 (-1099511627776) 1099511627776).bind fun bt440 => ((sawmillref05_End.f bt440.1 bt440.2.1 bt440.2.2.1).bind fun t446 => (if t446 = 0 then (if (bt440.2.2.2.length : Int) = 9 then (if 0 < (bt440.2.2.2.length : Int) then (if 1 < (bt440.2.2.2.length : Int) then (if 2 < (bt440.2.2.2.length : Int) then (if 3 < (bt440.2.2.2.length : Int) then (if 4 < (bt440.2.2.2.length : Int) then (if 5 < (bt440.2.2.2.length : Int) then (if 6 < (bt440.2.2.2.length : Int) then (if 7 < (bt440.2.2.2.length : Int) then (if 8 < (bt440.2.2.2.length : Int) then (some (bt431.2.2.2, bt436.2.2.2, rd bt440.2.2.2 0, rd bt440.2.2.2 1, rd bt440.2.2.2 2, rd bt440.2.2.2 3, rd bt440.2.2.2 4, rd bt440.2.2.2 5, rd bt440.2.2.2 6, rd bt440.2.2.2 7, rd bt440.2.2.2 8, 0)) else (none)) else (none)) else (none)) else (none)) else (none)) else (none)) else (none)) else (none)) else (none)) else (some ((⟨#[]⟩ : ByteArray), (⟨#[]⟩ : ByteArray), 0, 0, 0, 0, 0, 0, 0, 0, 0, 5))) else (some ((⟨#[]⟩ : ByteArray), (⟨#[]⟩ : ByteArray), 0, 0, 0, 0, 0, 0, 0, 0, 0, 5)))))))
end Go.Proofs.YtblmgmhjlbkncaaDoor.PA
