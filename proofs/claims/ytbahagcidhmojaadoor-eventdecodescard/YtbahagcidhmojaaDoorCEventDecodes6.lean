/- Each Go function that the law reaches as a Lean function, and that its call comes to that function's answer. -/
import Derived.Test.YtbahagcidhmojaaDoorCEventDecodes5
import Derived.Test.YtbahagcidhmojaaDoorVEventDecodes
import Derived.Test.YtbahagcidhmojaaDoorProg
import Derived.Test.YtbahagcidhmojaaDoorShelf
import Derived.Below
import Derived.Deep.Draws
import Derived.Deep.AppendLies
import Derived.Maps.AppendAt
import Derived.OwnWalk
import Derived.Laws.BytesArg
import Derived.Laws.MakeOwn
import Derived.Laws.OwnMore
import Derived.Deep.OwnRows
import Derived.Tactics
import Derived.Lib.ConvBytes
import Derived.Laws.Slices
import Derived.WalkKit
import Derived.KernelRfl
import Derived.RowKit3
import Derived.Deep.LoopGhost
import Derived.Deep.QuietTactic
import Derived.BigQuiet
import Derived.WideLaws
import Derived.Deep.DeepCutAuto
import Derived.Deep.CutBlock
import Derived.Deep.RegionHeld3
import Derived.Laws.Rows
import Derived.Lib.AppendStr
import Derived.ArgAppend
import Derived.Laws.IdiomCopy
import Derived.OrdersHeld
import Derived.Laws.BitsLemmas
import Derived.RowKit
import Derived.LoopN
import Derived.Laws.EntriesVeiled
import Derived.LaidSub
import Derived.MakeChecks
import Derived.Lib.LaidTab
namespace Go.Proofs.YtbahagcidhmojaaDoor.PA
open Go.RowKit Go.Proofs.YtbahagcidhmojaaDoorW.PrintWords Go.Proofs.YtbahagcidhmojaaDoorW.PrintLast Go.Proofs.YtbahagcidhmojaaDoorW.PrintMore
attribute [local go_sem] max2_int min2_int max_two min_two max_three min_three max_four min_four
set_option linter.unusedVariables false
set_option linter.unusedSimpArgs false
def sawmillref05_ReadText.j0 : Nat → Int → Int → Bool → ByteArray → Int → Int → Option (ByteArray × Int × Int × ByteArray)
 | 0, _, _, _, _, _, _ => none
 | k + 1, x6, x7, x34, x396000, x396001, x396002 => if x34 = true then ((sawmillref05_fail.f x396000 x396001 x396002 4).bind fun bt403 => (some (bt403.1, bt403.2.1, bt403.2.2, (⟨#[]⟩ : ByteArray)))) else (if x6 > (IntKind.u64.wrap (wrap64 ((x396000.size : Int) - x7))) then ((sawmillref05_fail.f x396000 x396001 x396002 3).bind fun bt406 => (some (bt406.1, bt406.2.1, bt406.2.2, (⟨#[]⟩ : ByteArray)))) else (if 0 ≤ x7 then (if x7 ≤ (wrap64 (x7 + (wrap64 (x6)))) then (if (wrap64 (x7 + (wrap64 (x6)))) ≤ (x396000.size : Int) then (some (x396000, wrap64 (x7 + (wrap64 (x6))), x396002, x396000.extract (x7 : Int).toNat ((wrap64 (x7 + (wrap64 (x6)))) : Int).toNat)) else (none)) else (none)) else (none)))
def sawmillref05_ReadText.f (k : Nat) (a0_0 : ByteArray) (a0_1 : Int) (a0_2 : Int) (a1 : Int) : Option (ByteArray × Int × Int × ByteArray) := if a0_2 = 0 then ((sawmillref05_number.f k a0_0 a0_1).bind fun bt397 => (if bt397.2.2 = 0 then (if a1 < 0 then (sawmillref05_ReadText.j0 k bt397.1 bt397.2.1 true a0_0 a0_1 a0_2) else (sawmillref05_ReadText.j0 k bt397.1 bt397.2.1 (decide (bt397.1 > (IntKind.u64.wrap (a1)))) a0_0 a0_1 a0_2)) else ((sawmillref05_fail.f a0_0 a0_1 a0_2 bt397.2.2).bind fun bt400 => (some (bt400.1, bt400.2.1, bt400.2.2, (⟨#[]⟩ : ByteArray)))))) else (some (a0_0, a0_1, a0_2, (⟨#[]⟩ : ByteArray)))
def sawmillref05_ReadText.T11 : Bool × List (List Nat × List Nat) := (true, [([], []), ([], []), ([1], [1]), ([], []), ([], []), ([4], [4]), ([2, 3, 5], [2, 3, 5]), ([0, 0], [0]), ([6, 7, 0, 1, 2, 3, 4, 5, 6, 7], [6])])
def sawmillref05_ReadText.B11 : List Nat := [0, 0, 2, 0, 0, 16, 62, 1, 255]
theorem sawmillref05_ReadText.tab11 : rtab .any (opsOf Tryd.f42 11) = sawmillref05_ReadText.T11 := by kernel_rfl
theorem sawmillref05_ReadText.bits11 : waitsOk sawmillref05_ReadText.T11.2 sawmillref05_ReadText.B11 = true := by kernel_rfl
set_option maxHeartbeats 8000000 in
set_option maxRecDepth 100000 in
theorem sawmillref05_ReadText.calls (k : Nat) (a0_0 : ByteArray) (a0_1 : Int) (a0_2 : Int) (a1 : Int) (r1 : ByteArray) (r2 : Int) (r3 : Int) (r4 : ByteArray) (w : World) (h : sawmillref05_ReadText.f k a0_0 a0_1 a0_2 a1 = some (r1, r2, r3, r4)) :
  Calls Tryd.prog 42 #[.agg #[.string a0_0, .int .i64 a0_1, .int .i64 a0_2], .int .i64 a1] w fun e w' => e = .returned (.tuple #[.agg #[.string r1, .int .i64 r2, .int .i64 r3], .string r4]) ∧ Below w.heap.size w w' := by
 have hu62 := Tryd.underlying62
 have HB := q_ (Below.refl w.heap.size w)
 have H : (if a0_2 = 0 then ((sawmillref05_number.f k a0_0 a0_1).bind fun bt397 => (if bt397.2.2 = 0 then (if a1 < 0 then (sawmillref05_ReadText.j0 k bt397.1 bt397.2.1 true a0_0 a0_1 a0_2) else (sawmillref05_ReadText.j0 k bt397.1 bt397.2.1 (decide (bt397.1 > (IntKind.u64.wrap (a1)))) a0_0 a0_1 a0_2)) else ((sawmillref05_fail.f a0_0 a0_1 a0_2 bt397.2.2).bind fun bt400 => (some (bt400.1, bt400.2.1, bt400.2.2, (⟨#[]⟩ : ByteArray)))))) else (some (a0_0, a0_1, a0_2, (⟨#[]⟩ : ByteArray)))) = some (r1, r2, r3, r4) := h
 clear h
 by_cases c3 : a0_2 = 0
 ·rw [if_pos c3] at H
  have c3b0 : (a0_2 == 0) = true := beq_iff_eq.mpr c3
  have c3b1 : (a0_2 != 0) = false := oD c3
  clear c3
  replace H := oB H
  obtain ⟨⟨t397, t398, t399⟩, A40, H⟩ := H
  replace H : (if t399 = 0 then (if a1 < 0 then (sawmillref05_ReadText.j0 k t397 t398 true a0_0 a0_1 a0_2) else (sawmillref05_ReadText.j0 k t397 t398 (decide (t397 > (IntKind.u64.wrap (a1)))) a0_0 a0_1 a0_2)) else ((sawmillref05_fail.f a0_0 a0_1 a0_2 t399).bind fun bt400 => (some (bt400.1, bt400.2.1, bt400.2.2, (⟨#[]⟩ : ByteArray))))) = some (r1, r2, r3, r4) := H
  have A4 := Aside0.mk A40
  clear A40
  by_cases c5 : t399 = 0
  ·rw [if_pos c5] at H
   have c5b0 : (t399 == 0) = true := beq_iff_eq.mpr c5
   have c5b1 : (t399 != 0) = false := oD c5
   clear c5
   have HC6 := Aside0.mk H
   clear H
   go_enter Tryd.func42, Tryd.ntmps42
   go_upto_region 6 with (first | ((with_reducible refine gate_dst (N := 2) rfl ?_); refine box_event ?hg (N := 2) ?hd (cs := #[.string a0_0, .int .i64 a0_1, .int .i64 a0_2]) (t := 62) ?hr ?_; (case hd => rfl); (case hg => rfl); (case hr => first | (go_simp; done) | (go_simp; rfl)); intro gb395 hg w7 hbox hb; have n0_ := q_ (pT (by repeat (first | (with_reducible first | exact HB.out | apply pA | apply pN | apply p1) | exact HB.out)) hb); have n1_ := q_ (hbox); have n2_ := q_ ((by rw [hg]; exact (pZ (by repeat (first | (with_reducible first | exact HB.out | apply pA | apply pN | apply p1) | exact HB.out))) : w.heap.size ≤ gb395)); have n3_ := q_ ((by rw [hg]; exact (pZ (by repeat (first | (with_reducible first | exact HB.out | apply pA | apply pN | apply p1) | exact HB.out))) : w.heap.size ≤ gb395)); clear HB; have HB := n0_; have BK395 := n1_; have GW395 := n2_; have GE395 := n3_; clear n0_ n1_ n2_ n3_; clear hb hbox hg) | ((with_reducible refine gate_dst (N := 4) rfl ?_); refine box_event ?hg (N := 4) ?hd (cs := #[.string (⟨#[]⟩ : ByteArray), .int .i64 0, .int .i64 0]) (t := 62) ?hr ?_; (case hd => rfl); (case hg => rfl); (case hr => first | (go_simp; done) | (go_simp; rfl)); intro gb396 hg w8 hbox hb; have n0_ := q_ (bB (g := gb395) (o := .cells #[.string a0_0, .int .i64 a0_1, .int .i64 a0_2] 62 (0, 0)) (by (with_reducible repeat (first | refine bN ?_ _ | refine bW ?_ | refine bA ?_ _)); exact BK395.out) hb); have n1_ := q_ (pT (by repeat (first | (with_reducible first | exact HB.out | apply pA | apply pN | apply p1 | refine pS ?_ GE395.out) | exact HB.out)) hb); have n2_ := q_ (hbox); have n3_ := q_ ((by rw [hg]; exact (pZ (by repeat (first | (with_reducible first | exact HB.out | apply pA | apply pN | apply p1 | refine pS ?_ GE395.out) | exact HB.out))) : w.heap.size ≤ gb396)); have n4_ := q_ ((by rw [hg]; exact (pZ (by repeat (first | (with_reducible first | exact HB.out | apply pA | apply pN | apply p1 | refine pS ?_ GE395.out) | exact HB.out))) : w.heap.size ≤ gb396)); have n5_ := q_ ((by rw [hg]; exact Nat.ne_of_lt (blk_lt (g := gb395) (o := .cells #[.string a0_0, .int .i64 a0_1, .int .i64 a0_2] 62 (0, 0)) (by (with_reducible repeat (first | refine bN ?_ _ | refine bW ?_ | refine bA ?_ _)); exact BK395.out)) : gb395 ≠ gb396)); have n6_ := q_ ((by rw [hg]; exact Nat.ne_of_gt (blk_lt (g := gb395) (o := .cells #[.string a0_0, .int .i64 a0_1, .int .i64 a0_2] 62 (0, 0)) (by (with_reducible repeat (first | refine bN ?_ _ | refine bW ?_ | refine bA ?_ _)); exact BK395.out)) : gb396 ≠ gb395)); clear BK395; clear HB; have BK395 := n0_; have HB := n1_; have BK396 := n2_; have GW396 := n3_; have GE396 := n4_; have NB395_396 := n5_; have NB396_395 := n6_; clear n0_ n1_ n2_ n3_ n4_ n5_ n6_; clear hb hbox hg; have hnb9 := NB395_396.out; have hnc9 := NB396_395.out; have hcz10_0 : w8.cell? ⟨gb395, 0, none⟩ = some (.string a0_0) := (bC BK395.out 0).trans rfl; have hcz10_1 : w8.cell? ⟨gb395, 1, none⟩ = some (.int .i64 a0_1) := (bC BK395.out 1).trans rfl; have hcz10_2 : w8.cell? ⟨gb395, 2, none⟩ = some (.int .i64 a0_2) := (bC BK395.out 2).trans rfl; have hfz10_0 := bF BK395.out 0; have hfz10_1 := bF BK395.out 1; have hfz10_2 := bF BK395.out 2) | ((with_reducible refine gate_callee (f := 66) rfl ?_); refine goesL_ (some 18) rfl rfl Tryd.func66 (by kernel_rfl) rfl #[.string a0_0, .int .i64 a0_1] rfl (by first | rfl | (simp only [List.map_toArray]; rfl)) ?_; (with_reducible refine (sawmillref05_number.calls k a0_0 a0_1 t397 t398 t399 _ A4.out).mono ?_); rintro e w' ⟨rfl, ⟨nd, rfl⟩⟩; refine ⟨_, rfl, ?_⟩))
   (try simp only [Act.put, List.setIfInBounds_toArray, List.set_cons_zero, List.set_cons_succ])
   go_cut [34] (fun v34 wc => ∃ (kq : Nat) (x34_5 : Bool), v34 = .bool x34_5 ∧ Aside0 (sawmillref05_ReadText.j0 kq t397 t398 x34_5 a0_0 a0_1 a0_2 = some (r1, r2, r3, r4)) ∧ Aside0 (kq ≤ k) ∧ Aside0 (wc.heap[gb395]? = some (.cells #[.string a0_0, .int .i64 a0_1, .int .i64 a0_2] 62 (0, 0))) ∧ Aside0 (wc.heap[gb396]? = some (.cells #[.string (⟨#[]⟩ : ByteArray), .int .i64 0, .int .i64 0] 62 (0, 0))) ∧ Aside0 (Below w.heap.size w wc))
   case first =>
    have H := HC6.out
    clear HC6
    by_cases c11 : a1 < 0
    ·rw [if_pos c11] at H
     have c11b0 : decide (a1 < 0) = true := decide_eq_true c11
     clear c11
     (first | rw [c11b0] | (simp only [i64_w, i32_w]; rw [c11b0]) | skip)
     have H' := Aside0.mk H
     clear H
     go_wp2
     go_meet
     case rel => exact ⟨_, (true), (by first | rfl | (simp; done) | (simp [*]; done)), H', ⟨by first | omega | exact Nat.le_refl _⟩, ⟨by (with_reducible repeat (first | refine bN ?_ _ | refine bW ?_ | refine bA ?_ _)); exact BK395.out⟩, ⟨by (with_reducible repeat (first | refine bN ?_ _ | refine bW ?_ | refine bA ?_ _)); exact BK396.out⟩, ⟨by repeat (first | (with_reducible first | exact HB.out | apply pA | apply pN | apply p1 | refine pS ?_ GE395.out | refine pS ?_ GE396.out) | exact HB.out)⟩⟩
    ·rw [if_neg c11] at H
     have c11b0 : decide (a1 < 0) = false := decide_eq_false c11
     clear c11
     (first | rw [c11b0] | (simp only [i64_w, i32_w]; rw [c11b0]) | skip)
     have H' := Aside0.mk H
     clear H
     go_wp2
     go_meet
     case rel => exact ⟨_, (decide (t397 > (IntKind.u64.wrap (a1)))), (by first | rfl | (simp; done) | (simp [*]; done)), H', ⟨by first | omega | exact Nat.le_refl _⟩, ⟨by (with_reducible repeat (first | refine bN ?_ _ | refine bW ?_ | refine bA ?_ _)); exact BK395.out⟩, ⟨by (with_reducible repeat (first | refine bN ?_ _ | refine bW ?_ | refine bA ?_ _)); exact BK396.out⟩, ⟨by repeat (first | (with_reducible first | exact HB.out | apply pA | apply pN | apply p1 | refine pS ?_ GE395.out | refine pS ?_ GE396.out) | exact HB.out)⟩⟩
   case rest =>
    clear HC6
    try clear c1
    try clear p2
    try clear c3
    try clear c3b0
    try clear c3b1
    try clear c4
    try clear c5
    try clear c5b0
    try clear c5b1
    try clear c6
    try clear c9
    try clear c11
    try clear c11b0
    try clear hcz10_0
    try clear hcz10_1
    try clear hcz10_2
    try clear hfz10_0
    try clear hfz10_1
    try clear hfz10_2
    obtain ⟨kq, x34_5, rfl, HA, HJ5, BK395, BK396, HB⟩ := hcut
    cases kq with
    | zero => exact absurd HA.out (by simp [sawmillref05_ReadText.j0])
    | succ kj5 =>
     have H := HA.out
     clear HA
     simp only [sawmillref05_ReadText.j0] at H
     by_cases c12 : x34_5 = true
     ·subst c12
      have H1 : ((sawmillref05_fail.f a0_0 a0_1 a0_2 4).bind fun bt403 => (some (bt403.1, bt403.2.1, bt403.2.2, (⟨#[]⟩ : ByteArray)))) = some (r1, r2, r3, r4) := by rw [if_pos rfl] at H; exact H
      clear H
      have H := H1
      clear H1
      replace H := oB H
      obtain ⟨⟨t403, t404, t405⟩, A130, H⟩ := H
      replace H : (some (t403, t404, t405, (⟨#[]⟩ : ByteArray))) = some (r1, r2, r3, r4) := H
      have A13 := Aside0.mk A130
      clear A130
      simp only [Option.some.injEq, Prod.mk.injEq] at H
      obtain ⟨rfl, rfl, rfl, rfl⟩ := H
      have hnb14 := NB395_396.out
      have hnc14 := NB396_395.out
      have hcz15_0 : wc.cell? ⟨gb395, 0, none⟩ = some (.string a0_0) := (bC BK395.out 0).trans rfl
      have hcz15_1 : wc.cell? ⟨gb395, 1, none⟩ = some (.int .i64 a0_1) := (bC BK395.out 1).trans rfl
      have hcz15_2 : wc.cell? ⟨gb395, 2, none⟩ = some (.int .i64 a0_2) := (bC BK395.out 2).trans rfl
      have hfz15_0 := bF BK395.out 0
      have hfz15_1 := bF BK395.out 1
      have hfz15_2 := bF BK395.out 2
      go_wp2_with (first | ((with_reducible refine gate_callee (f := 65) rfl ?_); refine goesL_ (some 36) rfl rfl Tryd.func65 (by kernel_rfl) rfl #[.agg #[.string a0_0, .int .i64 a0_1, .int .i64 a0_2], .int .i64 4] rfl (by first | rfl | (simp only [List.map_toArray]; rfl)) ?_; (with_reducible refine (sawmillref05_fail.calls a0_0 a0_1 a0_2 4 t403 t404 t405 _ A13.out).mono ?_); rintro e w16 ⟨rfl, hb⟩; refine ⟨_, rfl, ?_⟩; have n0_ := q_ (bB (g := gb395) (o := .cells #[.string a0_0, .int .i64 a0_1, .int .i64 a0_2] 62 (0, 0)) (by (with_reducible repeat (first | refine bN ?_ _ | refine bW ?_ | refine bA ?_ _)); exact BK395.out) hb); have n1_ := q_ (bB (g := gb396) (o := .cells #[.string (⟨#[]⟩ : ByteArray), .int .i64 0, .int .i64 0] 62 (0, 0)) (by (with_reducible repeat (first | refine bN ?_ _ | refine bW ?_ | refine bA ?_ _)); exact BK396.out) hb); have n2_ := q_ (pT (by repeat (first | (with_reducible first | exact HB.out | apply pA | apply pN | apply p1 | refine pS ?_ GE395.out | refine pS ?_ GE396.out) | exact HB.out)) hb); clear BK395; clear BK396; clear HB; have BK395 := n0_; have BK396 := n1_; have HB := n2_; clear n0_ n1_ n2_; (try clear hb); (try clear hb2); (try clear hk); (try clear hi); have hcz17_0 : w16.cell? ⟨gb396, 0, none⟩ = some (.string (⟨#[]⟩ : ByteArray)) := (bC BK396.out 0).trans rfl; have hcz17_1 : w16.cell? ⟨gb396, 1, none⟩ = some (.int .i64 0) := (bC BK396.out 1).trans rfl; have hcz17_2 : w16.cell? ⟨gb396, 2, none⟩ = some (.int .i64 0) := (bC BK396.out 2).trans rfl; have hfz17_0 := bF BK396.out 0; have hfz17_1 := bF BK396.out 1; have hfz17_2 := bF BK396.out 2))
      refine bodyPost_ret (results_ct rfl _ _ gb396 62 #[.string t403, .int .i64 t404, .int .i64 t405] (0, 0) _ rfl (by (with_reducible repeat (first | refine bN ?_ _ | refine bW ?_ | refine bA ?_ _)); refine blk_put (cs := #[.string t403, .int .i64 t404, .int .i64 0]) ?_ 2 _ rfl; (with_reducible repeat (first | refine bN ?_ _ | refine bW ?_ | refine bA ?_ _)); refine blk_put (cs := #[.string t403, .int .i64 0, .int .i64 0]) ?_ 1 _ rfl; (with_reducible repeat (first | refine bN ?_ _ | refine bW ?_ | refine bA ?_ _)); refine blk_put (cs := #[.string (⟨#[]⟩ : ByteArray), .int .i64 0, .int .i64 0]) ?_ 0 _ rfl; (with_reducible repeat (first | refine bN ?_ _ | refine bW ?_ | refine bA ?_ _)); exact BK396.out) Tryd.underlying62 rfl (by kernel_rfl)) rfl ?_
      exact ⟨by first | rfl | (simp [*] <;> rfl), by repeat (first | (with_reducible first | exact HB.out | apply pA | apply pN | apply p1 | refine pS ?_ GE395.out | refine pS ?_ GE396.out) | exact HB.out)⟩
     ·replace c12 := Bool.eq_false_iff.mpr c12
      subst c12
      have H1 : (if t397 > (IntKind.u64.wrap (wrap64 ((a0_0.size : Int) - t398))) then ((sawmillref05_fail.f a0_0 a0_1 a0_2 3).bind fun bt406 => (some (bt406.1, bt406.2.1, bt406.2.2, (⟨#[]⟩ : ByteArray)))) else (if 0 ≤ t398 then (if t398 ≤ (wrap64 (t398 + (wrap64 (t397)))) then (if (wrap64 (t398 + (wrap64 (t397)))) ≤ (a0_0.size : Int) then (some (a0_0, wrap64 (t398 + (wrap64 (t397))), a0_2, a0_0.extract (t398 : Int).toNat ((wrap64 (t398 + (wrap64 (t397)))) : Int).toNat)) else (none)) else (none)) else (none))) = some (r1, r2, r3, r4) := by rw [if_neg (show ¬ (false = true) by decide)] at H; exact H
      clear H
      have H := H1
      clear H1
      by_cases c18 : t397 > (IntKind.u64.wrap (wrap64 ((a0_0.size : Int) - t398)))
      ·rw [if_pos c18] at H
       have c18b0 : decide ((IntKind.u64.wrap (wrap64 ((a0_0.size : Int) - t398))) < t397) = true := decide_eq_true c18
       clear c18
       replace H := oB H
       obtain ⟨⟨t406, t407, t408⟩, A190, H⟩ := H
       replace H : (some (t406, t407, t408, (⟨#[]⟩ : ByteArray))) = some (r1, r2, r3, r4) := H
       have A19 := Aside0.mk A190
       clear A190
       simp only [Option.some.injEq, Prod.mk.injEq] at H
       obtain ⟨rfl, rfl, rfl, rfl⟩ := H
       have hnb20 := NB395_396.out
       have hnc20 := NB396_395.out
       have hcz21_0 : wc.cell? ⟨gb395, 0, none⟩ = some (.string a0_0) := (bC BK395.out 0).trans rfl
       have hcz21_1 : wc.cell? ⟨gb395, 1, none⟩ = some (.int .i64 a0_1) := (bC BK395.out 1).trans rfl
       have hcz21_2 : wc.cell? ⟨gb395, 2, none⟩ = some (.int .i64 a0_2) := (bC BK395.out 2).trans rfl
       have hfz21_0 := bF BK395.out 0
       have hfz21_1 := bF BK395.out 1
       have hfz21_2 := bF BK395.out 2
       go_wp2_with (first | ((with_reducible refine gate_callee (f := 65) rfl ?_); refine goesL_ (some 46) rfl rfl Tryd.func65 (by kernel_rfl) rfl #[.agg #[.string a0_0, .int .i64 a0_1, .int .i64 a0_2], .int .i64 3] rfl (by first | rfl | (simp only [List.map_toArray]; rfl)) ?_; (with_reducible refine (sawmillref05_fail.calls a0_0 a0_1 a0_2 3 t406 t407 t408 _ A19.out).mono ?_); rintro e w22 ⟨rfl, hb⟩; refine ⟨_, rfl, ?_⟩; have n0_ := q_ (bB (g := gb395) (o := .cells #[.string a0_0, .int .i64 a0_1, .int .i64 a0_2] 62 (0, 0)) (by (with_reducible repeat (first | refine bN ?_ _ | refine bW ?_ | refine bA ?_ _)); exact BK395.out) hb); have n1_ := q_ (bB (g := gb396) (o := .cells #[.string (⟨#[]⟩ : ByteArray), .int .i64 0, .int .i64 0] 62 (0, 0)) (by (with_reducible repeat (first | refine bN ?_ _ | refine bW ?_ | refine bA ?_ _)); exact BK396.out) hb); have n2_ := q_ (pT (by repeat (first | (with_reducible first | exact HB.out | apply pA | apply pN | apply p1 | refine pS ?_ GE395.out | refine pS ?_ GE396.out) | exact HB.out)) hb); clear BK395; clear BK396; clear HB; have BK395 := n0_; have BK396 := n1_; have HB := n2_; clear n0_ n1_ n2_; (try clear hb); (try clear hb2); (try clear hk); (try clear hi); have hcz23_0 : w22.cell? ⟨gb396, 0, none⟩ = some (.string (⟨#[]⟩ : ByteArray)) := (bC BK396.out 0).trans rfl; have hcz23_1 : w22.cell? ⟨gb396, 1, none⟩ = some (.int .i64 0) := (bC BK396.out 1).trans rfl; have hcz23_2 : w22.cell? ⟨gb396, 2, none⟩ = some (.int .i64 0) := (bC BK396.out 2).trans rfl; have hfz23_0 := bF BK396.out 0; have hfz23_1 := bF BK396.out 1; have hfz23_2 := bF BK396.out 2))
       refine bodyPost_ret (results_ct rfl _ _ gb396 62 #[.string t406, .int .i64 t407, .int .i64 t408] (0, 0) _ rfl (by (with_reducible repeat (first | refine bN ?_ _ | refine bW ?_ | refine bA ?_ _)); refine blk_put (cs := #[.string t406, .int .i64 t407, .int .i64 0]) ?_ 2 _ rfl; (with_reducible repeat (first | refine bN ?_ _ | refine bW ?_ | refine bA ?_ _)); refine blk_put (cs := #[.string t406, .int .i64 0, .int .i64 0]) ?_ 1 _ rfl; (with_reducible repeat (first | refine bN ?_ _ | refine bW ?_ | refine bA ?_ _)); refine blk_put (cs := #[.string (⟨#[]⟩ : ByteArray), .int .i64 0, .int .i64 0]) ?_ 0 _ rfl; (with_reducible repeat (first | refine bN ?_ _ | refine bW ?_ | refine bA ?_ _)); exact BK396.out) Tryd.underlying62 rfl (by kernel_rfl)) rfl ?_
       exact ⟨by first | rfl | (simp [*] <;> rfl), by repeat (first | (with_reducible first | exact HB.out | apply pA | apply pN | apply p1 | refine pS ?_ GE395.out | refine pS ?_ GE396.out) | exact HB.out)⟩
      ·rw [if_neg c18] at H
       have c18b0 : decide ((IntKind.u64.wrap (wrap64 ((a0_0.size : Int) - t398))) < t397) = false := decide_eq_false c18
       clear c18
       by_cases c24 : 0 ≤ t398
       ·rw [if_pos c24] at H
        have c24b0 := eq_true c24
        have c24b1 : decide (0 ≤ t398) = true := decide_eq_true c24
        clear c24
        by_cases c25 : t398 ≤ (wrap64 (t398 + (wrap64 (t397))))
        ·rw [if_pos c25] at H
         have c25b0 := eq_true c25
         have c25b1 : decide (t398 ≤ (wrap64 (t398 + (wrap64 (t397))))) = true := decide_eq_true c25
         by_cases c26 : (wrap64 (t398 + (wrap64 (t397)))) ≤ (a0_0.size : Int)
         ·rw [if_pos c26] at H
          have c26b0 := eq_true c26
          have c26b1 : decide ((wrap64 (t398 + (wrap64 (t397)))) ≤ (a0_0.size : Int)) = true := decide_eq_true c26
          simp only [Option.some.injEq, Prod.mk.injEq] at H
          obtain ⟨rfl, rfl, rfl, rfl⟩ := H
          have hnb27 := NB395_396.out
          have hnc27 := NB396_395.out
          have hcz28_0 : wc.cell? ⟨gb395, 0, none⟩ = some (.string a0_0) := (bC BK395.out 0).trans rfl
          have hcz28_1 : wc.cell? ⟨gb395, 1, none⟩ = some (.int .i64 a0_1) := (bC BK395.out 1).trans rfl
          have hcz28_2 : wc.cell? ⟨gb395, 2, none⟩ = some (.int .i64 a0_2) := (bC BK395.out 2).trans rfl
          have hfz28_0 := bF BK395.out 0
          have hfz28_1 := bF BK395.out 1
          have hfz28_2 := bF BK395.out 2
          try go_wp2
          have n0_ : Aside0 ((wc.setCell ⟨gb395, 1, none⟩ (.int .i64 (wrap64 (t398 + (wrap64 (t397)))))).heap[gb395]? = some (.cells #[.string a0_0, .int .i64 (wrap64 (t398 + (wrap64 (t397)))), .int .i64 a0_2] 62 (0, 0))) := ⟨by (with_reducible repeat (first | refine bN ?_ _ | refine bW ?_ | refine bA ?_ _)); refine blk_put (cs := #[.string a0_0, .int .i64 a0_1, .int .i64 a0_2]) ?_ 1 _ rfl; (with_reducible repeat (first | refine bN ?_ _ | refine bW ?_ | refine bA ?_ _)); exact BK395.out⟩
          have n1_ : Aside0 ((wc.setCell ⟨gb395, 1, none⟩ (.int .i64 (wrap64 (t398 + (wrap64 (t397)))))).heap[gb396]? = some (.cells #[.string (⟨#[]⟩ : ByteArray), .int .i64 0, .int .i64 0] 62 (0, 0))) := ⟨by (with_reducible repeat (first | refine bN ?_ _ | refine bW ?_ | refine bA ?_ _)); refine blk_far ?_ NB396_395.out _; (with_reducible repeat (first | refine bN ?_ _ | refine bW ?_ | refine bA ?_ _)); exact BK396.out⟩
          have n2_ : Aside0 (Below w.heap.size w (wc.setCell ⟨gb395, 1, none⟩ (.int .i64 (wrap64 (t398 + (wrap64 (t397))))))) := ⟨by repeat (first | (with_reducible first | exact HB.out | apply pA | apply pN | apply p1 | refine pS ?_ GE395.out | refine pS ?_ GE396.out) | exact HB.out)⟩
          (try clear BK395)
          (try clear BK396)
          (try clear HB)
          generalize (wc.setCell ⟨gb395, 1, none⟩ (.int .i64 (wrap64 (t398 + (wrap64 (t397)))))) = w29 at n0_ n1_ n2_ ⊢
          have BK395 := n0_
          have BK396 := n1_
          have HB := n2_
          clear n0_ n1_ n2_
          have n0_ := q_ (bW BK395.out)
          have n1_ := q_ (bW BK396.out)
          have n2_ := q_ (p1 HB.out)
          clear BK395
          clear BK396
          clear HB
          have BK395 := n0_
          have BK396 := n1_
          have HB := n2_
          clear n0_ n1_ n2_
          refine start_ (n := 9) (S := fun w' => w'.cell? ⟨gb395, 0, none⟩ = some (.string a0_0) ∧ w'.cell? ⟨gb395, 1, none⟩ = some (.int .i64 (wrap64 (t398 + (wrap64 (t397))))) ∧ w'.cell? ⟨gb395, 2, none⟩ = some (.int .i64 a0_2)) (ds := []) #[false, false, false, false, false, false, false, false, false] (by kernel_rfl) rfl rfl ⟨(bC BK395.out 0).trans rfl, (bC BK395.out 1).trans rfl, (bC BK395.out 2).trans rfl⟩ (fun hHeld => ?_); refine with_tabW sawmillref05_ReadText.tab11 sawmillref05_ReadText.bits11 (fun HT_ HW_ => ?_)
          generalize w29.drew = w30 at BK395 BK396 HB hHeld ⊢
          refine pure_ (i := 1) (N := some 53) (v := ?_) (a' := ?_) #[false, true, false, false, false, false, false, false, false] rfl rfl (any_of HT_.out (by kernel_rfl)) (fun _ _ _ h => h) (Or.inl ⟨by rfl, ?_⟩) ?_ ?_
          rotate_left
          ·intro w'
           go_simp
           with_reducible rfl
          rotate_left
          ·simp only [Act.put, List.setIfInBounds_toArray, List.set_cons_zero, List.set_cons_succ, i64_w, i32_w]
           rfl
          refine pure_ (i := 3) (N := some 55) (v := ?_) (a' := ?_) #[false, true, false, true, false, false, false, false, false] rfl rfl (any_of HT_.out (by kernel_rfl)) (fun _ _ _ h => h) (Or.inl ⟨by rfl, ?_⟩) ?_ ?_
          rotate_left
          ·intro w'
           go_simp
           with_reducible rfl
          rotate_left
          ·simp only [Act.put, List.setIfInBounds_toArray, List.set_cons_zero, List.set_cons_succ, i64_w, i32_w]
           rfl
          refine pure_ (i := 4) (N := some 56) (v := ?_) (a' := ?_) #[false, true, false, true, true, false, false, false, false] rfl rfl (any_of HT_.out (by kernel_rfl)) (fun _ _ _ h => h) (Or.inl ⟨by rfl, ?_⟩) ?_ ?_
          rotate_left
          ·intro w'
           go_simp
           with_reducible rfl
          rotate_left
          ·simp only [Act.put, List.setIfInBounds_toArray, List.set_cons_zero, List.set_cons_succ, i64_w, i32_w]
           rfl
          refine take_ (i := 0) (N := some 52) (v := ?_) (a' := ?_) #[true, true, false, true, true, false, false, false, false] rfl rfl (take_ofW HT_.out HW_.out (by kernel_rfl)) (fun _ _ _ h => h) (Or.inl ⟨by rfl, ?_⟩) hHeld ?_ ?_
          rotate_left
          ·rintro w' ⟨s0, s1, s2⟩
           go_simp
           with_reducible rfl
          rotate_left
          ·simp only [Act.put, List.setIfInBounds_toArray, List.set_cons_zero, List.set_cons_succ, i64_w, i32_w]
           rfl
          refine take_ (i := 2) (N := some 54) (v := ?_) (a' := ?_) #[true, true, true, true, true, false, false, false, false] rfl rfl (take_ofW HT_.out HW_.out (by kernel_rfl)) (fun _ _ _ h => h) (Or.inl ⟨by rfl, ?_⟩) hHeld ?_ ?_
          rotate_left
          ·rintro w' ⟨s0, s1, s2⟩
           go_simp
           with_reducible rfl
          rotate_left
          ·simp only [Act.put, List.setIfInBounds_toArray, List.set_cons_zero, List.set_cons_succ, i64_w, i32_w]
           rfl
          refine take_ (i := 5) (N := some 57) (v := ?_) (a' := ?_) #[true, true, true, true, true, true, false, false, false] rfl rfl (take_ofW HT_.out HW_.out (by kernel_rfl)) (fun _ _ _ h => h) (Or.inl ⟨by rfl, ?_⟩) hHeld ?_ ?_
          rotate_left
          ·rintro w' ⟨s0, s1, s2⟩
           go_simp
           with_reducible rfl
          rotate_left
          ·simp only [Act.put, List.setIfInBounds_toArray, List.set_cons_zero, List.set_cons_succ, i64_w, i32_w]
           rfl
          refine pure_ (i := 6) (N := some 58) (v := ?_) (a' := ?_) #[true, true, true, true, true, true, true, false, false] rfl rfl (any_of HT_.out (by kernel_rfl)) (fun _ _ _ h => h) (Or.inl ⟨by rfl, ?_⟩) ?_ ?_
          rotate_left
          ·intro w'
           go_simp
           with_reducible rfl
          rotate_left
          ·simp only [Act.put, List.setIfInBounds_toArray, List.set_cons_zero, List.set_cons_succ, i64_w, i32_w]
           rfl
          refine one_ (i := 7) (N := none) #[true, true, true, true, true, true, true, true, false] rfl rfl (one_of HT_.out (by kernel_rfl)) (by decide) (fun K hK => ?_)
          have hs31 : w30.cell? ⟨gb396, 0, none⟩ = some (.string (⟨#[]⟩ : ByteArray)) := (bC BK396.out 0).trans rfl
          have hfs31 := bF BK396.out 0
          have hns31_0 := NB395_396.out
          have hms31_0 := NB396_395.out
          have hs32 : w30.cell? ⟨gb396, 1, none⟩ = some (.int .i64 0) := (bC BK396.out 1).trans rfl
          have hfs32 := bF BK396.out 1
          have hns32_0 := NB395_396.out
          have hms32_0 := NB396_395.out
          have hs33 : w30.cell? ⟨gb396, 2, none⟩ = some (.int .i64 0) := (bC BK396.out 2).trans rfl
          have hfs33 := bF BK396.out 2
          have hns33_0 := NB395_396.out
          have hms33_0 := NB396_395.out
          refine skip_ (w1 := ?_) (by rfl) rfl ?_ ?_
          rotate_left
          ·go_simp
           rfl
          refine hK.out _ _ ⟨((cell_far (p := ⟨gb396, _, none⟩) NB395_396.out _).trans (((cell_far (p := ⟨gb396, _, none⟩) NB395_396.out _).trans (((cell_far (p := ⟨gb396, _, none⟩) NB395_396.out _).trans (hHeld.1)))))), ((cell_far (p := ⟨gb396, _, none⟩) NB395_396.out _).trans (((cell_far (p := ⟨gb396, _, none⟩) NB395_396.out _).trans (((cell_far (p := ⟨gb396, _, none⟩) NB395_396.out _).trans (hHeld.2.1)))))), ((cell_far (p := ⟨gb396, _, none⟩) NB395_396.out _).trans (((cell_far (p := ⟨gb396, _, none⟩) NB395_396.out _).trans (((cell_far (p := ⟨gb396, _, none⟩) NB395_396.out _).trans (hHeld.2.2))))))⟩ (fun hHeld => ?_)
          clear hK K
          refine pure_ (i := 8) (N := some 5) (v := ?_) (a' := ?_) #[true, true, true, true, true, true, true, true, true] rfl rfl (any_of HT_.out (by kernel_rfl)) (fun _ _ _ h => h) (Or.inl ⟨by rfl, ?_⟩) ?_ ?_
          rotate_left
          ·intro w'
           go_simp
           with_reducible rfl
          rotate_left
          ·simp only [Act.put, List.setIfInBounds_toArray, List.set_cons_zero, List.set_cons_succ, i64_w, i32_w]
           rfl
          refine done_ (done_of HT_.out (by kernel_rfl)) ?_
          try go_wp2
          refine bodyPost_ret (results_ct rfl _ _ gb396 62 #[.string a0_0, .int .i64 (wrap64 (t398 + (wrap64 (t397)))), .int .i64 a0_2] (0, 0) _ rfl (by (with_reducible repeat (first | refine bN ?_ _ | refine bW ?_ | refine bA ?_ _)); refine blk_put (cs := #[.string a0_0, .int .i64 (wrap64 (t398 + (wrap64 (t397)))), .int .i64 0]) ?_ 2 _ rfl; (with_reducible repeat (first | refine bN ?_ _ | refine bW ?_ | refine bA ?_ _)); refine blk_put (cs := #[.string a0_0, .int .i64 0, .int .i64 0]) ?_ 1 _ rfl; (with_reducible repeat (first | refine bN ?_ _ | refine bW ?_ | refine bA ?_ _)); refine blk_put (cs := #[.string (⟨#[]⟩ : ByteArray), .int .i64 0, .int .i64 0]) ?_ 0 _ rfl; (with_reducible repeat (first | refine bN ?_ _ | refine bW ?_ | refine bA ?_ _)); exact BK396.out) Tryd.underlying62 rfl (by kernel_rfl)) rfl ?_
          exact ⟨by first | rfl | (simp [*] <;> rfl), by repeat (first | (with_reducible first | exact HB.out | apply pA | apply pN | apply p1 | refine pS ?_ GE395.out | refine pS ?_ GE396.out) | exact HB.out)⟩
         ·rw [if_neg c26] at H
          exact absurd H (by simp)
        ·rw [if_neg c25] at H
         exact absurd H (by simp)
       ·rw [if_neg c24] at H
        exact absurd H (by simp)
  ·rw [if_neg c5] at H
   have c5b0 : (t399 == 0) = false := oC c5
   have c5b1 : (t399 != 0) = true := bne_iff_ne.mpr c5
   replace H := oB H
   obtain ⟨⟨t400, t401, t402⟩, A340, H⟩ := H
   replace H : (some (t400, t401, t402, (⟨#[]⟩ : ByteArray))) = some (r1, r2, r3, r4) := H
   have A34 := Aside0.mk A340
   clear A340
   simp only [Option.some.injEq, Prod.mk.injEq] at H
   obtain ⟨rfl, rfl, rfl, rfl⟩ := H
   go_enter Tryd.func42, Tryd.ntmps42
   go_wp2_with (first | ((with_reducible refine gate_dst (N := 2) rfl ?_); refine box_event ?hg (N := 2) ?hd (cs := #[.string a0_0, .int .i64 a0_1, .int .i64 a0_2]) (t := 62) ?hr ?_; (case hd => rfl); (case hg => rfl); (case hr => first | (go_simp; done) | (go_simp; rfl)); intro gb395 hg w35 hbox hb; have n0_ := q_ (pT (by repeat (first | (with_reducible first | exact HB.out | apply pA | apply pN | apply p1) | exact HB.out)) hb); have n1_ := q_ (hbox); have n2_ := q_ ((by rw [hg]; exact (pZ (by repeat (first | (with_reducible first | exact HB.out | apply pA | apply pN | apply p1) | exact HB.out))) : w.heap.size ≤ gb395)); have n3_ := q_ ((by rw [hg]; exact (pZ (by repeat (first | (with_reducible first | exact HB.out | apply pA | apply pN | apply p1) | exact HB.out))) : w.heap.size ≤ gb395)); clear HB; have HB := n0_; have BK395 := n1_; have GW395 := n2_; have GE395 := n3_; clear n0_ n1_ n2_ n3_; clear hb hbox hg) | ((with_reducible refine gate_dst (N := 4) rfl ?_); refine box_event ?hg (N := 4) ?hd (cs := #[.string (⟨#[]⟩ : ByteArray), .int .i64 0, .int .i64 0]) (t := 62) ?hr ?_; (case hd => rfl); (case hg => rfl); (case hr => first | (go_simp; done) | (go_simp; rfl)); intro gb396 hg w36 hbox hb; have n0_ := q_ (bB (g := gb395) (o := .cells #[.string a0_0, .int .i64 a0_1, .int .i64 a0_2] 62 (0, 0)) (by (with_reducible repeat (first | refine bN ?_ _ | refine bW ?_ | refine bA ?_ _)); exact BK395.out) hb); have n1_ := q_ (pT (by repeat (first | (with_reducible first | exact HB.out | apply pA | apply pN | apply p1 | refine pS ?_ GE395.out) | exact HB.out)) hb); have n2_ := q_ (hbox); have n3_ := q_ ((by rw [hg]; exact (pZ (by repeat (first | (with_reducible first | exact HB.out | apply pA | apply pN | apply p1 | refine pS ?_ GE395.out) | exact HB.out))) : w.heap.size ≤ gb396)); have n4_ := q_ ((by rw [hg]; exact (pZ (by repeat (first | (with_reducible first | exact HB.out | apply pA | apply pN | apply p1 | refine pS ?_ GE395.out) | exact HB.out))) : w.heap.size ≤ gb396)); have n5_ := q_ ((by rw [hg]; exact Nat.ne_of_lt (blk_lt (g := gb395) (o := .cells #[.string a0_0, .int .i64 a0_1, .int .i64 a0_2] 62 (0, 0)) (by (with_reducible repeat (first | refine bN ?_ _ | refine bW ?_ | refine bA ?_ _)); exact BK395.out)) : gb395 ≠ gb396)); have n6_ := q_ ((by rw [hg]; exact Nat.ne_of_gt (blk_lt (g := gb395) (o := .cells #[.string a0_0, .int .i64 a0_1, .int .i64 a0_2] 62 (0, 0)) (by (with_reducible repeat (first | refine bN ?_ _ | refine bW ?_ | refine bA ?_ _)); exact BK395.out)) : gb396 ≠ gb395)); clear BK395; clear HB; have BK395 := n0_; have HB := n1_; have BK396 := n2_; have GW396 := n3_; have GE396 := n4_; have NB395_396 := n5_; have NB396_395 := n6_; clear n0_ n1_ n2_ n3_ n4_ n5_ n6_; clear hb hbox hg; have hnb37 := NB395_396.out; have hnc37 := NB396_395.out; have hcz38_0 : w36.cell? ⟨gb395, 0, none⟩ = some (.string a0_0) := (bC BK395.out 0).trans rfl; have hcz38_1 : w36.cell? ⟨gb395, 1, none⟩ = some (.int .i64 a0_1) := (bC BK395.out 1).trans rfl; have hcz38_2 : w36.cell? ⟨gb395, 2, none⟩ = some (.int .i64 a0_2) := (bC BK395.out 2).trans rfl; have hfz38_0 := bF BK395.out 0; have hfz38_1 := bF BK395.out 1; have hfz38_2 := bF BK395.out 2) | ((with_reducible refine gate_callee (f := 66) rfl ?_); refine goesL_ (some 18) rfl rfl Tryd.func66 (by kernel_rfl) rfl #[.string a0_0, .int .i64 a0_1] rfl (by first | rfl | (simp only [List.map_toArray]; rfl)) ?_; (with_reducible refine (sawmillref05_number.calls k a0_0 a0_1 t397 t398 t399 _ A4.out).mono ?_); rintro e w' ⟨rfl, ⟨nd, rfl⟩⟩; refine ⟨_, rfl, ?_⟩; (try (rw [drewN_self w36]; generalize hq_ : World.drewN w36 _ = w36; have n0_ : Aside0 (w36.heap[gb395]? = some (.cells #[.string a0_0, .int .i64 a0_1, .int .i64 a0_2] 62 (0, 0))) := ⟨by rw [← hq_]; exact (by (with_reducible repeat (first | refine bN ?_ _ | refine bW ?_ | refine bA ?_ _)); exact BK395.out)⟩; have n1_ : Aside0 (w36.heap[gb396]? = some (.cells #[.string (⟨#[]⟩ : ByteArray), .int .i64 0, .int .i64 0] 62 (0, 0))) := ⟨by rw [← hq_]; exact (by (with_reducible repeat (first | refine bN ?_ _ | refine bW ?_ | refine bA ?_ _)); exact BK396.out)⟩; have n2_ : Aside0 (Below w.heap.size w w36) := ⟨by rw [← hq_]; exact (by repeat (first | (with_reducible first | exact HB.out | apply pA | apply pN | apply p1 | refine pS ?_ GE395.out | refine pS ?_ GE396.out) | exact HB.out))⟩; clear BK395 BK396 HB hq_; have BK395 := n0_; have BK396 := n1_; have HB := n2_; clear n0_ n1_ n2_)); have hcz39_0 : w36.cell? ⟨gb395, 0, none⟩ = some (.string a0_0) := (bC BK395.out 0).trans rfl; have hcz39_1 : w36.cell? ⟨gb395, 1, none⟩ = some (.int .i64 a0_1) := (bC BK395.out 1).trans rfl; have hcz39_2 : w36.cell? ⟨gb395, 2, none⟩ = some (.int .i64 a0_2) := (bC BK395.out 2).trans rfl; have hfz39_0 := bF BK395.out 0; have hfz39_1 := bF BK395.out 1; have hfz39_2 := bF BK395.out 2) | ((with_reducible refine gate_callee (f := 65) rfl ?_); refine goesL_ (some 26) rfl rfl Tryd.func65 (by kernel_rfl) rfl #[.agg #[.string a0_0, .int .i64 a0_1, .int .i64 a0_2], .int .i64 t399] rfl (by first | rfl | (simp only [List.map_toArray]; rfl)) ?_; (with_reducible refine (sawmillref05_fail.calls a0_0 a0_1 a0_2 t399 t400 t401 t402 _ A34.out).mono ?_); rintro e w40 ⟨rfl, hb⟩; refine ⟨_, rfl, ?_⟩; have n0_ := q_ (bB (g := gb395) (o := .cells #[.string a0_0, .int .i64 a0_1, .int .i64 a0_2] 62 (0, 0)) (by (with_reducible repeat (first | refine bN ?_ _ | refine bW ?_ | refine bA ?_ _)); exact BK395.out) hb); have n1_ := q_ (bB (g := gb396) (o := .cells #[.string (⟨#[]⟩ : ByteArray), .int .i64 0, .int .i64 0] 62 (0, 0)) (by (with_reducible repeat (first | refine bN ?_ _ | refine bW ?_ | refine bA ?_ _)); exact BK396.out) hb); have n2_ := q_ (pT (by repeat (first | (with_reducible first | exact HB.out | apply pA | apply pN | apply p1 | refine pS ?_ GE395.out | refine pS ?_ GE396.out) | exact HB.out)) hb); clear BK395; clear BK396; clear HB; have BK395 := n0_; have BK396 := n1_; have HB := n2_; clear n0_ n1_ n2_; (try clear hb); (try clear hb2); (try clear hk); (try clear hi); have hcz41_0 : w40.cell? ⟨gb396, 0, none⟩ = some (.string (⟨#[]⟩ : ByteArray)) := (bC BK396.out 0).trans rfl; have hcz41_1 : w40.cell? ⟨gb396, 1, none⟩ = some (.int .i64 0) := (bC BK396.out 1).trans rfl; have hcz41_2 : w40.cell? ⟨gb396, 2, none⟩ = some (.int .i64 0) := (bC BK396.out 2).trans rfl; have hfz41_0 := bF BK396.out 0; have hfz41_1 := bF BK396.out 1; have hfz41_2 := bF BK396.out 2))
   refine bodyPost_ret (results_ct rfl _ _ gb396 62 #[.string t400, .int .i64 t401, .int .i64 t402] (0, 0) _ rfl (by (with_reducible repeat (first | refine bN ?_ _ | refine bW ?_ | refine bA ?_ _)); refine blk_put (cs := #[.string t400, .int .i64 t401, .int .i64 0]) ?_ 2 _ rfl; (with_reducible repeat (first | refine bN ?_ _ | refine bW ?_ | refine bA ?_ _)); refine blk_put (cs := #[.string t400, .int .i64 0, .int .i64 0]) ?_ 1 _ rfl; (with_reducible repeat (first | refine bN ?_ _ | refine bW ?_ | refine bA ?_ _)); refine blk_put (cs := #[.string (⟨#[]⟩ : ByteArray), .int .i64 0, .int .i64 0]) ?_ 0 _ rfl; (with_reducible repeat (first | refine bN ?_ _ | refine bW ?_ | refine bA ?_ _)); exact BK396.out) Tryd.underlying62 rfl (by kernel_rfl)) rfl ?_
   exact ⟨by first | rfl | (simp [*] <;> rfl), by repeat (first | (with_reducible first | exact HB.out | apply pA | apply pN | apply p1 | refine pS ?_ GE395.out | refine pS ?_ GE396.out) | exact HB.out)⟩
 ·rw [if_neg c3] at H
  have c3b0 : (a0_2 == 0) = false := oC c3
  have c3b1 : (a0_2 != 0) = true := bne_iff_ne.mpr c3
  simp only [Option.some.injEq, Prod.mk.injEq] at H
  obtain ⟨rfl, rfl, rfl, rfl⟩ := H
  go_enter Tryd.func42, Tryd.ntmps42
  go_wp2_with (first | ((with_reducible refine gate_dst (N := 2) rfl ?_); refine box_event ?hg (N := 2) ?hd (cs := #[.string a0_0, .int .i64 a0_1, .int .i64 a0_2]) (t := 62) ?hr ?_; (case hd => rfl); (case hg => rfl); (case hr => first | (go_simp; done) | (go_simp; rfl)); intro gb395 hg w42 hbox hb; have n0_ := q_ (pT (by repeat (first | (with_reducible first | exact HB.out | apply pA | apply pN | apply p1) | exact HB.out)) hb); have n1_ := q_ (hbox); have n2_ := q_ ((by rw [hg]; exact (pZ (by repeat (first | (with_reducible first | exact HB.out | apply pA | apply pN | apply p1) | exact HB.out))) : w.heap.size ≤ gb395)); have n3_ := q_ ((by rw [hg]; exact (pZ (by repeat (first | (with_reducible first | exact HB.out | apply pA | apply pN | apply p1) | exact HB.out))) : w.heap.size ≤ gb395)); clear HB; have HB := n0_; have BK395 := n1_; have GW395 := n2_; have GE395 := n3_; clear n0_ n1_ n2_ n3_; clear hb hbox hg) | ((with_reducible refine gate_dst (N := 4) rfl ?_); refine box_event ?hg (N := 4) ?hd (cs := #[.string (⟨#[]⟩ : ByteArray), .int .i64 0, .int .i64 0]) (t := 62) ?hr ?_; (case hd => rfl); (case hg => rfl); (case hr => first | (go_simp; done) | (go_simp; rfl)); intro gb396 hg w43 hbox hb; have n0_ := q_ (bB (g := gb395) (o := .cells #[.string a0_0, .int .i64 a0_1, .int .i64 a0_2] 62 (0, 0)) (by (with_reducible repeat (first | refine bN ?_ _ | refine bW ?_ | refine bA ?_ _)); exact BK395.out) hb); have n1_ := q_ (pT (by repeat (first | (with_reducible first | exact HB.out | apply pA | apply pN | apply p1 | refine pS ?_ GE395.out) | exact HB.out)) hb); have n2_ := q_ (hbox); have n3_ := q_ ((by rw [hg]; exact (pZ (by repeat (first | (with_reducible first | exact HB.out | apply pA | apply pN | apply p1 | refine pS ?_ GE395.out) | exact HB.out))) : w.heap.size ≤ gb396)); have n4_ := q_ ((by rw [hg]; exact (pZ (by repeat (first | (with_reducible first | exact HB.out | apply pA | apply pN | apply p1 | refine pS ?_ GE395.out) | exact HB.out))) : w.heap.size ≤ gb396)); have n5_ := q_ ((by rw [hg]; exact Nat.ne_of_lt (blk_lt (g := gb395) (o := .cells #[.string a0_0, .int .i64 a0_1, .int .i64 a0_2] 62 (0, 0)) (by (with_reducible repeat (first | refine bN ?_ _ | refine bW ?_ | refine bA ?_ _)); exact BK395.out)) : gb395 ≠ gb396)); have n6_ := q_ ((by rw [hg]; exact Nat.ne_of_gt (blk_lt (g := gb395) (o := .cells #[.string a0_0, .int .i64 a0_1, .int .i64 a0_2] 62 (0, 0)) (by (with_reducible repeat (first | refine bN ?_ _ | refine bW ?_ | refine bA ?_ _)); exact BK395.out)) : gb396 ≠ gb395)); clear BK395; clear HB; have BK395 := n0_; have HB := n1_; have BK396 := n2_; have GW396 := n3_; have GE396 := n4_; have NB395_396 := n5_; have NB396_395 := n6_; clear n0_ n1_ n2_ n3_ n4_ n5_ n6_; clear hb hbox hg; have hnb44 := NB395_396.out; have hnc44 := NB396_395.out; have hcz45_0 : w43.cell? ⟨gb395, 0, none⟩ = some (.string a0_0) := (bC BK395.out 0).trans rfl; have hcz45_1 : w43.cell? ⟨gb395, 1, none⟩ = some (.int .i64 a0_1) := (bC BK395.out 1).trans rfl; have hcz45_2 : w43.cell? ⟨gb395, 2, none⟩ = some (.int .i64 a0_2) := (bC BK395.out 2).trans rfl; have hfz45_0 := bF BK395.out 0; have hfz45_1 := bF BK395.out 1; have hfz45_2 := bF BK395.out 2; have hcz46_0 : w43.cell? ⟨gb396, 0, none⟩ = some (.string (⟨#[]⟩ : ByteArray)) := (bC BK396.out 0).trans rfl; have hcz46_1 : w43.cell? ⟨gb396, 1, none⟩ = some (.int .i64 0) := (bC BK396.out 1).trans rfl; have hcz46_2 : w43.cell? ⟨gb396, 2, none⟩ = some (.int .i64 0) := (bC BK396.out 2).trans rfl; have hfz46_0 := bF BK396.out 0; have hfz46_1 := bF BK396.out 1; have hfz46_2 := bF BK396.out 2))
  refine bodyPost_ret (results_ct rfl _ _ gb396 62 #[.string a0_0, .int .i64 a0_1, .int .i64 a0_2] (0, 0) _ rfl (by (with_reducible repeat (first | refine bN ?_ _ | refine bW ?_ | refine bA ?_ _)); refine blk_put (cs := #[.string a0_0, .int .i64 a0_1, .int .i64 0]) ?_ 2 _ rfl; (with_reducible repeat (first | refine bN ?_ _ | refine bW ?_ | refine bA ?_ _)); refine blk_put (cs := #[.string a0_0, .int .i64 0, .int .i64 0]) ?_ 1 _ rfl; (with_reducible repeat (first | refine bN ?_ _ | refine bW ?_ | refine bA ?_ _)); refine blk_put (cs := #[.string (⟨#[]⟩ : ByteArray), .int .i64 0, .int .i64 0]) ?_ 0 _ rfl; (with_reducible repeat (first | refine bN ?_ _ | refine bW ?_ | refine bA ?_ _)); exact BK396.out) Tryd.underlying62 rfl (by kernel_rfl)) rfl ?_
  exact ⟨by first | rfl | (simp [*] <;> rfl), by repeat (first | (with_reducible first | exact HB.out | apply pA | apply pN | apply p1 | refine pS ?_ GE395.out | refine pS ?_ GE396.out) | exact HB.out)⟩
mutual
def sawmillref05_ReadInts.j0 : Nat → Int → Int → Int → Int → Bool → ByteArray → Int → Int → Option (ByteArray × Int × Int × List Int)
 | 0, _, _, _, _, _, _, _, _ => none
 | k + 1, x2, x3, x10, x11, x42, x410000, x410001, x410002 => if x42 = true then ((sawmillref05_fail.f x410000 x410001 x410002 4).bind fun bt417 => (some (bt417.1, bt417.2.1, bt417.2.2, ([] : List Int)))) else (sawmillref05_ReadInts.l0 k x2 x3 x10 x11 (([] : List Int)) x410000 x410001 x410002)
def sawmillref05_ReadInts.l0 : Nat → Int → Int → Int → Int → List Int → ByteArray → Int → Int → Option (ByteArray × Int × Int × List Int)
 | 0, _, _, _, _, _, _, _, _ => none
 | k + 1, x2, x3, x10, x11, x13, x410000, x410001, x410002 => if (IntKind.u64.wrap ((x13.length : Int))) < x10 then ((sawmillref05_signed.f k x410000 x11 x2 x3).bind fun bt423 => (if bt423.2.2 = 0 then (if x13.length < 17592186044416 then (sawmillref05_ReadInts.l0 k x2 x3 x10 bt423.2.1 (x13 ++ [bt423.1]) x410000 x410001 x410002) else (none)) else ((sawmillref05_fail.f x410000 x410001 x410002 bt423.2.2).bind fun bt429 => (some (bt429.1, bt429.2.1, bt429.2.2, ([] : List Int)))))) else (some (x410000, x11, x410002, x13))
end
def sawmillref05_ReadInts.f (k : Nat) (a0_0 : ByteArray) (a0_1 : Int) (a0_2 : Int) (a1 : Int) (a2 : Int) (a3 : Int) : Option (ByteArray × Int × Int × List Int) := if a0_2 = 0 then ((sawmillref05_number.f k a0_0 a0_1).bind fun bt411 => (if bt411.2.2 = 0 then (if a1 < 0 then (sawmillref05_ReadInts.j0 k a2 a3 bt411.1 bt411.2.1 true a0_0 a0_1 a0_2) else (sawmillref05_ReadInts.j0 k a2 a3 bt411.1 bt411.2.1 (decide (bt411.1 > (IntKind.u64.wrap (a1)))) a0_0 a0_1 a0_2)) else ((sawmillref05_fail.f a0_0 a0_1 a0_2 bt411.2.2).bind fun bt414 => (some (bt414.1, bt414.2.1, bt414.2.2, ([] : List Int)))))) else (some (a0_0, a0_1, a0_2, ([] : List Int)))
set_option maxHeartbeats 8000000 in
set_option maxRecDepth 100000 in
theorem sawmillref05_ReadInts.calls (k : Nat) (a0_0 : ByteArray) (a0_1 : Int) (a0_2 : Int) (a1 : Int) (a2 : Int) (a3 : Int) (r1 : ByteArray) (r2 : Int) (r3 : Int) (r4 : List Int) (w : World) (h : sawmillref05_ReadInts.f k a0_0 a0_1 a0_2 a1 a2 a3 = some (r1, r2, r3, r4)) :
  Calls Tryd.prog 43 #[.agg #[.string a0_0, .int .i64 a0_1, .int .i64 a0_2], .int .i64 a1, .int .i64 a2, .int .i64 a3] w fun e w' => ∃ v3_ : Value, e = .returned (.tuple #[.agg #[.string r1, .int .i64 r2, .int .i64 r3], v3_]) ∧ Kd.R (Kd.int .i64) 3 w' w.heap.size (fun _ => True) v3_ r4 ∧ Below w.heap.size w w' := by
 have hu62 := Tryd.underlying62
 have HB := q_ (Below.refl w.heap.size w)
 have H : (if a0_2 = 0 then ((sawmillref05_number.f k a0_0 a0_1).bind fun bt411 => (if bt411.2.2 = 0 then (if a1 < 0 then (sawmillref05_ReadInts.j0 k a2 a3 bt411.1 bt411.2.1 true a0_0 a0_1 a0_2) else (sawmillref05_ReadInts.j0 k a2 a3 bt411.1 bt411.2.1 (decide (bt411.1 > (IntKind.u64.wrap (a1)))) a0_0 a0_1 a0_2)) else ((sawmillref05_fail.f a0_0 a0_1 a0_2 bt411.2.2).bind fun bt414 => (some (bt414.1, bt414.2.1, bt414.2.2, ([] : List Int)))))) else (some (a0_0, a0_1, a0_2, ([] : List Int)))) = some (r1, r2, r3, r4) := h
 clear h
 by_cases c5 : a0_2 = 0
 ·rw [if_pos c5] at H
  have c5b0 : (a0_2 == 0) = true := beq_iff_eq.mpr c5
  have c5b1 : (a0_2 != 0) = false := oD c5
  clear c5
  replace H := oB H
  obtain ⟨⟨t411, t412, t413⟩, A60, H⟩ := H
  replace H : (if t413 = 0 then (if a1 < 0 then (sawmillref05_ReadInts.j0 k a2 a3 t411 t412 true a0_0 a0_1 a0_2) else (sawmillref05_ReadInts.j0 k a2 a3 t411 t412 (decide (t411 > (IntKind.u64.wrap (a1)))) a0_0 a0_1 a0_2)) else ((sawmillref05_fail.f a0_0 a0_1 a0_2 t413).bind fun bt414 => (some (bt414.1, bt414.2.1, bt414.2.2, ([] : List Int))))) = some (r1, r2, r3, r4) := H
  have A6 := Aside0.mk A60
  clear A60
  by_cases c7 : t413 = 0
  ·rw [if_pos c7] at H
   have c7b0 : (t413 == 0) = true := beq_iff_eq.mpr c7
   have c7b1 : (t413 != 0) = false := oD c7
   clear c7
   have HC8 := Aside0.mk H
   clear H
   go_enter Tryd.func43, Tryd.ntmps43
   go_upto_region 6 with (first | ((with_reducible refine gate_dst (N := 4) rfl ?_); refine box_event ?hg (N := 4) ?hd (cs := #[.string a0_0, .int .i64 a0_1, .int .i64 a0_2]) (t := 62) ?hr ?_; (case hd => rfl); (case hg => rfl); (case hr => first | (go_simp; done) | (go_simp; rfl)); intro gb409 hg w9 hbox hb; have n0_ := q_ (pT (by repeat (first | (with_reducible first | exact HB.out | apply pA | apply pN | apply p1) | exact HB.out)) hb); have n1_ := q_ (hbox); have n2_ := q_ ((by rw [hg]; exact (pZ (by repeat (first | (with_reducible first | exact HB.out | apply pA | apply pN | apply p1) | exact HB.out))) : w.heap.size ≤ gb409)); have n3_ := q_ ((by rw [hg]; exact (pZ (by repeat (first | (with_reducible first | exact HB.out | apply pA | apply pN | apply p1) | exact HB.out))) : w.heap.size ≤ gb409)); clear HB; have HB := n0_; have BK409 := n1_; have GW409 := n2_; have GE409 := n3_; clear n0_ n1_ n2_ n3_; clear hb hbox hg) | ((with_reducible refine gate_dst (N := 8) rfl ?_); refine box_event ?hg (N := 8) ?hd (cs := #[.string (⟨#[]⟩ : ByteArray), .int .i64 0, .int .i64 0]) (t := 62) ?hr ?_; (case hd => rfl); (case hg => rfl); (case hr => first | (go_simp; done) | (go_simp; rfl)); intro gb410 hg w10 hbox hb; have n0_ := q_ (bB (g := gb409) (o := .cells #[.string a0_0, .int .i64 a0_1, .int .i64 a0_2] 62 (0, 0)) (by (with_reducible repeat (first | refine bN ?_ _ | refine bW ?_ | refine bA ?_ _)); exact BK409.out) hb); have n1_ := q_ (pT (by repeat (first | (with_reducible first | exact HB.out | apply pA | apply pN | apply p1 | refine pS ?_ GE409.out) | exact HB.out)) hb); have n2_ := q_ (hbox); have n3_ := q_ ((by rw [hg]; exact (pZ (by repeat (first | (with_reducible first | exact HB.out | apply pA | apply pN | apply p1 | refine pS ?_ GE409.out) | exact HB.out))) : w.heap.size ≤ gb410)); have n4_ := q_ ((by rw [hg]; exact (pZ (by repeat (first | (with_reducible first | exact HB.out | apply pA | apply pN | apply p1 | refine pS ?_ GE409.out) | exact HB.out))) : w.heap.size ≤ gb410)); have n5_ := q_ ((by rw [hg]; exact Nat.ne_of_lt (blk_lt (g := gb409) (o := .cells #[.string a0_0, .int .i64 a0_1, .int .i64 a0_2] 62 (0, 0)) (by (with_reducible repeat (first | refine bN ?_ _ | refine bW ?_ | refine bA ?_ _)); exact BK409.out)) : gb409 ≠ gb410)); have n6_ := q_ ((by rw [hg]; exact Nat.ne_of_gt (blk_lt (g := gb409) (o := .cells #[.string a0_0, .int .i64 a0_1, .int .i64 a0_2] 62 (0, 0)) (by (with_reducible repeat (first | refine bN ?_ _ | refine bW ?_ | refine bA ?_ _)); exact BK409.out)) : gb410 ≠ gb409)); clear BK409; clear HB; have BK409 := n0_; have HB := n1_; have BK410 := n2_; have GW410 := n3_; have GE410 := n4_; have NB409_410 := n5_; have NB410_409 := n6_; clear n0_ n1_ n2_ n3_ n4_ n5_ n6_; clear hb hbox hg; have hnb11 := NB409_410.out; have hnc11 := NB410_409.out; have hcz12_0 : w10.cell? ⟨gb409, 0, none⟩ = some (.string a0_0) := (bC BK409.out 0).trans rfl; have hcz12_1 : w10.cell? ⟨gb409, 1, none⟩ = some (.int .i64 a0_1) := (bC BK409.out 1).trans rfl; have hcz12_2 : w10.cell? ⟨gb409, 2, none⟩ = some (.int .i64 a0_2) := (bC BK409.out 2).trans rfl; have hfz12_0 := bF BK409.out 0; have hfz12_1 := bF BK409.out 1; have hfz12_2 := bF BK409.out 2) | ((with_reducible refine gate_callee (f := 66) rfl ?_); refine goesL_ (some 26) rfl rfl Tryd.func66 (by kernel_rfl) rfl #[.string a0_0, .int .i64 a0_1] rfl (by first | rfl | (simp only [List.map_toArray]; rfl)) ?_; (with_reducible refine (sawmillref05_number.calls k a0_0 a0_1 t411 t412 t413 _ A6.out).mono ?_); rintro e w' ⟨rfl, ⟨nd, rfl⟩⟩; refine ⟨_, rfl, ?_⟩))
   (try simp only [Act.put, List.setIfInBounds_toArray, List.set_cons_zero, List.set_cons_succ])
   go_cut [42] (fun v42 wc => ∃ (kq : Nat) (x42_7 : Bool), v42 = .bool x42_7 ∧ Aside0 (sawmillref05_ReadInts.j0 kq a2 a3 t411 t412 x42_7 a0_0 a0_1 a0_2 = some (r1, r2, r3, r4)) ∧ Aside0 (kq ≤ k) ∧ Aside0 (wc.heap[gb409]? = some (.cells #[.string a0_0, .int .i64 a0_1, .int .i64 a0_2] 62 (0, 0))) ∧ Aside0 (wc.heap[gb410]? = some (.cells #[.string (⟨#[]⟩ : ByteArray), .int .i64 0, .int .i64 0] 62 (0, 0))) ∧ Aside0 (Below w.heap.size w wc))
   case first =>
    have H := HC8.out
    clear HC8
    by_cases c13 : a1 < 0
    ·rw [if_pos c13] at H
     have c13b0 : decide (a1 < 0) = true := decide_eq_true c13
     clear c13
     (first | rw [c13b0] | (simp only [i64_w, i32_w]; rw [c13b0]) | skip)
     have H' := Aside0.mk H
     clear H
     go_wp2
     go_meet
     case rel => exact ⟨_, (true), (by first | rfl | (simp; done) | (simp [*]; done)), H', ⟨by first | omega | exact Nat.le_refl _⟩, ⟨by (with_reducible repeat (first | refine bN ?_ _ | refine bW ?_ | refine bA ?_ _)); exact BK409.out⟩, ⟨by (with_reducible repeat (first | refine bN ?_ _ | refine bW ?_ | refine bA ?_ _)); exact BK410.out⟩, ⟨by repeat (first | (with_reducible first | exact HB.out | apply pA | apply pN | apply p1 | refine pS ?_ GE409.out | refine pS ?_ GE410.out) | exact HB.out)⟩⟩
    ·rw [if_neg c13] at H
     have c13b0 : decide (a1 < 0) = false := decide_eq_false c13
     clear c13
     (first | rw [c13b0] | (simp only [i64_w, i32_w]; rw [c13b0]) | skip)
     have H' := Aside0.mk H
     clear H
     go_wp2
     go_meet
     case rel => exact ⟨_, (decide (t411 > (IntKind.u64.wrap (a1)))), (by first | rfl | (simp; done) | (simp [*]; done)), H', ⟨by first | omega | exact Nat.le_refl _⟩, ⟨by (with_reducible repeat (first | refine bN ?_ _ | refine bW ?_ | refine bA ?_ _)); exact BK409.out⟩, ⟨by (with_reducible repeat (first | refine bN ?_ _ | refine bW ?_ | refine bA ?_ _)); exact BK410.out⟩, ⟨by repeat (first | (with_reducible first | exact HB.out | apply pA | apply pN | apply p1 | refine pS ?_ GE409.out | refine pS ?_ GE410.out) | exact HB.out)⟩⟩
   case rest =>
    clear HC8
    try clear c1
    try clear p2
    try clear c4
    try clear c5
    try clear c5b0
    try clear c5b1
    try clear c6
    try clear c7
    try clear c7b0
    try clear c7b1
    try clear c11
    try clear c13
    try clear c13b0
    try clear hcz12_0
    try clear hcz12_1
    try clear hcz12_2
    try clear hfz12_0
    try clear hfz12_1
    try clear hfz12_2
    obtain ⟨kq, x42_7, rfl, HA, HJ7, BK409, BK410, HB⟩ := hcut
    cases kq with
    | zero => exact absurd HA.out (by simp [sawmillref05_ReadInts.j0])
    | succ kj7 =>
     have H := HA.out
     clear HA
     simp only [sawmillref05_ReadInts.j0] at H
     by_cases c14 : x42_7 = true
     ·subst c14
      have H1 : ((sawmillref05_fail.f a0_0 a0_1 a0_2 4).bind fun bt417 => (some (bt417.1, bt417.2.1, bt417.2.2, ([] : List Int)))) = some (r1, r2, r3, r4) := by rw [if_pos rfl] at H; exact H
      clear H
      have H := H1
      clear H1
      replace H := oB H
      obtain ⟨⟨t417, t418, t419⟩, A150, H⟩ := H
      replace H : (some (t417, t418, t419, ([] : List Int))) = some (r1, r2, r3, r4) := H
      have A15 := Aside0.mk A150
      clear A150
      simp only [Option.some.injEq, Prod.mk.injEq] at H
      obtain ⟨rfl, rfl, rfl, rfl⟩ := H
      have hnb16 := NB409_410.out
      have hnc16 := NB410_409.out
      have hcz17_0 : wc.cell? ⟨gb409, 0, none⟩ = some (.string a0_0) := (bC BK409.out 0).trans rfl
      have hcz17_1 : wc.cell? ⟨gb409, 1, none⟩ = some (.int .i64 a0_1) := (bC BK409.out 1).trans rfl
      have hcz17_2 : wc.cell? ⟨gb409, 2, none⟩ = some (.int .i64 a0_2) := (bC BK409.out 2).trans rfl
      have hfz17_0 := bF BK409.out 0
      have hfz17_1 := bF BK409.out 1
      have hfz17_2 := bF BK409.out 2
      go_wp2_with (first | ((with_reducible refine gate_callee (f := 65) rfl ?_); refine goesL_ (some 44) rfl rfl Tryd.func65 (by kernel_rfl) rfl #[.agg #[.string a0_0, .int .i64 a0_1, .int .i64 a0_2], .int .i64 4] rfl (by first | rfl | (simp only [List.map_toArray]; rfl)) ?_; (with_reducible refine (sawmillref05_fail.calls a0_0 a0_1 a0_2 4 t417 t418 t419 _ A15.out).mono ?_); rintro e w18 ⟨rfl, hb⟩; refine ⟨_, rfl, ?_⟩; have n0_ := q_ (bB (g := gb409) (o := .cells #[.string a0_0, .int .i64 a0_1, .int .i64 a0_2] 62 (0, 0)) (by (with_reducible repeat (first | refine bN ?_ _ | refine bW ?_ | refine bA ?_ _)); exact BK409.out) hb); have n1_ := q_ (bB (g := gb410) (o := .cells #[.string (⟨#[]⟩ : ByteArray), .int .i64 0, .int .i64 0] 62 (0, 0)) (by (with_reducible repeat (first | refine bN ?_ _ | refine bW ?_ | refine bA ?_ _)); exact BK410.out) hb); have n2_ := q_ (pT (by repeat (first | (with_reducible first | exact HB.out | apply pA | apply pN | apply p1 | refine pS ?_ GE409.out | refine pS ?_ GE410.out) | exact HB.out)) hb); clear BK409; clear BK410; clear HB; have BK409 := n0_; have BK410 := n1_; have HB := n2_; clear n0_ n1_ n2_; (try clear hb); (try clear hb2); (try clear hk); (try clear hi); have hcz19_0 : w18.cell? ⟨gb410, 0, none⟩ = some (.string (⟨#[]⟩ : ByteArray)) := (bC BK410.out 0).trans rfl; have hcz19_1 : w18.cell? ⟨gb410, 1, none⟩ = some (.int .i64 0) := (bC BK410.out 1).trans rfl; have hcz19_2 : w18.cell? ⟨gb410, 2, none⟩ = some (.int .i64 0) := (bC BK410.out 2).trans rfl; have hfz19_0 := bF BK410.out 0; have hfz19_1 := bF BK410.out 1; have hfz19_2 := bF BK410.out 2))
      refine bodyPost_ret (results_ct rfl _ _ gb410 62 #[.string t417, .int .i64 t418, .int .i64 t419] (0, 0) _ rfl (by (with_reducible repeat (first | refine bN ?_ _ | refine bW ?_ | refine bA ?_ _)); refine blk_put (cs := #[.string t417, .int .i64 t418, .int .i64 0]) ?_ 2 _ rfl; (with_reducible repeat (first | refine bN ?_ _ | refine bW ?_ | refine bA ?_ _)); refine blk_put (cs := #[.string t417, .int .i64 0, .int .i64 0]) ?_ 1 _ rfl; (with_reducible repeat (first | refine bN ?_ _ | refine bW ?_ | refine bA ?_ _)); refine blk_put (cs := #[.string (⟨#[]⟩ : ByteArray), .int .i64 0, .int .i64 0]) ?_ 0 _ rfl; (with_reducible repeat (first | refine bN ?_ _ | refine bW ?_ | refine bA ?_ _)); exact BK410.out) Tryd.underlying62 rfl (by kernel_rfl)) rfl ?_
      exact ⟨_, by first | rfl | (simp [*] <;> rfl), by first | exact Kd.R_nil _ _ _ _ _ | exact Kd.N_nil _ _ _ _ _ | exact Kd.V_nil _ _ _ _ _ | exact Kd.Q_nil _ _ _ _ _ | exact Kd.S_nil _ _ _ _ _, by repeat (first | (with_reducible first | exact HB.out | apply pA | apply pN | apply p1 | refine pS ?_ GE409.out | refine pS ?_ GE410.out) | exact HB.out)⟩
     ·replace c14 := Bool.eq_false_iff.mpr c14
      subst c14
      have H1 : (sawmillref05_ReadInts.l0 kj7 a2 a3 t411 t412 (([] : List Int)) a0_0 a0_1 a0_2) = some (r1, r2, r3, r4) := by rw [if_neg (show ¬ (false = true) by decide)] at H; exact H
      clear H
      have H := H1
      clear H1
      obtain ⟨y420, hy420⟩ : ∃ y_ : List Int, y_ = (([] : List Int)) := ⟨_, rfl⟩
      replace H : (sawmillref05_ReadInts.l0 kj7 a2 a3 t411 t412 y420 a0_0 a0_1 a0_2) = some (r1, r2, r3, r4) := by first | (rw [hy420]; with_reducible exact H) | (have H2_ := (Option.bind_some _ _).symm.trans H; rw [hy420]; with_reducible exact H2_) | (have H2_ := (Option.bind_some _ _).symm.trans H; with_reducible exact H2_) | with_reducible exact H | (rw [hy420]; exact H) | exact H
      have Ny420 := Aside0.mk hy420
      clear hy420
      have H' := Aside0.mk H
      clear H
      go_wp2_with (first | ((with_reducible refine gate_dst (N := 45) rfl ?_); refine Kd.R_lit (Kd.int .i64) _ 3 ?hg (N := 45) ?hd (xs := ([] : List Int)) (inner := []) (ok := fun _ => True) (okp := fun _ => True) ?hr ?hp (fun _ hk => hk) trivial (Below.refl _ _) (Nat.le_refl _) (by simp) ?_; (case hd => rfl); (case hg => rfl); (case hr => first | (go_simp; done) | (go_simp; rfl)); (case hp => exact (Reps.none _ _)); intro v421 w20 ho21 hb hg_ hnew_; clear hg_ hnew_; (first | rw [← Ny420.out] at ho21 | (simp only [Int.reduceToNat] at ho21; rw [← Ny420.out] at ho21)); have n0_ := q_ (Kd.R_lower ho21 (pZ (by repeat (first | (with_reducible first | exact HB.out | apply pA | apply pN | apply p1 | refine pS ?_ GE409.out | refine pS ?_ GE410.out) | exact HB.out)))); have n1_ := q_ (bB (g := gb409) (o := .cells #[.string a0_0, .int .i64 a0_1, .int .i64 a0_2] 62 (0, 0)) (by (with_reducible repeat (first | refine bN ?_ _ | refine bW ?_ | refine bA ?_ _)); exact BK409.out) hb); have n2_ := q_ (bB (g := gb410) (o := .cells #[.string (⟨#[]⟩ : ByteArray), .int .i64 0, .int .i64 0] 62 (0, 0)) (by (with_reducible repeat (first | refine bN ?_ _ | refine bW ?_ | refine bA ?_ _)); exact BK410.out) hb); have n3_ := q_ (pT (by repeat (first | (with_reducible first | exact HB.out | apply pA | apply pN | apply p1 | refine pS ?_ GE409.out | refine pS ?_ GE410.out) | exact HB.out)) hb); clear BK409; clear BK410; clear HB; have HO422 := n0_; have BK409 := n1_; have BK410 := n2_; have HB := n3_; clear n0_ n1_ n2_ n3_; clear hb ho21))
      go_loopg [11, 13] kj7 (fun kq v11 v13 w' => ∃ (x11_2 : Int) (x13_2 : List Int) (x411000_2 : ByteArray) (x411001_2 : Int) (x411002_2 : Int), v11 = .int .i64 x11_2 ∧ Aside0 (sawmillref05_ReadInts.l0 kq a2 a3 t411 x11_2 x13_2 a0_0 a0_1 a0_2 = some (r1, r2, r3, r4)) ∧ Aside0 (kq ≤ kj7) ∧ Aside0 (Kd.R (Kd.int .i64) 3 w' w.heap.size (fun _ => True) v13 x13_2) ∧ Aside0 (w'.heap[gb409]? = some (.cells #[.string a0_0, .int .i64 a0_1, .int .i64 a0_2] 62 (0, 0))) ∧ Aside0 (w'.heap[gb410]? = some (.cells #[.string x411000_2, .int .i64 x411001_2, .int .i64 x411002_2] 62 (0, 0))) ∧ Aside0 (Below w.heap.size w w'))
      case atStart => exact ⟨(t412), (y420), ((⟨#[]⟩ : ByteArray)), (0), (0), (by first | rfl | (simp; done) | (simp [*]; done)), H', ⟨Nat.le_refl _⟩, ⟨by (with_reducible repeat (first | apply Kd.R_alloc | apply Kd.R_drewN | apply Kd.R_drew)); exact HO422.out⟩, ⟨by (with_reducible repeat (first | refine bN ?_ _ | refine bW ?_ | refine bA ?_ _)); exact BK409.out⟩, ⟨by (with_reducible repeat (first | refine bN ?_ _ | refine bW ?_ | refine bA ?_ _)); exact BK410.out⟩, ⟨by repeat (first | (with_reducible first | exact HB.out | apply pA | apply pN | apply p1 | refine pS ?_ GE409.out | refine pS ?_ GE410.out) | exact HB.out)⟩⟩
      case round =>
       clear H'
       try clear c1
       try clear p2
       try clear c4
       try clear c5
       try clear c5b0
       try clear c5b1
       try clear c6
       try clear c7
       try clear c7b0
       try clear c7b1
       try clear c11
       try clear c13
       try clear c13b0
       try clear c14
       try clear c16
       try clear hcz12_0
       try clear hcz12_1
       try clear hcz12_2
       try clear hcz17_0
       try clear hcz17_1
       try clear hcz17_2
       try clear hcz19_0
       try clear hcz19_1
       try clear hcz19_2
       try clear hfz12_0
       try clear hfz12_1
       try clear hfz12_2
       try clear hfz17_0
       try clear hfz17_1
       try clear hfz17_2
       try clear hfz19_0
       try clear hfz19_1
       try clear hfz19_2
       try clear p2
       obtain ⟨x11_2, x13_2, x411000_2, x411001_2, x411002_2, rfl, HA, HK2, HO_13, BK409, BK410, HB⟩ := hrel
       cases gk with
       | zero => exact absurd HA.out (by simp [sawmillref05_ReadInts.l0])
       | succ k2 =>
        have H := HA.out
        clear HA
        simp only [sawmillref05_ReadInts.l0] at H
        by_cases c22 : (IntKind.u64.wrap ((x13_2.length : Int))) < t411
        ·rw [if_pos c22] at H
         have c22b0 : decide ((IntKind.u64.wrap ((x13_2.length : Int))) < t411) = true := decide_eq_true c22
         clear c22
         replace H := oB H
         obtain ⟨⟨t423, t424, t425⟩, A230, H⟩ := H
         replace H : (if t425 = 0 then (if x13_2.length < 17592186044416 then (sawmillref05_ReadInts.l0 k2 a2 a3 t411 t424 (x13_2 ++ [t423]) a0_0 a0_1 a0_2) else (none)) else ((sawmillref05_fail.f a0_0 a0_1 a0_2 t425).bind fun bt429 => (some (bt429.1, bt429.2.1, bt429.2.2, ([] : List Int))))) = some (r1, r2, r3, r4) := H
         have A23 := Aside0.mk A230
         clear A230
         by_cases c24 : t425 = 0
         ·rw [if_pos c24] at H
          have c24b0 : (t425 == 0) = true := beq_iff_eq.mpr c24
          have c24b1 : (t425 != 0) = false := oD c24
          clear c24
          by_cases c25 : x13_2.length < 17592186044416
          ·rw [if_pos c25] at H
           have LMc25 := Aside0.mk c25
           clear c25
           obtain ⟨y426, hy426⟩ : ∃ y_ : List Int, y_ = (x13_2 ++ [t423]) := ⟨_, rfl⟩
           replace H : (sawmillref05_ReadInts.l0 k2 a2 a3 t411 t424 y426 a0_0 a0_1 a0_2) = some (r1, r2, r3, r4) := by first | (rw [hy426]; with_reducible exact H) | (have H2_ := (Option.bind_some _ _).symm.trans H; rw [hy426]; with_reducible exact H2_) | (have H2_ := (Option.bind_some _ _).symm.trans H; with_reducible exact H2_) | with_reducible exact H | (rw [hy426]; exact H) | exact H
           have Ny426 := Aside0.mk hy426
           clear hy426
           have H' := Aside0.mk H
           clear H
           obtain ⟨Ao26, co26, eo26⟩ := Kd.R_slice HO_13.out
           subst eo26
           have hnb27 := NB409_410.out
           have hnc27 := NB410_409.out
           have hcz28_0 : wr.cell? ⟨gb409, 0, none⟩ = some (.string a0_0) := (bC BK409.out 0).trans rfl
           have hcz28_1 : wr.cell? ⟨gb409, 1, none⟩ = some (.int .i64 a0_1) := (bC BK409.out 1).trans rfl
           have hcz28_2 : wr.cell? ⟨gb409, 2, none⟩ = some (.int .i64 a0_2) := (bC BK409.out 2).trans rfl
           have hfz28_0 := bF BK409.out 0
           have hfz28_1 := bF BK409.out 1
           have hfz28_2 := bF BK409.out 2
           go_wp2_with (first | ((with_reducible refine gate_callee (f := 64) rfl ?_); refine goesL_ (some 57) rfl rfl Tryd.func64 (by kernel_rfl) rfl #[.string a0_0, .int .i64 x11_2, .int .i64 a2, .int .i64 a3] rfl (by first | rfl | (simp only [List.map_toArray]; rfl)) ?_; (with_reducible refine (sawmillref05_signed.calls k2 a0_0 x11_2 a2 a3 t423 t424 t425 _ A23.out).mono ?_); rintro e w' ⟨rfl, ⟨nd, rfl⟩⟩; refine ⟨_, rfl, ?_⟩) | ((with_reducible refine gate_builtin (b := .append) (xs := #[.tmp 66, .tmp 68]) rfl ?_); at_builtin; refine Kd.R_append (Kd.int .i64) (w0 := w) w.heap.size rfl (.tmp 66) (.tmp 68) 22 3 (.int .i64 0) 8 rfl Tryd.underlying22 info3 rfl (by decide) (by omega) (.slice Ao26 x13_2.length co26) x13_2 t423 [.int .i64 t423] (fun _ => True) (fun _ => False) rfl rfl ?aP (fun _ hk => hk.elim) ?aF ?aO ?aB ?aS ?aL ?_; (case aP => exact rfl); (case aB => exact (by repeat (first | (with_reducible first | exact HB.out | apply pA | apply pN | apply p1 | refine pS ?_ GE409.out | refine pS ?_ GE410.out) | exact HB.out))); (case aF => exact (fun _ _ => trivial)); (case aO => exact (by (with_reducible repeat (first | apply Kd.R_alloc | apply Kd.R_drewN | apply Kd.R_drew)); exact HO_13.out)); (case aS => exact (pZ (by repeat (first | (with_reducible first | exact HB.out | apply pA | apply pN | apply p1 | refine pS ?_ GE409.out | refine pS ?_ GE410.out) | exact HB.out)))); (case aL => have := LMc25.out; omega); intro v427 w29 ho hb hg hat; rw [← Ny426.out] at ho; have n0_ := q_ (blk_grown (g := gb409) (o := .cells #[.string a0_0, .int .i64 a0_1, .int .i64 a0_2] 62 (0, 0)) (by (with_reducible repeat (first | refine bN ?_ _ | refine bW ?_ | refine bA ?_ _)); exact BK409.out) hg (Kd.R_ne HO_13.out BK409.out (by decide))); have n1_ := q_ (blk_grown (g := gb410) (o := .cells #[.string x411000_2, .int .i64 x411001_2, .int .i64 x411002_2] 62 (0, 0)) (by (with_reducible repeat (first | refine bN ?_ _ | refine bW ?_ | refine bA ?_ _)); exact BK410.out) hg (Kd.R_ne HO_13.out BK410.out (by decide))); have n2_ := q_ (hb); have n3_ := q_ (ho); clear BK409; clear BK410; clear HB; clear HO_13; have BK409 := n0_; have BK410 := n1_; have HB := n2_; have HO428 := n3_; clear n0_ n1_ n2_ n3_; clear ho hb hg hat))
           go_roundg k2
           case measure => have := HJ7.out; have := HK2.out; omega
           case rel => exact ⟨(t424), (y426), (x411000_2), (x411001_2), (x411002_2), (by first | rfl | (simp; done) | (simp [*]; done)), H', ⟨by have := HJ7.out; have := HK2.out; omega⟩, ⟨by (with_reducible repeat (first | apply Kd.R_alloc | apply Kd.R_drewN | apply Kd.R_drew)); exact HO428.out⟩, ⟨by (with_reducible repeat (first | refine bN ?_ _ | refine bW ?_ | refine bA ?_ _)); exact BK409.out⟩, ⟨by (with_reducible repeat (first | refine bN ?_ _ | refine bW ?_ | refine bA ?_ _)); exact BK410.out⟩, ⟨by repeat (first | (with_reducible first | exact HB.out | apply pA | apply pN | apply p1 | refine pS ?_ GE409.out | refine pS ?_ GE410.out) | exact HB.out)⟩⟩
          ·rw [if_neg c25] at H
           exact absurd H (by simp)
         ·rw [if_neg c24] at H
          have c24b0 : (t425 == 0) = false := oC c24
          have c24b1 : (t425 != 0) = true := bne_iff_ne.mpr c24
          replace H := oB H
          obtain ⟨⟨t429, t430, t431⟩, A300, H⟩ := H
          replace H : (some (t429, t430, t431, ([] : List Int))) = some (r1, r2, r3, r4) := H
          have A30 := Aside0.mk A300
          clear A300
          simp only [Option.some.injEq, Prod.mk.injEq] at H
          obtain ⟨rfl, rfl, rfl, rfl⟩ := H
          obtain ⟨Ao31, co31, eo31⟩ := Kd.R_slice HO_13.out
          subst eo31
          have hnb32 := NB409_410.out
          have hnc32 := NB410_409.out
          have hcz33_0 : wr.cell? ⟨gb409, 0, none⟩ = some (.string a0_0) := (bC BK409.out 0).trans rfl
          have hcz33_1 : wr.cell? ⟨gb409, 1, none⟩ = some (.int .i64 a0_1) := (bC BK409.out 1).trans rfl
          have hcz33_2 : wr.cell? ⟨gb409, 2, none⟩ = some (.int .i64 a0_2) := (bC BK409.out 2).trans rfl
          have hfz33_0 := bF BK409.out 0
          have hfz33_1 := bF BK409.out 1
          have hfz33_2 := bF BK409.out 2
          go_wp2_with (first | ((with_reducible refine gate_callee (f := 64) rfl ?_); refine goesL_ (some 57) rfl rfl Tryd.func64 (by kernel_rfl) rfl #[.string a0_0, .int .i64 x11_2, .int .i64 a2, .int .i64 a3] rfl (by first | rfl | (simp only [List.map_toArray]; rfl)) ?_; (with_reducible refine (sawmillref05_signed.calls k2 a0_0 x11_2 a2 a3 t423 t424 t425 _ A23.out).mono ?_); rintro e w' ⟨rfl, ⟨nd, rfl⟩⟩; refine ⟨_, rfl, ?_⟩; (try (rw [drewN_self wr]; generalize hq_ : World.drewN wr _ = wr; have n0_ : Aside0 (Kd.R (Kd.int .i64) 3 wr w.heap.size (fun _ => True) (.slice Ao31 x13_2.length co31) x13_2) := ⟨by rw [← hq_]; exact (by (with_reducible repeat (first | apply Kd.R_alloc | apply Kd.R_drewN | apply Kd.R_drew)); exact HO_13.out)⟩; have n1_ : Aside0 (wr.heap[gb409]? = some (.cells #[.string a0_0, .int .i64 a0_1, .int .i64 a0_2] 62 (0, 0))) := ⟨by rw [← hq_]; exact (by (with_reducible repeat (first | refine bN ?_ _ | refine bW ?_ | refine bA ?_ _)); exact BK409.out)⟩; have n2_ : Aside0 (wr.heap[gb410]? = some (.cells #[.string x411000_2, .int .i64 x411001_2, .int .i64 x411002_2] 62 (0, 0))) := ⟨by rw [← hq_]; exact (by (with_reducible repeat (first | refine bN ?_ _ | refine bW ?_ | refine bA ?_ _)); exact BK410.out)⟩; have n3_ : Aside0 (Below w.heap.size w wr) := ⟨by rw [← hq_]; exact (by repeat (first | (with_reducible first | exact HB.out | apply pA | apply pN | apply p1 | refine pS ?_ GE409.out | refine pS ?_ GE410.out) | exact HB.out))⟩; clear HO_13 BK409 BK410 HB hq_; have HO_13 := n0_; have BK409 := n1_; have BK410 := n2_; have HB := n3_; clear n0_ n1_ n2_ n3_)); have hcz34_0 : wr.cell? ⟨gb409, 0, none⟩ = some (.string a0_0) := (bC BK409.out 0).trans rfl; have hcz34_1 : wr.cell? ⟨gb409, 1, none⟩ = some (.int .i64 a0_1) := (bC BK409.out 1).trans rfl; have hcz34_2 : wr.cell? ⟨gb409, 2, none⟩ = some (.int .i64 a0_2) := (bC BK409.out 2).trans rfl; have hfz34_0 := bF BK409.out 0; have hfz34_1 := bF BK409.out 1; have hfz34_2 := bF BK409.out 2) | ((with_reducible refine gate_callee (f := 65) rfl ?_); refine goesL_ (some 65) rfl rfl Tryd.func65 (by kernel_rfl) rfl #[.agg #[.string a0_0, .int .i64 a0_1, .int .i64 a0_2], .int .i64 t425] rfl (by first | rfl | (simp only [List.map_toArray]; rfl)) ?_; (with_reducible refine (sawmillref05_fail.calls a0_0 a0_1 a0_2 t425 t429 t430 t431 _ A30.out).mono ?_); rintro e w35 ⟨rfl, hb⟩; refine ⟨_, rfl, ?_⟩; have n0_ := q_ (Kd.R_below (by (with_reducible repeat (first | apply Kd.R_alloc | apply Kd.R_drewN | apply Kd.R_drew)); exact HO_13.out) hb); have n1_ := q_ (bB (g := gb409) (o := .cells #[.string a0_0, .int .i64 a0_1, .int .i64 a0_2] 62 (0, 0)) (by (with_reducible repeat (first | refine bN ?_ _ | refine bW ?_ | refine bA ?_ _)); exact BK409.out) hb); have n2_ := q_ (bB (g := gb410) (o := .cells #[.string x411000_2, .int .i64 x411001_2, .int .i64 x411002_2] 62 (0, 0)) (by (with_reducible repeat (first | refine bN ?_ _ | refine bW ?_ | refine bA ?_ _)); exact BK410.out) hb); have n3_ := q_ (pT (by repeat (first | (with_reducible first | exact HB.out | apply pA | apply pN | apply p1 | refine pS ?_ GE409.out | refine pS ?_ GE410.out) | exact HB.out)) hb); clear HO_13; clear BK409; clear BK410; clear HB; have HO_13 := n0_; have BK409 := n1_; have BK410 := n2_; have HB := n3_; clear n0_ n1_ n2_ n3_; (try clear hb); (try clear hb2); (try clear hk); (try clear hi); have hcz36_0 : w35.cell? ⟨gb410, 0, none⟩ = some (.string x411000_2) := (bC BK410.out 0).trans rfl; have hcz36_1 : w35.cell? ⟨gb410, 1, none⟩ = some (.int .i64 x411001_2) := (bC BK410.out 1).trans rfl; have hcz36_2 : w35.cell? ⟨gb410, 2, none⟩ = some (.int .i64 x411002_2) := (bC BK410.out 2).trans rfl; have hfz36_0 := bF BK410.out 0; have hfz36_1 := bF BK410.out 1; have hfz36_2 := bF BK410.out 2))
          refine bodyPost_ret (results_ct rfl _ _ gb410 62 #[.string t429, .int .i64 t430, .int .i64 t431] (0, 0) _ rfl (by (with_reducible repeat (first | refine bN ?_ _ | refine bW ?_ | refine bA ?_ _)); refine blk_put (cs := #[.string t429, .int .i64 t430, .int .i64 x411002_2]) ?_ 2 _ rfl; (with_reducible repeat (first | refine bN ?_ _ | refine bW ?_ | refine bA ?_ _)); refine blk_put (cs := #[.string t429, .int .i64 x411001_2, .int .i64 x411002_2]) ?_ 1 _ rfl; (with_reducible repeat (first | refine bN ?_ _ | refine bW ?_ | refine bA ?_ _)); refine blk_put (cs := #[.string x411000_2, .int .i64 x411001_2, .int .i64 x411002_2]) ?_ 0 _ rfl; (with_reducible repeat (first | refine bN ?_ _ | refine bW ?_ | refine bA ?_ _)); exact BK410.out) Tryd.underlying62 rfl (by kernel_rfl)) rfl ?_
          exact ⟨_, by first | rfl | (simp [*] <;> rfl), by first | exact Kd.R_nil _ _ _ _ _ | exact Kd.N_nil _ _ _ _ _ | exact Kd.V_nil _ _ _ _ _ | exact Kd.Q_nil _ _ _ _ _ | exact Kd.S_nil _ _ _ _ _, by repeat (first | (with_reducible first | exact HB.out | apply pA | apply pN | apply p1 | refine pS ?_ GE409.out | refine pS ?_ GE410.out) | exact HB.out)⟩
        ·rw [if_neg c22] at H
         have c22b0 : decide ((IntKind.u64.wrap ((x13_2.length : Int))) < t411) = false := decide_eq_false c22
         clear c22
         simp only [Option.some.injEq, Prod.mk.injEq] at H
         obtain ⟨rfl, rfl, rfl, rfl⟩ := H
         obtain ⟨Ao37, co37, eo37⟩ := Kd.R_slice HO_13.out
         subst eo37
         have hnb38 := NB409_410.out
         have hnc38 := NB410_409.out
         have hcz39_0 : wr.cell? ⟨gb409, 0, none⟩ = some (.string a0_0) := (bC BK409.out 0).trans rfl
         have hcz39_1 : wr.cell? ⟨gb409, 1, none⟩ = some (.int .i64 a0_1) := (bC BK409.out 1).trans rfl
         have hcz39_2 : wr.cell? ⟨gb409, 2, none⟩ = some (.int .i64 a0_2) := (bC BK409.out 2).trans rfl
         have hfz39_0 := bF BK409.out 0
         have hfz39_1 := bF BK409.out 1
         have hfz39_2 := bF BK409.out 2
         have hcz40_0 : wr.cell? ⟨gb410, 0, none⟩ = some (.string x411000_2) := (bC BK410.out 0).trans rfl
         have hcz40_1 : wr.cell? ⟨gb410, 1, none⟩ = some (.int .i64 x411001_2) := (bC BK410.out 1).trans rfl
         have hcz40_2 : wr.cell? ⟨gb410, 2, none⟩ = some (.int .i64 x411002_2) := (bC BK410.out 2).trans rfl
         have hfz40_0 := bF BK410.out 0
         have hfz40_1 := bF BK410.out 1
         have hfz40_2 := bF BK410.out 2
         go_wp2
         refine bodyPost_ret (results_ct rfl _ _ gb410 62 #[.string a0_0, .int .i64 x11_2, .int .i64 a0_2] (0, 0) _ rfl (by (with_reducible repeat (first | refine bN ?_ _ | refine bW ?_ | refine bA ?_ _)); refine blk_put (cs := #[.string a0_0, .int .i64 x11_2, .int .i64 x411002_2]) ?_ 2 _ rfl; (with_reducible repeat (first | refine bN ?_ _ | refine bW ?_ | refine bA ?_ _)); refine blk_put (cs := #[.string a0_0, .int .i64 x411001_2, .int .i64 x411002_2]) ?_ 1 _ rfl; (with_reducible repeat (first | refine bN ?_ _ | refine bW ?_ | refine bA ?_ _)); refine blk_put (cs := #[.string x411000_2, .int .i64 x411001_2, .int .i64 x411002_2]) ?_ 0 _ rfl; (with_reducible repeat (first | refine bN ?_ _ | refine bW ?_ | refine bA ?_ _)); refine blk_far ?_ NB410_409.out _; (with_reducible repeat (first | refine bN ?_ _ | refine bW ?_ | refine bA ?_ _)); exact BK410.out) Tryd.underlying62 rfl (by kernel_rfl)) rfl ?_
         exact ⟨_, by first | rfl | (simp [*] <;> rfl), by (with_reducible repeat (first | apply Kd.R_alloc | apply Kd.R_drewN | apply Kd.R_drew)); exact Kd.R_mono (Kd.R_far (p := ⟨gb410, 2, none⟩) (Kd.R_far (p := ⟨gb410, 1, none⟩) (Kd.R_far (p := ⟨gb410, 0, none⟩) (Kd.R_far (p := ⟨gb409, 1, none⟩) (Kd.R_types (Kd.R_types HO_13.out BK409.out (by decide)) BK410.out (by decide)) (fun _ hk => hk.1.2) (.int .i64 x11_2)) (fun _ hk => hk.2) (.string a0_0)) (fun _ hk => hk.2) (.int .i64 x11_2)) (fun _ hk => hk.2) (.int .i64 a0_2)) (fun _ hk => trivial), by repeat (first | (with_reducible first | exact HB.out | apply pA | apply pN | apply p1 | refine pS ?_ GE409.out | refine pS ?_ GE410.out) | exact HB.out)⟩
  ·rw [if_neg c7] at H
   have c7b0 : (t413 == 0) = false := oC c7
   have c7b1 : (t413 != 0) = true := bne_iff_ne.mpr c7
   replace H := oB H
   obtain ⟨⟨t414, t415, t416⟩, A410, H⟩ := H
   replace H : (some (t414, t415, t416, ([] : List Int))) = some (r1, r2, r3, r4) := H
   have A41 := Aside0.mk A410
   clear A410
   simp only [Option.some.injEq, Prod.mk.injEq] at H
   obtain ⟨rfl, rfl, rfl, rfl⟩ := H
   go_enter Tryd.func43, Tryd.ntmps43
   go_wp2_with (first | ((with_reducible refine gate_dst (N := 4) rfl ?_); refine box_event ?hg (N := 4) ?hd (cs := #[.string a0_0, .int .i64 a0_1, .int .i64 a0_2]) (t := 62) ?hr ?_; (case hd => rfl); (case hg => rfl); (case hr => first | (go_simp; done) | (go_simp; rfl)); intro gb409 hg w42 hbox hb; have n0_ := q_ (pT (by repeat (first | (with_reducible first | exact HB.out | apply pA | apply pN | apply p1) | exact HB.out)) hb); have n1_ := q_ (hbox); have n2_ := q_ ((by rw [hg]; exact (pZ (by repeat (first | (with_reducible first | exact HB.out | apply pA | apply pN | apply p1) | exact HB.out))) : w.heap.size ≤ gb409)); have n3_ := q_ ((by rw [hg]; exact (pZ (by repeat (first | (with_reducible first | exact HB.out | apply pA | apply pN | apply p1) | exact HB.out))) : w.heap.size ≤ gb409)); clear HB; have HB := n0_; have BK409 := n1_; have GW409 := n2_; have GE409 := n3_; clear n0_ n1_ n2_ n3_; clear hb hbox hg) | ((with_reducible refine gate_dst (N := 8) rfl ?_); refine box_event ?hg (N := 8) ?hd (cs := #[.string (⟨#[]⟩ : ByteArray), .int .i64 0, .int .i64 0]) (t := 62) ?hr ?_; (case hd => rfl); (case hg => rfl); (case hr => first | (go_simp; done) | (go_simp; rfl)); intro gb410 hg w43 hbox hb; have n0_ := q_ (bB (g := gb409) (o := .cells #[.string a0_0, .int .i64 a0_1, .int .i64 a0_2] 62 (0, 0)) (by (with_reducible repeat (first | refine bN ?_ _ | refine bW ?_ | refine bA ?_ _)); exact BK409.out) hb); have n1_ := q_ (pT (by repeat (first | (with_reducible first | exact HB.out | apply pA | apply pN | apply p1 | refine pS ?_ GE409.out) | exact HB.out)) hb); have n2_ := q_ (hbox); have n3_ := q_ ((by rw [hg]; exact (pZ (by repeat (first | (with_reducible first | exact HB.out | apply pA | apply pN | apply p1 | refine pS ?_ GE409.out) | exact HB.out))) : w.heap.size ≤ gb410)); have n4_ := q_ ((by rw [hg]; exact (pZ (by repeat (first | (with_reducible first | exact HB.out | apply pA | apply pN | apply p1 | refine pS ?_ GE409.out) | exact HB.out))) : w.heap.size ≤ gb410)); have n5_ := q_ ((by rw [hg]; exact Nat.ne_of_lt (blk_lt (g := gb409) (o := .cells #[.string a0_0, .int .i64 a0_1, .int .i64 a0_2] 62 (0, 0)) (by (with_reducible repeat (first | refine bN ?_ _ | refine bW ?_ | refine bA ?_ _)); exact BK409.out)) : gb409 ≠ gb410)); have n6_ := q_ ((by rw [hg]; exact Nat.ne_of_gt (blk_lt (g := gb409) (o := .cells #[.string a0_0, .int .i64 a0_1, .int .i64 a0_2] 62 (0, 0)) (by (with_reducible repeat (first | refine bN ?_ _ | refine bW ?_ | refine bA ?_ _)); exact BK409.out)) : gb410 ≠ gb409)); clear BK409; clear HB; have BK409 := n0_; have HB := n1_; have BK410 := n2_; have GW410 := n3_; have GE410 := n4_; have NB409_410 := n5_; have NB410_409 := n6_; clear n0_ n1_ n2_ n3_ n4_ n5_ n6_; clear hb hbox hg; have hnb44 := NB409_410.out; have hnc44 := NB410_409.out; have hcz45_0 : w43.cell? ⟨gb409, 0, none⟩ = some (.string a0_0) := (bC BK409.out 0).trans rfl; have hcz45_1 : w43.cell? ⟨gb409, 1, none⟩ = some (.int .i64 a0_1) := (bC BK409.out 1).trans rfl; have hcz45_2 : w43.cell? ⟨gb409, 2, none⟩ = some (.int .i64 a0_2) := (bC BK409.out 2).trans rfl; have hfz45_0 := bF BK409.out 0; have hfz45_1 := bF BK409.out 1; have hfz45_2 := bF BK409.out 2) | ((with_reducible refine gate_callee (f := 66) rfl ?_); refine goesL_ (some 26) rfl rfl Tryd.func66 (by kernel_rfl) rfl #[.string a0_0, .int .i64 a0_1] rfl (by first | rfl | (simp only [List.map_toArray]; rfl)) ?_; (with_reducible refine (sawmillref05_number.calls k a0_0 a0_1 t411 t412 t413 _ A6.out).mono ?_); rintro e w' ⟨rfl, ⟨nd, rfl⟩⟩; refine ⟨_, rfl, ?_⟩; (try (rw [drewN_self w43]; generalize hq_ : World.drewN w43 _ = w43; have n0_ : Aside0 (w43.heap[gb409]? = some (.cells #[.string a0_0, .int .i64 a0_1, .int .i64 a0_2] 62 (0, 0))) := ⟨by rw [← hq_]; exact (by (with_reducible repeat (first | refine bN ?_ _ | refine bW ?_ | refine bA ?_ _)); exact BK409.out)⟩; have n1_ : Aside0 (w43.heap[gb410]? = some (.cells #[.string (⟨#[]⟩ : ByteArray), .int .i64 0, .int .i64 0] 62 (0, 0))) := ⟨by rw [← hq_]; exact (by (with_reducible repeat (first | refine bN ?_ _ | refine bW ?_ | refine bA ?_ _)); exact BK410.out)⟩; have n2_ : Aside0 (Below w.heap.size w w43) := ⟨by rw [← hq_]; exact (by repeat (first | (with_reducible first | exact HB.out | apply pA | apply pN | apply p1 | refine pS ?_ GE409.out | refine pS ?_ GE410.out) | exact HB.out))⟩; clear BK409 BK410 HB hq_; have BK409 := n0_; have BK410 := n1_; have HB := n2_; clear n0_ n1_ n2_)); have hcz46_0 : w43.cell? ⟨gb409, 0, none⟩ = some (.string a0_0) := (bC BK409.out 0).trans rfl; have hcz46_1 : w43.cell? ⟨gb409, 1, none⟩ = some (.int .i64 a0_1) := (bC BK409.out 1).trans rfl; have hcz46_2 : w43.cell? ⟨gb409, 2, none⟩ = some (.int .i64 a0_2) := (bC BK409.out 2).trans rfl; have hfz46_0 := bF BK409.out 0; have hfz46_1 := bF BK409.out 1; have hfz46_2 := bF BK409.out 2) | ((with_reducible refine gate_callee (f := 65) rfl ?_); refine goesL_ (some 34) rfl rfl Tryd.func65 (by kernel_rfl) rfl #[.agg #[.string a0_0, .int .i64 a0_1, .int .i64 a0_2], .int .i64 t413] rfl (by first | rfl | (simp only [List.map_toArray]; rfl)) ?_; (with_reducible refine (sawmillref05_fail.calls a0_0 a0_1 a0_2 t413 t414 t415 t416 _ A41.out).mono ?_); rintro e w47 ⟨rfl, hb⟩; refine ⟨_, rfl, ?_⟩; have n0_ := q_ (bB (g := gb409) (o := .cells #[.string a0_0, .int .i64 a0_1, .int .i64 a0_2] 62 (0, 0)) (by (with_reducible repeat (first | refine bN ?_ _ | refine bW ?_ | refine bA ?_ _)); exact BK409.out) hb); have n1_ := q_ (bB (g := gb410) (o := .cells #[.string (⟨#[]⟩ : ByteArray), .int .i64 0, .int .i64 0] 62 (0, 0)) (by (with_reducible repeat (first | refine bN ?_ _ | refine bW ?_ | refine bA ?_ _)); exact BK410.out) hb); have n2_ := q_ (pT (by repeat (first | (with_reducible first | exact HB.out | apply pA | apply pN | apply p1 | refine pS ?_ GE409.out | refine pS ?_ GE410.out) | exact HB.out)) hb); clear BK409; clear BK410; clear HB; have BK409 := n0_; have BK410 := n1_; have HB := n2_; clear n0_ n1_ n2_; (try clear hb); (try clear hb2); (try clear hk); (try clear hi); have hcz48_0 : w47.cell? ⟨gb410, 0, none⟩ = some (.string (⟨#[]⟩ : ByteArray)) := (bC BK410.out 0).trans rfl; have hcz48_1 : w47.cell? ⟨gb410, 1, none⟩ = some (.int .i64 0) := (bC BK410.out 1).trans rfl; have hcz48_2 : w47.cell? ⟨gb410, 2, none⟩ = some (.int .i64 0) := (bC BK410.out 2).trans rfl; have hfz48_0 := bF BK410.out 0; have hfz48_1 := bF BK410.out 1; have hfz48_2 := bF BK410.out 2))
   refine bodyPost_ret (results_ct rfl _ _ gb410 62 #[.string t414, .int .i64 t415, .int .i64 t416] (0, 0) _ rfl (by (with_reducible repeat (first | refine bN ?_ _ | refine bW ?_ | refine bA ?_ _)); refine blk_put (cs := #[.string t414, .int .i64 t415, .int .i64 0]) ?_ 2 _ rfl; (with_reducible repeat (first | refine bN ?_ _ | refine bW ?_ | refine bA ?_ _)); refine blk_put (cs := #[.string t414, .int .i64 0, .int .i64 0]) ?_ 1 _ rfl; (with_reducible repeat (first | refine bN ?_ _ | refine bW ?_ | refine bA ?_ _)); refine blk_put (cs := #[.string (⟨#[]⟩ : ByteArray), .int .i64 0, .int .i64 0]) ?_ 0 _ rfl; (with_reducible repeat (first | refine bN ?_ _ | refine bW ?_ | refine bA ?_ _)); exact BK410.out) Tryd.underlying62 rfl (by kernel_rfl)) rfl ?_
   exact ⟨_, by first | rfl | (simp [*] <;> rfl), by first | exact Kd.R_nil _ _ _ _ _ | exact Kd.N_nil _ _ _ _ _ | exact Kd.V_nil _ _ _ _ _ | exact Kd.Q_nil _ _ _ _ _ | exact Kd.S_nil _ _ _ _ _, by repeat (first | (with_reducible first | exact HB.out | apply pA | apply pN | apply p1 | refine pS ?_ GE409.out | refine pS ?_ GE410.out) | exact HB.out)⟩
 ·rw [if_neg c5] at H
  have c5b0 : (a0_2 == 0) = false := oC c5
  have c5b1 : (a0_2 != 0) = true := bne_iff_ne.mpr c5
  simp only [Option.some.injEq, Prod.mk.injEq] at H
  obtain ⟨rfl, rfl, rfl, rfl⟩ := H
  go_enter Tryd.func43, Tryd.ntmps43
  go_wp2_with (first | ((with_reducible refine gate_dst (N := 4) rfl ?_); refine box_event ?hg (N := 4) ?hd (cs := #[.string a0_0, .int .i64 a0_1, .int .i64 a0_2]) (t := 62) ?hr ?_; (case hd => rfl); (case hg => rfl); (case hr => first | (go_simp; done) | (go_simp; rfl)); intro gb409 hg w49 hbox hb; have n0_ := q_ (pT (by repeat (first | (with_reducible first | exact HB.out | apply pA | apply pN | apply p1) | exact HB.out)) hb); have n1_ := q_ (hbox); have n2_ := q_ ((by rw [hg]; exact (pZ (by repeat (first | (with_reducible first | exact HB.out | apply pA | apply pN | apply p1) | exact HB.out))) : w.heap.size ≤ gb409)); have n3_ := q_ ((by rw [hg]; exact (pZ (by repeat (first | (with_reducible first | exact HB.out | apply pA | apply pN | apply p1) | exact HB.out))) : w.heap.size ≤ gb409)); clear HB; have HB := n0_; have BK409 := n1_; have GW409 := n2_; have GE409 := n3_; clear n0_ n1_ n2_ n3_; clear hb hbox hg) | ((with_reducible refine gate_dst (N := 8) rfl ?_); refine box_event ?hg (N := 8) ?hd (cs := #[.string (⟨#[]⟩ : ByteArray), .int .i64 0, .int .i64 0]) (t := 62) ?hr ?_; (case hd => rfl); (case hg => rfl); (case hr => first | (go_simp; done) | (go_simp; rfl)); intro gb410 hg w50 hbox hb; have n0_ := q_ (bB (g := gb409) (o := .cells #[.string a0_0, .int .i64 a0_1, .int .i64 a0_2] 62 (0, 0)) (by (with_reducible repeat (first | refine bN ?_ _ | refine bW ?_ | refine bA ?_ _)); exact BK409.out) hb); have n1_ := q_ (pT (by repeat (first | (with_reducible first | exact HB.out | apply pA | apply pN | apply p1 | refine pS ?_ GE409.out) | exact HB.out)) hb); have n2_ := q_ (hbox); have n3_ := q_ ((by rw [hg]; exact (pZ (by repeat (first | (with_reducible first | exact HB.out | apply pA | apply pN | apply p1 | refine pS ?_ GE409.out) | exact HB.out))) : w.heap.size ≤ gb410)); have n4_ := q_ ((by rw [hg]; exact (pZ (by repeat (first | (with_reducible first | exact HB.out | apply pA | apply pN | apply p1 | refine pS ?_ GE409.out) | exact HB.out))) : w.heap.size ≤ gb410)); have n5_ := q_ ((by rw [hg]; exact Nat.ne_of_lt (blk_lt (g := gb409) (o := .cells #[.string a0_0, .int .i64 a0_1, .int .i64 a0_2] 62 (0, 0)) (by (with_reducible repeat (first | refine bN ?_ _ | refine bW ?_ | refine bA ?_ _)); exact BK409.out)) : gb409 ≠ gb410)); have n6_ := q_ ((by rw [hg]; exact Nat.ne_of_gt (blk_lt (g := gb409) (o := .cells #[.string a0_0, .int .i64 a0_1, .int .i64 a0_2] 62 (0, 0)) (by (with_reducible repeat (first | refine bN ?_ _ | refine bW ?_ | refine bA ?_ _)); exact BK409.out)) : gb410 ≠ gb409)); clear BK409; clear HB; have BK409 := n0_; have HB := n1_; have BK410 := n2_; have GW410 := n3_; have GE410 := n4_; have NB409_410 := n5_; have NB410_409 := n6_; clear n0_ n1_ n2_ n3_ n4_ n5_ n6_; clear hb hbox hg; have hnb51 := NB409_410.out; have hnc51 := NB410_409.out; have hcz52_0 : w50.cell? ⟨gb409, 0, none⟩ = some (.string a0_0) := (bC BK409.out 0).trans rfl; have hcz52_1 : w50.cell? ⟨gb409, 1, none⟩ = some (.int .i64 a0_1) := (bC BK409.out 1).trans rfl; have hcz52_2 : w50.cell? ⟨gb409, 2, none⟩ = some (.int .i64 a0_2) := (bC BK409.out 2).trans rfl; have hfz52_0 := bF BK409.out 0; have hfz52_1 := bF BK409.out 1; have hfz52_2 := bF BK409.out 2; have hcz53_0 : w50.cell? ⟨gb410, 0, none⟩ = some (.string (⟨#[]⟩ : ByteArray)) := (bC BK410.out 0).trans rfl; have hcz53_1 : w50.cell? ⟨gb410, 1, none⟩ = some (.int .i64 0) := (bC BK410.out 1).trans rfl; have hcz53_2 : w50.cell? ⟨gb410, 2, none⟩ = some (.int .i64 0) := (bC BK410.out 2).trans rfl; have hfz53_0 := bF BK410.out 0; have hfz53_1 := bF BK410.out 1; have hfz53_2 := bF BK410.out 2))
  refine bodyPost_ret (results_ct rfl _ _ gb410 62 #[.string a0_0, .int .i64 a0_1, .int .i64 a0_2] (0, 0) _ rfl (by (with_reducible repeat (first | refine bN ?_ _ | refine bW ?_ | refine bA ?_ _)); refine blk_put (cs := #[.string a0_0, .int .i64 a0_1, .int .i64 0]) ?_ 2 _ rfl; (with_reducible repeat (first | refine bN ?_ _ | refine bW ?_ | refine bA ?_ _)); refine blk_put (cs := #[.string a0_0, .int .i64 0, .int .i64 0]) ?_ 1 _ rfl; (with_reducible repeat (first | refine bN ?_ _ | refine bW ?_ | refine bA ?_ _)); refine blk_put (cs := #[.string (⟨#[]⟩ : ByteArray), .int .i64 0, .int .i64 0]) ?_ 0 _ rfl; (with_reducible repeat (first | refine bN ?_ _ | refine bW ?_ | refine bA ?_ _)); exact BK410.out) Tryd.underlying62 rfl (by kernel_rfl)) rfl ?_
  exact ⟨_, by first | rfl | (simp [*] <;> rfl), by first | exact Kd.R_nil _ _ _ _ _ | exact Kd.N_nil _ _ _ _ _ | exact Kd.V_nil _ _ _ _ _ | exact Kd.Q_nil _ _ _ _ _ | exact Kd.S_nil _ _ _ _ _, by repeat (first | (with_reducible first | exact HB.out | apply pA | apply pN | apply p1 | refine pS ?_ GE409.out | refine pS ?_ GE410.out) | exact HB.out)⟩
def sawmillref05_Left.f (a0_0 : ByteArray) (a0_1 : Int) (a0_2 : Int) : Option (Int) := some (wrap64 ((a0_0.size : Int) - a0_1))
set_option maxHeartbeats 8000000 in
set_option maxRecDepth 100000 in
theorem sawmillref05_Left.calls (a0_0 : ByteArray) (a0_1 : Int) (a0_2 : Int) (r : Int) (w : World) (h : sawmillref05_Left.f a0_0 a0_1 a0_2 = some r) :
  Calls Tryd.prog 67 #[.agg #[.string a0_0, .int .i64 a0_1, .int .i64 a0_2]] w fun e w' => e = .returned (.int .i64 r) ∧ Below w.heap.size w w' := by
 have hu62 := Tryd.underlying62
 have HB := q_ (Below.refl w.heap.size w)
 have H : (some (wrap64 ((a0_0.size : Int) - a0_1))) = some r := h
 clear h
 obtain rfl := Option.some.inj H
 go_enter Tryd.func67, Tryd.ntmps67
 go_wp2_with (first | ((with_reducible refine gate_dst (N := 1) rfl ?_); refine box_event ?hg (N := 1) ?hd (cs := #[.string a0_0, .int .i64 a0_1, .int .i64 a0_2]) (t := 62) ?hr ?_; (case hd => rfl); (case hg => rfl); (case hr => first | (go_simp; done) | (go_simp; rfl)); intro gb432 hg w2 hbox hb; have n0_ := q_ (pT (by repeat (first | (with_reducible first | exact HB.out | apply pA | apply pN | apply p1) | exact HB.out)) hb); have n1_ := q_ (hbox); have n2_ := q_ ((by rw [hg]; exact (pZ (by repeat (first | (with_reducible first | exact HB.out | apply pA | apply pN | apply p1) | exact HB.out))) : w.heap.size ≤ gb432)); have n3_ := q_ ((by rw [hg]; exact (pZ (by repeat (first | (with_reducible first | exact HB.out | apply pA | apply pN | apply p1) | exact HB.out))) : w.heap.size ≤ gb432)); clear HB; have HB := n0_; have BK432 := n1_; have GW432 := n2_; have GE432 := n3_; clear n0_ n1_ n2_ n3_; clear hb hbox hg; have hcz3_0 : w2.cell? ⟨gb432, 0, none⟩ = some (.string a0_0) := (bC BK432.out 0).trans rfl; have hcz3_1 : w2.cell? ⟨gb432, 1, none⟩ = some (.int .i64 a0_1) := (bC BK432.out 1).trans rfl; have hcz3_2 : w2.cell? ⟨gb432, 2, none⟩ = some (.int .i64 a0_2) := (bC BK432.out 2).trans rfl; have hfz3_0 := bF BK432.out 0; have hfz3_1 := bF BK432.out 1; have hfz3_2 := bF BK432.out 2))
 go_ret
 exact ⟨by first | rfl | (simp [*] <;> rfl), by repeat (first | (with_reducible first | exact HB.out | apply pA | apply pN | apply p1 | refine pS ?_ GE432.out) | exact HB.out)⟩
def sawmillref05_End.f (a0_0 : ByteArray) (a0_1 : Int) (a0_2 : Int) : Option (Int) := if a0_2 = 0 then ((sawmillref05_Left.f a0_0 a0_1 a0_2).bind fun t434 => (if t434 > 0 then (some 4) else (some a0_2))) else (some a0_2)
set_option maxHeartbeats 8000000 in
set_option maxRecDepth 100000 in
theorem sawmillref05_End.calls (a0_0 : ByteArray) (a0_1 : Int) (a0_2 : Int) (r : Int) (w : World) (h : sawmillref05_End.f a0_0 a0_1 a0_2 = some r) :
  Calls Tryd.prog 44 #[.agg #[.string a0_0, .int .i64 a0_1, .int .i64 a0_2]] w fun e w' => e = .returned (.int .i64 r) ∧ Below w.heap.size w w' := by
 have hu62 := Tryd.underlying62
 have HB := q_ (Below.refl w.heap.size w)
 have H : (if a0_2 = 0 then ((sawmillref05_Left.f a0_0 a0_1 a0_2).bind fun t434 => (if t434 > 0 then (some 4) else (some a0_2))) else (some a0_2)) = some r := h
 clear h
 by_cases c2 : a0_2 = 0
 ·rw [if_pos c2] at H
  have c2b0 : (a0_2 == 0) = true := beq_iff_eq.mpr c2
  have c2b1 : (a0_2 != 0) = false := oD c2
  clear c2
  replace H := oB H
  obtain ⟨t434, A30, H⟩ := H
  replace H : (if t434 > 0 then (some 4) else (some a0_2)) = some r := H
  have A3 := Aside0.mk A30
  clear A30
  by_cases c4 : t434 > 0
  ·rw [if_pos c4] at H
   have c4b0 : decide (0 < t434) = true := decide_eq_true c4
   clear c4
   obtain rfl := Option.some.inj H
   go_enter Tryd.func44, Tryd.ntmps44
   go_wp2_with (first | ((with_reducible refine gate_dst (N := 1) rfl ?_); refine box_event ?hg (N := 1) ?hd (cs := #[.string a0_0, .int .i64 a0_1, .int .i64 a0_2]) (t := 62) ?hr ?_; (case hd => rfl); (case hg => rfl); (case hr => first | (go_simp; done) | (go_simp; rfl)); intro gb433 hg w5 hbox hb; have n0_ := q_ (pT (by repeat (first | (with_reducible first | exact HB.out | apply pA | apply pN | apply p1) | exact HB.out)) hb); have n1_ := q_ (hbox); have n2_ := q_ ((by rw [hg]; exact (pZ (by repeat (first | (with_reducible first | exact HB.out | apply pA | apply pN | apply p1) | exact HB.out))) : w.heap.size ≤ gb433)); have n3_ := q_ ((by rw [hg]; exact (pZ (by repeat (first | (with_reducible first | exact HB.out | apply pA | apply pN | apply p1) | exact HB.out))) : w.heap.size ≤ gb433)); clear HB; have HB := n0_; have BK433 := n1_; have GW433 := n2_; have GE433 := n3_; clear n0_ n1_ n2_ n3_; clear hb hbox hg; have hcz6_0 : w5.cell? ⟨gb433, 0, none⟩ = some (.string a0_0) := (bC BK433.out 0).trans rfl; have hcz6_1 : w5.cell? ⟨gb433, 1, none⟩ = some (.int .i64 a0_1) := (bC BK433.out 1).trans rfl; have hcz6_2 : w5.cell? ⟨gb433, 2, none⟩ = some (.int .i64 a0_2) := (bC BK433.out 2).trans rfl; have hfz6_0 := bF BK433.out 0; have hfz6_1 := bF BK433.out 1; have hfz6_2 := bF BK433.out 2) | (go_at_call 67; (with_reducible refine (sawmillref05_Left.calls a0_0 a0_1 a0_2 t434 _ A3.out).mono ?_); rintro e w7 ⟨rfl, hb⟩; have n0_ := q_ (bB (g := gb433) (o := .cells #[.string a0_0, .int .i64 a0_1, .int .i64 a0_2] 62 (0, 0)) (by (with_reducible repeat (first | refine bN ?_ _ | refine bW ?_ | refine bA ?_ _)); exact BK433.out) hb); have n1_ := q_ (pT (by repeat (first | (with_reducible first | exact HB.out | apply pA | apply pN | apply p1 | refine pS ?_ GE433.out) | exact HB.out)) hb); clear BK433; clear HB; have BK433 := n0_; have HB := n1_; clear n0_ n1_; (try clear hb); (try clear hb2); (try clear hk); (try clear hi)))
   go_ret
   exact ⟨by first | rfl | (simp [*] <;> rfl), by repeat (first | (with_reducible first | exact HB.out | apply pA | apply pN | apply p1 | refine pS ?_ GE433.out) | exact HB.out)⟩
  ·rw [if_neg c4] at H
   have c4b0 : decide (0 < t434) = false := decide_eq_false c4
   clear c4
   obtain rfl := Option.some.inj H
   go_enter Tryd.func44, Tryd.ntmps44
   go_wp2_with (first | ((with_reducible refine gate_dst (N := 1) rfl ?_); refine box_event ?hg (N := 1) ?hd (cs := #[.string a0_0, .int .i64 a0_1, .int .i64 a0_2]) (t := 62) ?hr ?_; (case hd => rfl); (case hg => rfl); (case hr => first | (go_simp; done) | (go_simp; rfl)); intro gb433 hg w8 hbox hb; have n0_ := q_ (pT (by repeat (first | (with_reducible first | exact HB.out | apply pA | apply pN | apply p1) | exact HB.out)) hb); have n1_ := q_ (hbox); have n2_ := q_ ((by rw [hg]; exact (pZ (by repeat (first | (with_reducible first | exact HB.out | apply pA | apply pN | apply p1) | exact HB.out))) : w.heap.size ≤ gb433)); have n3_ := q_ ((by rw [hg]; exact (pZ (by repeat (first | (with_reducible first | exact HB.out | apply pA | apply pN | apply p1) | exact HB.out))) : w.heap.size ≤ gb433)); clear HB; have HB := n0_; have BK433 := n1_; have GW433 := n2_; have GE433 := n3_; clear n0_ n1_ n2_ n3_; clear hb hbox hg; have hcz9_0 : w8.cell? ⟨gb433, 0, none⟩ = some (.string a0_0) := (bC BK433.out 0).trans rfl; have hcz9_1 : w8.cell? ⟨gb433, 1, none⟩ = some (.int .i64 a0_1) := (bC BK433.out 1).trans rfl; have hcz9_2 : w8.cell? ⟨gb433, 2, none⟩ = some (.int .i64 a0_2) := (bC BK433.out 2).trans rfl; have hfz9_0 := bF BK433.out 0; have hfz9_1 := bF BK433.out 1; have hfz9_2 := bF BK433.out 2) | (go_at_call 67; (with_reducible refine (sawmillref05_Left.calls a0_0 a0_1 a0_2 t434 _ A3.out).mono ?_); rintro e w10 ⟨rfl, hb⟩; have n0_ := q_ (bB (g := gb433) (o := .cells #[.string a0_0, .int .i64 a0_1, .int .i64 a0_2] 62 (0, 0)) (by (with_reducible repeat (first | refine bN ?_ _ | refine bW ?_ | refine bA ?_ _)); exact BK433.out) hb); have n1_ := q_ (pT (by repeat (first | (with_reducible first | exact HB.out | apply pA | apply pN | apply p1 | refine pS ?_ GE433.out) | exact HB.out)) hb); clear BK433; clear HB; have BK433 := n0_; have HB := n1_; clear n0_ n1_; (try clear hb); (try clear hb2); (try clear hk); (try clear hi); have hcz11_0 : w10.cell? ⟨gb433, 0, none⟩ = some (.string a0_0) := (bC BK433.out 0).trans rfl; have hcz11_1 : w10.cell? ⟨gb433, 1, none⟩ = some (.int .i64 a0_1) := (bC BK433.out 1).trans rfl; have hcz11_2 : w10.cell? ⟨gb433, 2, none⟩ = some (.int .i64 a0_2) := (bC BK433.out 2).trans rfl; have hfz11_0 := bF BK433.out 0; have hfz11_1 := bF BK433.out 1; have hfz11_2 := bF BK433.out 2))
   go_ret
   exact ⟨by first | rfl | (simp [*] <;> rfl), by repeat (first | (with_reducible first | exact HB.out | apply pA | apply pN | apply p1 | refine pS ?_ GE433.out) | exact HB.out)⟩
 ·rw [if_neg c2] at H
  have c2b0 : (a0_2 == 0) = false := oC c2
  have c2b1 : (a0_2 != 0) = true := bne_iff_ne.mpr c2
  obtain rfl := Option.some.inj H
  go_enter Tryd.func44, Tryd.ntmps44
  go_wp2_with (first | ((with_reducible refine gate_dst (N := 1) rfl ?_); refine box_event ?hg (N := 1) ?hd (cs := #[.string a0_0, .int .i64 a0_1, .int .i64 a0_2]) (t := 62) ?hr ?_; (case hd => rfl); (case hg => rfl); (case hr => first | (go_simp; done) | (go_simp; rfl)); intro gb433 hg w12 hbox hb; have n0_ := q_ (pT (by repeat (first | (with_reducible first | exact HB.out | apply pA | apply pN | apply p1) | exact HB.out)) hb); have n1_ := q_ (hbox); have n2_ := q_ ((by rw [hg]; exact (pZ (by repeat (first | (with_reducible first | exact HB.out | apply pA | apply pN | apply p1) | exact HB.out))) : w.heap.size ≤ gb433)); have n3_ := q_ ((by rw [hg]; exact (pZ (by repeat (first | (with_reducible first | exact HB.out | apply pA | apply pN | apply p1) | exact HB.out))) : w.heap.size ≤ gb433)); clear HB; have HB := n0_; have BK433 := n1_; have GW433 := n2_; have GE433 := n3_; clear n0_ n1_ n2_ n3_; clear hb hbox hg; have hcz13_0 : w12.cell? ⟨gb433, 0, none⟩ = some (.string a0_0) := (bC BK433.out 0).trans rfl; have hcz13_1 : w12.cell? ⟨gb433, 1, none⟩ = some (.int .i64 a0_1) := (bC BK433.out 1).trans rfl; have hcz13_2 : w12.cell? ⟨gb433, 2, none⟩ = some (.int .i64 a0_2) := (bC BK433.out 2).trans rfl; have hfz13_0 := bF BK433.out 0; have hfz13_1 := bF BK433.out 1; have hfz13_2 := bF BK433.out 2))
  go_ret
  exact ⟨by first | rfl | (simp [*] <;> rfl), by repeat (first | (with_reducible first | exact HB.out | apply pA | apply pN | apply p1 | refine pS ?_ GE433.out) | exact HB.out)⟩
end Go.Proofs.YtbahagcidhmojaaDoor.PA
