/- Each Go function that the law reaches as a Lean function, and that its call comes to that function's answer. -/
import Derived.Test.YtblmgmhjlbkncaaDoorCOrderTexts3
import Derived.Test.YtblmgmhjlbkncaaDoorVOrderTexts
import Derived.Test.YtblmgmhjlbkncaaDoorProg
import Derived.Test.YtblmgmhjlbkncaaDoorShelf
import Derived.Below
import Derived.Deep.Draws
import Derived.Deep.AppendLies
import Derived.Maps.AppendAt
import Derived.OwnWalk
import Derived.Laws.BytesArg
import Derived.Laws.MakeOwn
import Derived.Laws.OwnMore
import Derived.Deep.OwnRows
import Derived.Tactics
import Derived.Lib.ConvBytes
import Derived.Laws.Slices
import Derived.WalkKit
import Derived.KernelRfl
import Derived.RowKit3
import Derived.Deep.LoopGhost
import Derived.Deep.QuietTactic
import Derived.BigQuiet
import Derived.WideLaws
import Derived.Deep.DeepCutAuto
import Derived.Deep.CutBlock
import Derived.Deep.RegionHeld3
import Derived.Laws.Rows
import Derived.Lib.AppendStr
import Derived.ArgAppend
import Derived.Laws.IdiomCopy
import Derived.OrdersHeld
import Derived.Laws.BitsLemmas
import Derived.RowKit
import Derived.LoopN
import Derived.Laws.EntriesVeiled
import Derived.LaidSub
import Derived.MakeChecks
import Derived.Lib.LaidTab
import Derived.Maps.OwnOps
import Derived.Maps.Views
import Derived.Maps.Keyed
import Derived.Shelf.SlicesQ.Load
import Derived.Laws.Tables
namespace Go.Proofs.YtblmgmhjlbkncaaDoor.PA
open Go.RowKit Go.Proofs.YtblmgmhjlbkncaaDoorW.PrintWords Go.Proofs.YtblmgmhjlbkncaaDoorW.PrintLast Go.Proofs.YtblmgmhjlbkncaaDoorW.PrintMore
attribute [local go_sem] max2_int min2_int max_two min_two max_three min_three max_four min_four
set_option linter.unusedVariables false
set_option linter.unusedSimpArgs false
def product_Check.l0 : Nat → List (S54) → List (S54) → Int → Int → Option (Int)
 | 0, _, _, _, _ => none
 | k + 1, x0, x11, x12, x13 => if x13 < x12 then (if 0 ≤ x13 then (if x13 < (x11.length : Int) then ((ident_IsName.f k ((rd_T54 x11 x13).f0)).bind fun t122 => (if t122 = true then (if x13 ≤ (x0.length : Int) then ((product_Find.f k (x0.take (x13 : Int).toNat) ((rd_T54 x11 x13).f0)).bind fun bt127 => (if bt127.2 = true then (some 7) else ((product_sized.f k ((rd_T54 x11 x13).f0) ((rd_T54 x11 x13).f1) ((rd_T54 x11 x13).f2) ((rd_T54 x11 x13).f3) ((rd_T54 x11 x13).f4) ((rd_T54 x11 x13).f5) ((rd_T54 x11 x13).f6)).bind fun t129 => (if t129 = true then ((product_checkLengths.f k ((rd_T54 x11 x13).f0) ((rd_T54 x11 x13).f1) ((rd_T54 x11 x13).f2) ((rd_T54 x11 x13).f3) ((rd_T54 x11 x13).f4) ((rd_T54 x11 x13).f5) ((rd_T54 x11 x13).f6)).bind fun t130 => (if t130 = 0 then (product_Check.l0 k x0 x11 x12 (wrap64 (x13 + 1))) else (some t130))) else (some 9))))) else (none)) else (some 6))) else (none)) else (none)) else (some 0)
def product_Check.f (k : Nat) (l0 : List (S54)) : Option (Int) := if (l0.length : Int) > 16 then (some 4) else (product_Check.l0 k l0 l0 (l0.length : Int) 0)
def product_Check.T8 : Bool × List (List Nat × List Nat) := (true, [([], []), ([], []), ([0, 1], [0, 1]), ([], []), ([3], [3]), ([2, 4], [2, 4]), ([5], [5]), ([6], [6]), ([6], [6]), ([7, 5, 0, 1, 2, 3, 4, 5, 6, 7], [7]), ([8, 9, 0, 1, 2, 3, 4, 5, 6, 7, 8, 9], [8])])
def product_Check.B8 : List Nat := [0, 0, 3, 0, 8, 31, 63, 127, 127, 255, 1023]
theorem product_Check.tab8 : rtab .any (opsOf Tryd.f27 8) = product_Check.T8 := by kernel_rfl
theorem product_Check.bits8 : waitsOk product_Check.T8.2 product_Check.B8 = true := by kernel_rfl
set_option maxHeartbeats 8000000 in
set_option maxRecDepth 100000 in
theorem product_Check.calls (k : Nat) (A0 : Option Addr) (c0 : Nat) (l0 : List (S54)) (r : Int) (w : World) (hr0 : Kd.C k54 w A0 l0.length l0) (hc0 : l0.length ≤ c0) (h : product_Check.f k l0 = some r) :
  Calls Tryd.prog 27 #[.slice A0 l0.length c0] w fun e w' => e = .returned (.int .i64 r) ∧ Below w.heap.size w w' := by
 have hu54 := Tryd.underlying54
 have HR0 := Aside0.mk hr0
 have HC0 := Aside0.mk hc0
 clear hr0 hc0
 have HB := q_ (Below.refl w.heap.size w)
 have H : (if (l0.length : Int) > 16 then (some 4) else (product_Check.l0 k l0 l0 (l0.length : Int) 0)) = some r := h
 clear h
 by_cases c2 : (l0.length : Int) > 16
 ·rw [if_pos c2] at H
  have c2b0 : decide (16 < (l0.length : Int)) = true := decide_eq_true c2
  have c2b1 : decide (16 < l0.length) = true := decide_eq_true (by omega)
  clear c2
  obtain rfl := Option.some.inj H
  go_enter Tryd.func27, Tryd.ntmps27
  go_wp2
  go_ret
  exact ⟨by first | rfl | (simp [*] <;> rfl), by repeat (first | (with_reducible first | exact HB.out | apply pA | apply pN | apply p1) | exact HB.out)⟩
 ·rw [if_neg c2] at H
  have c2b0 : decide (16 < (l0.length : Int)) = false := decide_eq_false c2
  have c2b1 : decide (16 < l0.length) = false := decide_eq_false (by omega)
  clear c2
  have H' := Aside0.mk H
  clear H
  go_enter Tryd.func27, Tryd.ntmps27
  go_wp2
  go_loopg [13] k (fun kq v13 w' => ∃ (x13_1 : Int), v13 = .int .i64 x13_1 ∧ Aside0 (product_Check.l0 kq l0 l0 (l0.length : Int) x13_1 = some r) ∧ Aside0 (kq ≤ k) ∧ Aside0 (Below w.heap.size w w'))
  case atStart => exact ⟨(0), (by first | rfl | (simp; done) | (simp [*]; done)), H', ⟨Nat.le_refl _⟩, ⟨by repeat (first | (with_reducible first | exact HB.out | apply pA | apply pN | apply p1) | exact HB.out)⟩⟩
  case round =>
   clear H'
   try clear c2
   try clear c2b0
   try clear c2b1
   try clear p2
   obtain ⟨x13_1, rfl, HA, HK1, HB⟩ := hrel
   cases gk with
   | zero => exact absurd HA.out (by simp [product_Check.l0])
   | succ k1 =>
    have H := HA.out
    clear HA
    simp only [product_Check.l0] at H
    by_cases c3 : x13_1 < (l0.length : Int)
    ·rw [if_pos c3] at H
     have c3b0 : decide (x13_1 < (l0.length : Int)) = true := decide_eq_true c3
     clear c3
     by_cases c4 : 0 ≤ x13_1
     ·rw [if_pos c4] at H
      have c4b0 : decide (0 ≤ x13_1) = true := decide_eq_true c4
      clear c4
      by_cases c5 : x13_1 < (l0.length : Int)
      ·rw [if_pos c5] at H
       have c5b0 : decide (x13_1 < (l0.length : Int)) = true := decide_eq_true c5
       clear c5
       replace H := oB H
       obtain ⟨t122, A60, H⟩ := H
       replace H : (if t122 = true then (if x13_1 ≤ (l0.length : Int) then ((product_Find.f k1 (l0.take (x13_1 : Int).toNat) ((rd_T54 l0 x13_1).f0)).bind fun bt127 => (if bt127.2 = true then (some 7) else ((product_sized.f k1 ((rd_T54 l0 x13_1).f0) ((rd_T54 l0 x13_1).f1) ((rd_T54 l0 x13_1).f2) ((rd_T54 l0 x13_1).f3) ((rd_T54 l0 x13_1).f4) ((rd_T54 l0 x13_1).f5) ((rd_T54 l0 x13_1).f6)).bind fun t129 => (if t129 = true then ((product_checkLengths.f k1 ((rd_T54 l0 x13_1).f0) ((rd_T54 l0 x13_1).f1) ((rd_T54 l0 x13_1).f2) ((rd_T54 l0 x13_1).f3) ((rd_T54 l0 x13_1).f4) ((rd_T54 l0 x13_1).f5) ((rd_T54 l0 x13_1).f6)).bind fun t130 => (if t130 = 0 then (product_Check.l0 k1 l0 l0 (l0.length : Int) (wrap64 (x13_1 + 1))) else (some t130))) else (some 9))))) else (none)) else (some 6)) = some r := H
       have A6 := Aside0.mk A60
       clear A60
       by_cases c7 : t122 = true
       ·subst c7
        have H1 : (if x13_1 ≤ (l0.length : Int) then ((product_Find.f k1 (l0.take (x13_1 : Int).toNat) ((rd_T54 l0 x13_1).f0)).bind fun bt127 => (if bt127.2 = true then (some 7) else ((product_sized.f k1 ((rd_T54 l0 x13_1).f0) ((rd_T54 l0 x13_1).f1) ((rd_T54 l0 x13_1).f2) ((rd_T54 l0 x13_1).f3) ((rd_T54 l0 x13_1).f4) ((rd_T54 l0 x13_1).f5) ((rd_T54 l0 x13_1).f6)).bind fun t129 => (if t129 = true then ((product_checkLengths.f k1 ((rd_T54 l0 x13_1).f0) ((rd_T54 l0 x13_1).f1) ((rd_T54 l0 x13_1).f2) ((rd_T54 l0 x13_1).f3) ((rd_T54 l0 x13_1).f4) ((rd_T54 l0 x13_1).f5) ((rd_T54 l0 x13_1).f6)).bind fun t130 => (if t130 = 0 then (product_Check.l0 k1 l0 l0 (l0.length : Int) (wrap64 (x13_1 + 1))) else (some t130))) else (some 9))))) else (none)) = some r := by rw [if_pos rfl] at H; exact H
        clear H
        have H := H1
        clear H1
        have c8b0 := eq_true (of_decide_eq_true (by first | (with_reducible assumption) | assumption) : 0 ≤ x13_1)
        by_cases c9 : x13_1 ≤ (l0.length : Int)
        ·rw [if_pos c9] at H
         have c9b0 := eq_true c9
         have c9b1 : decide (x13_1 ≤ (l0.length : Int)) = true := decide_eq_true c9
         clear c9
         obtain ⟨y123, hy123⟩ : ∃ y_ : List (S54), y_ = (l0.take (x13_1 : Int).toNat) := ⟨_, rfl⟩
         replace H : ((product_Find.f k1 y123 ((rd_T54 l0 x13_1).f0)).bind fun bt127 => (if bt127.2 = true then (some 7) else ((product_sized.f k1 ((rd_T54 l0 x13_1).f0) ((rd_T54 l0 x13_1).f1) ((rd_T54 l0 x13_1).f2) ((rd_T54 l0 x13_1).f3) ((rd_T54 l0 x13_1).f4) ((rd_T54 l0 x13_1).f5) ((rd_T54 l0 x13_1).f6)).bind fun t129 => (if t129 = true then ((product_checkLengths.f k1 ((rd_T54 l0 x13_1).f0) ((rd_T54 l0 x13_1).f1) ((rd_T54 l0 x13_1).f2) ((rd_T54 l0 x13_1).f3) ((rd_T54 l0 x13_1).f4) ((rd_T54 l0 x13_1).f5) ((rd_T54 l0 x13_1).f6)).bind fun t130 => (if t130 = 0 then (product_Check.l0 k1 l0 l0 (l0.length : Int) (wrap64 (x13_1 + 1))) else (some t130))) else (some 9))))) = some r := by first | (rw [hy123]; with_reducible exact H) | (have H2_ := (Option.bind_some _ _).symm.trans H; rw [hy123]; with_reducible exact H2_) | (have H2_ := (Option.bind_some _ _).symm.trans H; with_reducible exact H2_) | with_reducible exact H | (rw [hy123]; exact H) | exact H
         have Ny123 := Aside0.mk hy123
         clear hy123
         replace H := oB H
         obtain ⟨⟨t127, t128⟩, A100, H⟩ := H
         replace H : (if t128 = true then (some 7) else ((product_sized.f k1 ((rd_T54 l0 x13_1).f0) ((rd_T54 l0 x13_1).f1) ((rd_T54 l0 x13_1).f2) ((rd_T54 l0 x13_1).f3) ((rd_T54 l0 x13_1).f4) ((rd_T54 l0 x13_1).f5) ((rd_T54 l0 x13_1).f6)).bind fun t129 => (if t129 = true then ((product_checkLengths.f k1 ((rd_T54 l0 x13_1).f0) ((rd_T54 l0 x13_1).f1) ((rd_T54 l0 x13_1).f2) ((rd_T54 l0 x13_1).f3) ((rd_T54 l0 x13_1).f4) ((rd_T54 l0 x13_1).f5) ((rd_T54 l0 x13_1).f6)).bind fun t130 => (if t130 = 0 then (product_Check.l0 k1 l0 l0 (l0.length : Int) (wrap64 (x13_1 + 1))) else (some t130))) else (some 9)))) = some r := H
         have A10 := Aside0.mk A100
         clear A100
         by_cases c11 : t128 = true
         ·subst c11
          have H1 : (some 7) = some r := by rw [if_pos rfl] at H; exact H
          clear H
          have H := H1
          clear H1
          obtain rfl := Option.some.inj H
          have p120 : 0 ≤ (x13_1 : Int) := of_decide_eq_true (by first | (with_reducible assumption) | assumption)
          have q120 : x13_1 < (l0.length : Int) := of_decide_eq_true (by first | (with_reducible assumption) | assumption)
          obtain ⟨ad120, A120_5, c120_5, A120_6, c120_6, e120, hx120_0, hx120_1, hx120_2, hx120_3, hx120_4, hx120_5, hx120_6, hl120_5, hi120_5, hl120_6, hi120_6⟩ := at_T54 HR0.out x13_1 p120 q120
          cases e120
          replace hx120_0 := (HB.out.cell (World.block_lt_of_cell? w _ hx120_0)).trans hx120_0
          replace hx120_1 := (HB.out.cell (World.block_lt_of_cell? w _ hx120_1)).trans hx120_1
          replace hx120_2 := (HB.out.cell (World.block_lt_of_cell? w _ hx120_2)).trans hx120_2
          replace hx120_3 := (HB.out.cell (World.block_lt_of_cell? w _ hx120_3)).trans hx120_3
          replace hx120_4 := (HB.out.cell (World.block_lt_of_cell? w _ hx120_4)).trans hx120_4
          replace hx120_5 := (HB.out.cell (World.block_lt_of_cell? w _ hx120_5)).trans hx120_5
          replace hx120_6 := (HB.out.cell (World.block_lt_of_cell? w _ hx120_6)).trans hx120_6
          have HR120_5 := Aside0.mk hi120_5
          have HC120_5 := Aside0.mk hl120_5
          clear hi120_5 hl120_5
          have HR120_6 := Aside0.mk hi120_6
          have HC120_6 := Aside0.mk hl120_6
          clear hi120_6 hl120_6
          replace p120 := eq_true p120
          replace q120 := eq_true q120
          try go_wp2_with (first | ((with_reducible refine gate_dst (N := 4) rfl ?_); refine box_event ?hg (N := 4) ?hd (cs := #[.string (⟨#[]⟩ : ByteArray), .int .i64 0, .int .i64 0, .int .i64 0, .int .i64 0, .slice none 0 0, .slice none 0 0]) (t := 54) ?hr ?_; (case hd => rfl); (case hg => rfl); (case hr => first | (go_simp; done) | (go_simp; rfl)); intro gb121 hg w12 hbox hb; have n0_ := q_ (pT (by repeat (first | (with_reducible first | exact HB.out | apply pA | apply pN | apply p1) | exact HB.out)) hb); have n1_ := q_ (hbox); have n2_ := q_ ((by rw [hg]; exact (pZ (by repeat (first | (with_reducible first | exact HB.out | apply pA | apply pN | apply p1) | exact HB.out))) : w.heap.size ≤ gb121)); have n3_ := n2_; clear HB; have HB := n0_; have BK121 := n1_; have GW121 := n2_; have GE121 := n3_; clear n0_ n1_ n2_ n3_; clear hb hbox hg; have hcz13 := blk_all BK121.out; simp only [CellsAt, List.toList_toArray, Nat.reduceAdd, and_true] at hcz13; have hfz13 := bF BK121.out) | ((with_reducible refine gate_callee (f := 29) rfl ?_); refine goesL_ (some 20) rfl rfl Tryd.func29 (by kernel_rfl) rfl #[.string ((rd_T54 l0 x13_1).f0)] rfl (by first | rfl | (simp only [List.map_toArray]; rfl)) ?_; (with_reducible refine (ident_IsName.calls k1 ((rd_T54 l0 x13_1).f0) true _ A6.out).mono ?_); rintro e w' ⟨rfl, ⟨nd, rfl⟩⟩; refine ⟨_, rfl, ?_⟩))
          have n0_ : Aside0 ((((((((w12.setCell ⟨gb121, 0, none⟩ (.string ((rd_T54 l0 x13_1).f0))).setCell ⟨gb121, 1, none⟩ (.int .i64 ((rd_T54 l0 x13_1).f1))).setCell ⟨gb121, 2, none⟩ (.int .i64 ((rd_T54 l0 x13_1).f2))).setCell ⟨gb121, 3, none⟩ (.int .i64 ((rd_T54 l0 x13_1).f3))).setCell ⟨gb121, 4, none⟩ (.int .i64 ((rd_T54 l0 x13_1).f4))).setCell ⟨gb121, 5, none⟩ (.slice A120_5 ((rd_T54 l0 x13_1).f5).length c120_5)).setCell ⟨gb121, 6, none⟩ (.slice A120_6 ((rd_T54 l0 x13_1).f6).length c120_6)).heap[gb121]? = some (.cells #[.string ((rd_T54 l0 x13_1).f0), .int .i64 ((rd_T54 l0 x13_1).f1), .int .i64 ((rd_T54 l0 x13_1).f2), .int .i64 ((rd_T54 l0 x13_1).f3), .int .i64 ((rd_T54 l0 x13_1).f4), .slice A120_5 ((rd_T54 l0 x13_1).f5).length c120_5, .slice A120_6 ((rd_T54 l0 x13_1).f6).length c120_6] 54 (0, 0))) := ⟨by (with_reducible repeat (first | refine bN ?_ _ | refine bW ?_ | refine bA ?_ _)); refine blk_put (cs := #[.string ((rd_T54 l0 x13_1).f0), .int .i64 ((rd_T54 l0 x13_1).f1), .int .i64 ((rd_T54 l0 x13_1).f2), .int .i64 ((rd_T54 l0 x13_1).f3), .int .i64 ((rd_T54 l0 x13_1).f4), .slice A120_5 ((rd_T54 l0 x13_1).f5).length c120_5, .slice none 0 0]) ?_ 6 _ rfl; (with_reducible repeat (first | refine bN ?_ _ | refine bW ?_ | refine bA ?_ _)); refine blk_put (cs := #[.string ((rd_T54 l0 x13_1).f0), .int .i64 ((rd_T54 l0 x13_1).f1), .int .i64 ((rd_T54 l0 x13_1).f2), .int .i64 ((rd_T54 l0 x13_1).f3), .int .i64 ((rd_T54 l0 x13_1).f4), .slice none 0 0, .slice none 0 0]) ?_ 5 _ rfl; (with_reducible repeat (first | refine bN ?_ _ | refine bW ?_ | refine bA ?_ _)); refine blk_put (cs := #[.string ((rd_T54 l0 x13_1).f0), .int .i64 ((rd_T54 l0 x13_1).f1), .int .i64 ((rd_T54 l0 x13_1).f2), .int .i64 ((rd_T54 l0 x13_1).f3), .int .i64 0, .slice none 0 0, .slice none 0 0]) ?_ 4 _ rfl; (with_reducible repeat (first | refine bN ?_ _ | refine bW ?_ | refine bA ?_ _)); refine blk_put (cs := #[.string ((rd_T54 l0 x13_1).f0), .int .i64 ((rd_T54 l0 x13_1).f1), .int .i64 ((rd_T54 l0 x13_1).f2), .int .i64 0, .int .i64 0, .slice none 0 0, .slice none 0 0]) ?_ 3 _ rfl; (with_reducible repeat (first | refine bN ?_ _ | refine bW ?_ | refine bA ?_ _)); refine blk_put (cs := #[.string ((rd_T54 l0 x13_1).f0), .int .i64 ((rd_T54 l0 x13_1).f1), .int .i64 0, .int .i64 0, .int .i64 0, .slice none 0 0, .slice none 0 0]) ?_ 2 _ rfl; (with_reducible repeat (first | refine bN ?_ _ | refine bW ?_ | refine bA ?_ _)); refine blk_put (cs := #[.string ((rd_T54 l0 x13_1).f0), .int .i64 0, .int .i64 0, .int .i64 0, .int .i64 0, .slice none 0 0, .slice none 0 0]) ?_ 1 _ rfl; (with_reducible repeat (first | refine bN ?_ _ | refine bW ?_ | refine bA ?_ _)); refine blk_put (cs := #[.string (⟨#[]⟩ : ByteArray), .int .i64 0, .int .i64 0, .int .i64 0, .int .i64 0, .slice none 0 0, .slice none 0 0]) ?_ 0 _ rfl; (with_reducible repeat (first | refine bN ?_ _ | refine bW ?_ | refine bA ?_ _)); exact BK121.out⟩
          have n1_ : Aside0 (Below w.heap.size w (((((((w12.setCell ⟨gb121, 0, none⟩ (.string ((rd_T54 l0 x13_1).f0))).setCell ⟨gb121, 1, none⟩ (.int .i64 ((rd_T54 l0 x13_1).f1))).setCell ⟨gb121, 2, none⟩ (.int .i64 ((rd_T54 l0 x13_1).f2))).setCell ⟨gb121, 3, none⟩ (.int .i64 ((rd_T54 l0 x13_1).f3))).setCell ⟨gb121, 4, none⟩ (.int .i64 ((rd_T54 l0 x13_1).f4))).setCell ⟨gb121, 5, none⟩ (.slice A120_5 ((rd_T54 l0 x13_1).f5).length c120_5)).setCell ⟨gb121, 6, none⟩ (.slice A120_6 ((rd_T54 l0 x13_1).f6).length c120_6))) := ⟨by repeat (first | (with_reducible first | exact HB.out | apply pA | apply pN | apply p1 | refine pS ?_ GE121.out) | exact HB.out)⟩
          (try clear BK121)
          (try clear HB)
          generalize (((((((w12.setCell ⟨gb121, 0, none⟩ (.string ((rd_T54 l0 x13_1).f0))).setCell ⟨gb121, 1, none⟩ (.int .i64 ((rd_T54 l0 x13_1).f1))).setCell ⟨gb121, 2, none⟩ (.int .i64 ((rd_T54 l0 x13_1).f2))).setCell ⟨gb121, 3, none⟩ (.int .i64 ((rd_T54 l0 x13_1).f3))).setCell ⟨gb121, 4, none⟩ (.int .i64 ((rd_T54 l0 x13_1).f4))).setCell ⟨gb121, 5, none⟩ (.slice A120_5 ((rd_T54 l0 x13_1).f5).length c120_5)).setCell ⟨gb121, 6, none⟩ (.slice A120_6 ((rd_T54 l0 x13_1).f6).length c120_6)) = w14 at n0_ n1_ ⊢
          have BK121 := n0_
          have HB := n1_
          clear n0_ n1_
          (try (rw [drewN_self w14]; generalize hq_ : World.drewN w14 _ = w14; have n0_ : Aside0 (w14.heap[gb121]? = some (.cells #[.string ((rd_T54 l0 x13_1).f0), .int .i64 ((rd_T54 l0 x13_1).f1), .int .i64 ((rd_T54 l0 x13_1).f2), .int .i64 ((rd_T54 l0 x13_1).f3), .int .i64 ((rd_T54 l0 x13_1).f4), .slice A120_5 ((rd_T54 l0 x13_1).f5).length c120_5, .slice A120_6 ((rd_T54 l0 x13_1).f6).length c120_6] 54 (0, 0))) := ⟨by rw [← hq_]; exact (by (with_reducible repeat (first | refine bN ?_ _ | refine bW ?_ | refine bA ?_ _)); exact BK121.out)⟩; have n1_ : Aside0 (Below w.heap.size w w14) := ⟨by rw [← hq_]; exact (by repeat (first | (with_reducible first | exact HB.out | apply pA | apply pN | apply p1 | refine pS ?_ GE121.out) | exact HB.out))⟩; clear BK121 HB hq_; have BK121 := n0_; have HB := n1_; clear n0_ n1_))
          have n0_ := q_ (bW BK121.out)
          have n1_ := q_ (p1 HB.out)
          clear BK121
          clear HB
          have BK121 := n0_
          have HB := n1_
          clear n0_ n1_
          have q16 : (x13_1 : Int) ≤ ((l0.length : Int) : Int) := of_decide_eq_true (by first | (with_reducible assumption) | assumption)
          obtain ⟨i016, hi016, _, hsz16, _⟩ := info_parts info54
          have hroom16 : l0.length ≤ c0 := HC0.out
          have hC16 : Kd.C k54 _ (some ad120) l0.length l0 := HR0.out
          have hcut16 := cut_to (P := Tryd.prog) 24 54 .i64 Tryd.underlying24 hi016 (some ad120) l0.length c0 x13_1 (of_decide_eq_true (by first | (with_reducible assumption) | assumption)) q16 hroom16
          have hr16 := Kd.C_take (m := (x13_1 : Int).toNat) hC16 (by omega)
          have hy16 : y123.length = (x13_1 : Int).toNat := (by rw [Ny123.out, List.length_take]; omega)
          rw [← Ny123.out] at hr16
          rw [← hy16] at hcut16
          have HR126 := Aside0.mk hr16
          have HC126 := q_ (show y123.length ≤ c0 from by omega)
          clear hr16 hC16 hroom16 hi016 hsz16
          have KY16 := Aside0.mk hy16
          clear hy16
          replace q16 := eq_true q16
          refine start_ (n := 11) (S := fun w' => w'.cell? ⟨gb121, 0, none⟩ = some (.string ((rd_T54 l0 x13_1).f0)) ∧ w'.cell? ⟨gb121, 1, none⟩ = some (.int .i64 ((rd_T54 l0 x13_1).f1)) ∧ w'.cell? ⟨gb121, 2, none⟩ = some (.int .i64 ((rd_T54 l0 x13_1).f2)) ∧ w'.cell? ⟨gb121, 3, none⟩ = some (.int .i64 ((rd_T54 l0 x13_1).f3)) ∧ w'.cell? ⟨gb121, 4, none⟩ = some (.int .i64 ((rd_T54 l0 x13_1).f4)) ∧ w'.cell? ⟨gb121, 5, none⟩ = some (.slice A120_5 ((rd_T54 l0 x13_1).f5).length c120_5) ∧ w'.cell? ⟨gb121, 6, none⟩ = some (.slice A120_6 ((rd_T54 l0 x13_1).f6).length c120_6)) (ds := []) #[false, false, false, false, false, false, false, false, false, false, false] (by kernel_rfl) rfl rfl ⟨(bC BK121.out 0).trans rfl, (bC BK121.out 1).trans rfl, (bC BK121.out 2).trans rfl, (bC BK121.out 3).trans rfl, (bC BK121.out 4).trans rfl, (bC BK121.out 5).trans rfl, (bC BK121.out 6).trans rfl⟩ (fun hHeld => ?_); refine with_tabW product_Check.tab8 product_Check.bits8 (fun HT_ HW_ => ?_)
          generalize w14.drew = w15 at BK121 HB HR126 hHeld ⊢
          refine pure_ (i := 0) (N := some 23) (v := ?_) (a' := ?_) #[true, false, false, false, false, false, false, false, false, false, false] rfl rfl (any_of HT_.out (by kernel_rfl)) (fun _ _ _ h => h) (Or.inl ⟨by rfl, ?_⟩) ?_ ?_
          rotate_left
          ·intro w'
           go_simp
           with_reducible rfl
          rotate_left
          ·simp only [Act.put, List.setIfInBounds_toArray, List.set_cons_zero, List.set_cons_succ, i64_w, i32_w]
           rfl
          refine pure_ (i := 1) (N := some 24) (v := ?_) (a' := ?_) #[true, true, false, false, false, false, false, false, false, false, false] rfl rfl (any_of HT_.out (by kernel_rfl)) (fun _ _ _ h => h) (Or.inl ⟨by rfl, ?_⟩) ?_ ?_
          rotate_left
          ·intro w'
           go_simp
           with_reducible rfl
          rotate_left
          ·simp only [Act.put, List.setIfInBounds_toArray, List.set_cons_zero, List.set_cons_succ, i64_w, i32_w]
           rfl
          refine pure_ (i := 2) (N := some 25) (v := ?_) (a' := ?_) #[true, true, true, false, false, false, false, false, false, false, false] rfl rfl (any_of HT_.out (by kernel_rfl)) (fun _ _ _ h => h) (Or.inl ⟨by rfl, ?_⟩) ?_ ?_
          rotate_left
          ·intro w'
           go_simp
           with_reducible rfl
          rotate_left
          ·simp only [Act.put, List.setIfInBounds_toArray, List.set_cons_zero, List.set_cons_succ, i64_w, i32_w]
           rfl
          refine pure_ (i := 3) (N := some 26) (v := ?_) (a' := ?_) #[true, true, true, true, false, false, false, false, false, false, false] rfl rfl (any_of HT_.out (by kernel_rfl)) (fun _ _ _ h => h) (Or.inl ⟨by rfl, ?_⟩) ?_ ?_
          rotate_left
          ·intro w'
           go_simp
           with_reducible rfl
          rotate_left
          ·simp only [Act.put, List.setIfInBounds_toArray, List.set_cons_zero, List.set_cons_succ, i64_w, i32_w]
           rfl
          refine take_ (i := 4) (N := some 27) (v := ?_) (a' := ?_) #[true, true, true, true, true, false, false, false, false, false, false] rfl rfl (take_ofW HT_.out HW_.out (by kernel_rfl)) (fun _ _ _ h => h) (Or.inl ⟨by rfl, ?_⟩) hHeld ?_ ?_
          rotate_left
          ·rintro w' ⟨s0, s1, s2, s3, s4, s5, s6⟩
           go_simp
           with_reducible rfl
          rotate_left
          ·simp only [Act.put, List.setIfInBounds_toArray, List.set_cons_zero, List.set_cons_succ, i64_w, i32_w]
           rfl
          refine one_ (i := 5) (N := some 28) #[true, true, true, true, true, true, false, false, false, false, false] rfl rfl (one_of HT_.out (by kernel_rfl)) (by decide) (fun K hK => ?_)
          refine goes_ Tryd.func59 (by kernel_rfl) rfl #[.slice (some ad120) y123.length c0, .string ((rd_T54 l0 x13_1).f0)] (by rfl) rfl rfl (by first | rfl | (simp only [List.map_toArray]; rfl)) ?_
          with_reducible refine (product_Find.calls k1 _ _ y123 ((rd_T54 l0 x13_1).f0) t127 true _ ?side1 ?side2 A10.out).mono ?_
          (case side1 => repeat (first | exact (Kd.C_below HR126.out HB.out) | (with_reducible refine Kd.C_alloc ?_ _) | (with_reducible refine Kd.C_drewN ?_ _) | (with_reducible refine Kd.C_drew ?_)))
          (case side2 => exact HC126.out)
          rintro e w17 ⟨rfl, hb⟩
          refine ⟨_, rfl, ?_⟩
          have n0_ := q_ (bB (g := gb121) (by (with_reducible repeat (first | refine bN ?_ _ | refine bW ?_ | refine bA ?_ _)); exact BK121.out) hb)
          have n1_ := q_ (pT (by repeat (first | (with_reducible first | exact HB.out | apply pA | apply pN | apply p1 | refine pS ?_ GE121.out) | exact HB.out)) hb)
          clear BK121
          clear HB
          have BK121 := n0_
          have HB := n1_
          clear n0_ n1_
          (try clear hb)
          (try clear hb2)
          (try clear hk)
          (try clear hi)
          refine hK.out _ _ ⟨(bC BK121.out 0).trans rfl, (bC BK121.out 1).trans rfl, (bC BK121.out 2).trans rfl, (bC BK121.out 3).trans rfl, (bC BK121.out 4).trans rfl, (bC BK121.out 5).trans rfl, (bC BK121.out 6).trans rfl⟩ (fun hHeld => ?_)
          clear hK K
          refine norm_ (a' := ?_) ?_ ?_
          rotate_left
          ·show Act.put _ (some 28) _ = _
           simp only [Act.put, List.setIfInBounds_toArray, List.set_cons_zero, List.set_cons_succ, i64_w, i32_w]
           rfl
          refine pure_ (i := 6) (N := some 22) (v := ?_) (a' := ?_) #[true, true, true, true, true, true, true, false, false, false, false] rfl rfl (any_of HT_.out (by kernel_rfl)) (fun _ _ _ h => h) (Or.inl ⟨by rfl, ?_⟩) ?_ ?_
          rotate_left
          ·intro w'
           go_simp
           with_reducible rfl
          rotate_left
          ·simp only [Act.put, List.setIfInBounds_toArray, List.set_cons_zero, List.set_cons_succ, i64_w, i32_w]
           rfl
          refine pure_ (i := 7) (N := some 29) (v := ?_) (a' := ?_) #[true, true, true, true, true, true, true, true, false, false, false] rfl rfl (any_of HT_.out (by kernel_rfl)) (fun _ _ _ h => h) (Or.inl ⟨by rfl, ?_⟩) ?_ ?_
          rotate_left
          ·intro w'
           go_simp
           with_reducible rfl
          rotate_left
          ·simp only [Act.put, List.setIfInBounds_toArray, List.set_cons_zero, List.set_cons_succ, i64_w, i32_w]
           rfl
          refine pure_ (i := 8) (N := some 30) (v := ?_) (a' := ?_) #[true, true, true, true, true, true, true, true, true, false, false] rfl rfl (any_of HT_.out (by kernel_rfl)) (fun _ _ _ h => h) (Or.inl ⟨by rfl, ?_⟩) ?_ ?_
          rotate_left
          ·intro w'
           go_simp
           with_reducible rfl
          rotate_left
          ·simp only [Act.put, List.setIfInBounds_toArray, List.set_cons_zero, List.set_cons_succ, i64_w, i32_w]
           rfl
          refine pure_ (i := 9) (N := some 5) (v := ?_) (a' := ?_) #[true, true, true, true, true, true, true, true, true, true, false] rfl rfl (any_of HT_.out (by kernel_rfl)) (fun _ _ _ h => h) (Or.inl ⟨by rfl, ?_⟩) ?_ ?_
          rotate_left
          ·intro w'
           go_simp
           with_reducible rfl
          rotate_left
          ·simp only [Act.put, List.setIfInBounds_toArray, List.set_cons_zero, List.set_cons_succ, i64_w, i32_w]
           rfl
          refine pure_ (i := 10) (N := some 6) (v := ?_) (a' := ?_) #[true, true, true, true, true, true, true, true, true, true, true] rfl rfl (any_of HT_.out (by kernel_rfl)) (fun _ _ _ h => h) (Or.inl ⟨by rfl, ?_⟩) ?_ ?_
          rotate_left
          ·intro w'
           go_simp
           with_reducible rfl
          rotate_left
          ·simp only [Act.put, List.setIfInBounds_toArray, List.set_cons_zero, List.set_cons_succ, i64_w, i32_w]
           rfl
          refine done_ (done_of HT_.out (by kernel_rfl)) ?_
          try go_wp2
          go_ret
          exact ⟨by first | rfl | (simp [*] <;> rfl), by repeat (first | (with_reducible first | exact HB.out | apply pA | apply pN | apply p1 | refine pS ?_ GE121.out) | exact HB.out)⟩
         ·replace c11 := Bool.eq_false_iff.mpr c11
          subst c11
          have H1 : ((product_sized.f k1 ((rd_T54 l0 x13_1).f0) ((rd_T54 l0 x13_1).f1) ((rd_T54 l0 x13_1).f2) ((rd_T54 l0 x13_1).f3) ((rd_T54 l0 x13_1).f4) ((rd_T54 l0 x13_1).f5) ((rd_T54 l0 x13_1).f6)).bind fun t129 => (if t129 = true then ((product_checkLengths.f k1 ((rd_T54 l0 x13_1).f0) ((rd_T54 l0 x13_1).f1) ((rd_T54 l0 x13_1).f2) ((rd_T54 l0 x13_1).f3) ((rd_T54 l0 x13_1).f4) ((rd_T54 l0 x13_1).f5) ((rd_T54 l0 x13_1).f6)).bind fun t130 => (if t130 = 0 then (product_Check.l0 k1 l0 l0 (l0.length : Int) (wrap64 (x13_1 + 1))) else (some t130))) else (some 9))) = some r := by rw [if_neg (show ¬ (false = true) by decide)] at H; exact H
          clear H
          have H := H1
          clear H1
          replace H := oB H
          obtain ⟨t129, A180, H⟩ := H
          replace H : (if t129 = true then ((product_checkLengths.f k1 ((rd_T54 l0 x13_1).f0) ((rd_T54 l0 x13_1).f1) ((rd_T54 l0 x13_1).f2) ((rd_T54 l0 x13_1).f3) ((rd_T54 l0 x13_1).f4) ((rd_T54 l0 x13_1).f5) ((rd_T54 l0 x13_1).f6)).bind fun t130 => (if t130 = 0 then (product_Check.l0 k1 l0 l0 (l0.length : Int) (wrap64 (x13_1 + 1))) else (some t130))) else (some 9)) = some r := H
          have A18 := Aside0.mk A180
          clear A180
          by_cases c19 : t129 = true
          ·subst c19
           have H1 : ((product_checkLengths.f k1 ((rd_T54 l0 x13_1).f0) ((rd_T54 l0 x13_1).f1) ((rd_T54 l0 x13_1).f2) ((rd_T54 l0 x13_1).f3) ((rd_T54 l0 x13_1).f4) ((rd_T54 l0 x13_1).f5) ((rd_T54 l0 x13_1).f6)).bind fun t130 => (if t130 = 0 then (product_Check.l0 k1 l0 l0 (l0.length : Int) (wrap64 (x13_1 + 1))) else (some t130))) = some r := by rw [if_pos rfl] at H; exact H
           clear H
           have H := H1
           clear H1
           replace H := oB H
           obtain ⟨t130, A200, H⟩ := H
           replace H : (if t130 = 0 then (product_Check.l0 k1 l0 l0 (l0.length : Int) (wrap64 (x13_1 + 1))) else (some t130)) = some r := H
           have A20 := Aside0.mk A200
           clear A200
           by_cases c21 : t130 = 0
           ·rw [if_pos c21] at H
            have c21b0 : (t130 == 0) = true := beq_iff_eq.mpr c21
            have c21b1 : (t130 != 0) = false := oD c21
            clear c21
            have H' := Aside0.mk H
            clear H
            have p120 : 0 ≤ (x13_1 : Int) := of_decide_eq_true (by first | (with_reducible assumption) | assumption)
            have q120 : x13_1 < (l0.length : Int) := of_decide_eq_true (by first | (with_reducible assumption) | assumption)
            obtain ⟨ad120, A120_5, c120_5, A120_6, c120_6, e120, hx120_0, hx120_1, hx120_2, hx120_3, hx120_4, hx120_5, hx120_6, hl120_5, hi120_5, hl120_6, hi120_6⟩ := at_T54 HR0.out x13_1 p120 q120
            cases e120
            replace hx120_0 := (HB.out.cell (World.block_lt_of_cell? w _ hx120_0)).trans hx120_0
            replace hx120_1 := (HB.out.cell (World.block_lt_of_cell? w _ hx120_1)).trans hx120_1
            replace hx120_2 := (HB.out.cell (World.block_lt_of_cell? w _ hx120_2)).trans hx120_2
            replace hx120_3 := (HB.out.cell (World.block_lt_of_cell? w _ hx120_3)).trans hx120_3
            replace hx120_4 := (HB.out.cell (World.block_lt_of_cell? w _ hx120_4)).trans hx120_4
            replace hx120_5 := (HB.out.cell (World.block_lt_of_cell? w _ hx120_5)).trans hx120_5
            replace hx120_6 := (HB.out.cell (World.block_lt_of_cell? w _ hx120_6)).trans hx120_6
            have HR120_5 := Aside0.mk hi120_5
            have HC120_5 := Aside0.mk hl120_5
            clear hi120_5 hl120_5
            have HR120_6 := Aside0.mk hi120_6
            have HC120_6 := Aside0.mk hl120_6
            clear hi120_6 hl120_6
            replace p120 := eq_true p120
            replace q120 := eq_true q120
            try go_wp2_with (first | ((with_reducible refine gate_dst (N := 4) rfl ?_); refine box_event ?hg (N := 4) ?hd (cs := #[.string (⟨#[]⟩ : ByteArray), .int .i64 0, .int .i64 0, .int .i64 0, .int .i64 0, .slice none 0 0, .slice none 0 0]) (t := 54) ?hr ?_; (case hd => rfl); (case hg => rfl); (case hr => first | (go_simp; done) | (go_simp; rfl)); intro gb121 hg w22 hbox hb; have n0_ := q_ (pT (by repeat (first | (with_reducible first | exact HB.out | apply pA | apply pN | apply p1) | exact HB.out)) hb); have n1_ := q_ (hbox); have n2_ := q_ ((by rw [hg]; exact (pZ (by repeat (first | (with_reducible first | exact HB.out | apply pA | apply pN | apply p1) | exact HB.out))) : w.heap.size ≤ gb121)); have n3_ := n2_; clear HB; have HB := n0_; have BK121 := n1_; have GW121 := n2_; have GE121 := n3_; clear n0_ n1_ n2_ n3_; clear hb hbox hg; have hcz23 := blk_all BK121.out; simp only [CellsAt, List.toList_toArray, Nat.reduceAdd, and_true] at hcz23; have hfz23 := bF BK121.out) | ((with_reducible refine gate_callee (f := 29) rfl ?_); refine goesL_ (some 20) rfl rfl Tryd.func29 (by kernel_rfl) rfl #[.string ((rd_T54 l0 x13_1).f0)] rfl (by first | rfl | (simp only [List.map_toArray]; rfl)) ?_; (with_reducible refine (ident_IsName.calls k1 ((rd_T54 l0 x13_1).f0) true _ A6.out).mono ?_); rintro e w' ⟨rfl, ⟨nd, rfl⟩⟩; refine ⟨_, rfl, ?_⟩))
            have n0_ : Aside0 ((((((((w22.setCell ⟨gb121, 0, none⟩ (.string ((rd_T54 l0 x13_1).f0))).setCell ⟨gb121, 1, none⟩ (.int .i64 ((rd_T54 l0 x13_1).f1))).setCell ⟨gb121, 2, none⟩ (.int .i64 ((rd_T54 l0 x13_1).f2))).setCell ⟨gb121, 3, none⟩ (.int .i64 ((rd_T54 l0 x13_1).f3))).setCell ⟨gb121, 4, none⟩ (.int .i64 ((rd_T54 l0 x13_1).f4))).setCell ⟨gb121, 5, none⟩ (.slice A120_5 ((rd_T54 l0 x13_1).f5).length c120_5)).setCell ⟨gb121, 6, none⟩ (.slice A120_6 ((rd_T54 l0 x13_1).f6).length c120_6)).heap[gb121]? = some (.cells #[.string ((rd_T54 l0 x13_1).f0), .int .i64 ((rd_T54 l0 x13_1).f1), .int .i64 ((rd_T54 l0 x13_1).f2), .int .i64 ((rd_T54 l0 x13_1).f3), .int .i64 ((rd_T54 l0 x13_1).f4), .slice A120_5 ((rd_T54 l0 x13_1).f5).length c120_5, .slice A120_6 ((rd_T54 l0 x13_1).f6).length c120_6] 54 (0, 0))) := ⟨by (with_reducible repeat (first | refine bN ?_ _ | refine bW ?_ | refine bA ?_ _)); refine blk_put (cs := #[.string ((rd_T54 l0 x13_1).f0), .int .i64 ((rd_T54 l0 x13_1).f1), .int .i64 ((rd_T54 l0 x13_1).f2), .int .i64 ((rd_T54 l0 x13_1).f3), .int .i64 ((rd_T54 l0 x13_1).f4), .slice A120_5 ((rd_T54 l0 x13_1).f5).length c120_5, .slice none 0 0]) ?_ 6 _ rfl; (with_reducible repeat (first | refine bN ?_ _ | refine bW ?_ | refine bA ?_ _)); refine blk_put (cs := #[.string ((rd_T54 l0 x13_1).f0), .int .i64 ((rd_T54 l0 x13_1).f1), .int .i64 ((rd_T54 l0 x13_1).f2), .int .i64 ((rd_T54 l0 x13_1).f3), .int .i64 ((rd_T54 l0 x13_1).f4), .slice none 0 0, .slice none 0 0]) ?_ 5 _ rfl; (with_reducible repeat (first | refine bN ?_ _ | refine bW ?_ | refine bA ?_ _)); refine blk_put (cs := #[.string ((rd_T54 l0 x13_1).f0), .int .i64 ((rd_T54 l0 x13_1).f1), .int .i64 ((rd_T54 l0 x13_1).f2), .int .i64 ((rd_T54 l0 x13_1).f3), .int .i64 0, .slice none 0 0, .slice none 0 0]) ?_ 4 _ rfl; (with_reducible repeat (first | refine bN ?_ _ | refine bW ?_ | refine bA ?_ _)); refine blk_put (cs := #[.string ((rd_T54 l0 x13_1).f0), .int .i64 ((rd_T54 l0 x13_1).f1), .int .i64 ((rd_T54 l0 x13_1).f2), .int .i64 0, .int .i64 0, .slice none 0 0, .slice none 0 0]) ?_ 3 _ rfl; (with_reducible repeat (first | refine bN ?_ _ | refine bW ?_ | refine bA ?_ _)); refine blk_put (cs := #[.string ((rd_T54 l0 x13_1).f0), .int .i64 ((rd_T54 l0 x13_1).f1), .int .i64 0, .int .i64 0, .int .i64 0, .slice none 0 0, .slice none 0 0]) ?_ 2 _ rfl; (with_reducible repeat (first | refine bN ?_ _ | refine bW ?_ | refine bA ?_ _)); refine blk_put (cs := #[.string ((rd_T54 l0 x13_1).f0), .int .i64 0, .int .i64 0, .int .i64 0, .int .i64 0, .slice none 0 0, .slice none 0 0]) ?_ 1 _ rfl; (with_reducible repeat (first | refine bN ?_ _ | refine bW ?_ | refine bA ?_ _)); refine blk_put (cs := #[.string (⟨#[]⟩ : ByteArray), .int .i64 0, .int .i64 0, .int .i64 0, .int .i64 0, .slice none 0 0, .slice none 0 0]) ?_ 0 _ rfl; (with_reducible repeat (first | refine bN ?_ _ | refine bW ?_ | refine bA ?_ _)); exact BK121.out⟩
            have n1_ : Aside0 (Below w.heap.size w (((((((w22.setCell ⟨gb121, 0, none⟩ (.string ((rd_T54 l0 x13_1).f0))).setCell ⟨gb121, 1, none⟩ (.int .i64 ((rd_T54 l0 x13_1).f1))).setCell ⟨gb121, 2, none⟩ (.int .i64 ((rd_T54 l0 x13_1).f2))).setCell ⟨gb121, 3, none⟩ (.int .i64 ((rd_T54 l0 x13_1).f3))).setCell ⟨gb121, 4, none⟩ (.int .i64 ((rd_T54 l0 x13_1).f4))).setCell ⟨gb121, 5, none⟩ (.slice A120_5 ((rd_T54 l0 x13_1).f5).length c120_5)).setCell ⟨gb121, 6, none⟩ (.slice A120_6 ((rd_T54 l0 x13_1).f6).length c120_6))) := ⟨by repeat (first | (with_reducible first | exact HB.out | apply pA | apply pN | apply p1 | refine pS ?_ GE121.out) | exact HB.out)⟩
            (try clear BK121)
            (try clear HB)
            generalize (((((((w22.setCell ⟨gb121, 0, none⟩ (.string ((rd_T54 l0 x13_1).f0))).setCell ⟨gb121, 1, none⟩ (.int .i64 ((rd_T54 l0 x13_1).f1))).setCell ⟨gb121, 2, none⟩ (.int .i64 ((rd_T54 l0 x13_1).f2))).setCell ⟨gb121, 3, none⟩ (.int .i64 ((rd_T54 l0 x13_1).f3))).setCell ⟨gb121, 4, none⟩ (.int .i64 ((rd_T54 l0 x13_1).f4))).setCell ⟨gb121, 5, none⟩ (.slice A120_5 ((rd_T54 l0 x13_1).f5).length c120_5)).setCell ⟨gb121, 6, none⟩ (.slice A120_6 ((rd_T54 l0 x13_1).f6).length c120_6)) = w24 at n0_ n1_ ⊢
            have BK121 := n0_
            have HB := n1_
            clear n0_ n1_
            (try (rw [drewN_self w24]; generalize hq_ : World.drewN w24 _ = w24; have n0_ : Aside0 (w24.heap[gb121]? = some (.cells #[.string ((rd_T54 l0 x13_1).f0), .int .i64 ((rd_T54 l0 x13_1).f1), .int .i64 ((rd_T54 l0 x13_1).f2), .int .i64 ((rd_T54 l0 x13_1).f3), .int .i64 ((rd_T54 l0 x13_1).f4), .slice A120_5 ((rd_T54 l0 x13_1).f5).length c120_5, .slice A120_6 ((rd_T54 l0 x13_1).f6).length c120_6] 54 (0, 0))) := ⟨by rw [← hq_]; exact (by (with_reducible repeat (first | refine bN ?_ _ | refine bW ?_ | refine bA ?_ _)); exact BK121.out)⟩; have n1_ : Aside0 (Below w.heap.size w w24) := ⟨by rw [← hq_]; exact (by repeat (first | (with_reducible first | exact HB.out | apply pA | apply pN | apply p1 | refine pS ?_ GE121.out) | exact HB.out))⟩; clear BK121 HB hq_; have BK121 := n0_; have HB := n1_; clear n0_ n1_))
            have n0_ := q_ (bW BK121.out)
            have n1_ := q_ (p1 HB.out)
            clear BK121
            clear HB
            have BK121 := n0_
            have HB := n1_
            clear n0_ n1_
            have q26 : (x13_1 : Int) ≤ ((l0.length : Int) : Int) := of_decide_eq_true (by first | (with_reducible assumption) | assumption)
            obtain ⟨i026, hi026, _, hsz26, _⟩ := info_parts info54
            have hroom26 : l0.length ≤ c0 := HC0.out
            have hC26 : Kd.C k54 _ (some ad120) l0.length l0 := HR0.out
            have hcut26 := cut_to (P := Tryd.prog) 24 54 .i64 Tryd.underlying24 hi026 (some ad120) l0.length c0 x13_1 (of_decide_eq_true (by first | (with_reducible assumption) | assumption)) q26 hroom26
            have hr26 := Kd.C_take (m := (x13_1 : Int).toNat) hC26 (by omega)
            have hy26 : y123.length = (x13_1 : Int).toNat := (by rw [Ny123.out, List.length_take]; omega)
            rw [← Ny123.out] at hr26
            rw [← hy26] at hcut26
            have HR126 := Aside0.mk hr26
            have HC126 := q_ (show y123.length ≤ c0 from by omega)
            clear hr26 hC26 hroom26 hi026 hsz26
            have KY26 := Aside0.mk hy26
            clear hy26
            replace q26 := eq_true q26
            refine start_ (n := 11) (S := fun w' => w'.cell? ⟨gb121, 0, none⟩ = some (.string ((rd_T54 l0 x13_1).f0)) ∧ w'.cell? ⟨gb121, 1, none⟩ = some (.int .i64 ((rd_T54 l0 x13_1).f1)) ∧ w'.cell? ⟨gb121, 2, none⟩ = some (.int .i64 ((rd_T54 l0 x13_1).f2)) ∧ w'.cell? ⟨gb121, 3, none⟩ = some (.int .i64 ((rd_T54 l0 x13_1).f3)) ∧ w'.cell? ⟨gb121, 4, none⟩ = some (.int .i64 ((rd_T54 l0 x13_1).f4)) ∧ w'.cell? ⟨gb121, 5, none⟩ = some (.slice A120_5 ((rd_T54 l0 x13_1).f5).length c120_5) ∧ w'.cell? ⟨gb121, 6, none⟩ = some (.slice A120_6 ((rd_T54 l0 x13_1).f6).length c120_6)) (ds := []) #[false, false, false, false, false, false, false, false, false, false, false] (by kernel_rfl) rfl rfl ⟨(bC BK121.out 0).trans rfl, (bC BK121.out 1).trans rfl, (bC BK121.out 2).trans rfl, (bC BK121.out 3).trans rfl, (bC BK121.out 4).trans rfl, (bC BK121.out 5).trans rfl, (bC BK121.out 6).trans rfl⟩ (fun hHeld => ?_); refine with_tabW product_Check.tab8 product_Check.bits8 (fun HT_ HW_ => ?_)
            generalize w24.drew = w25 at BK121 HB HR126 hHeld ⊢
            refine pure_ (i := 0) (N := some 23) (v := ?_) (a' := ?_) #[true, false, false, false, false, false, false, false, false, false, false] rfl rfl (any_of HT_.out (by kernel_rfl)) (fun _ _ _ h => h) (Or.inl ⟨by rfl, ?_⟩) ?_ ?_
            rotate_left
            ·intro w'
             go_simp
             with_reducible rfl
            rotate_left
            ·simp only [Act.put, List.setIfInBounds_toArray, List.set_cons_zero, List.set_cons_succ, i64_w, i32_w]
             rfl
            refine pure_ (i := 1) (N := some 24) (v := ?_) (a' := ?_) #[true, true, false, false, false, false, false, false, false, false, false] rfl rfl (any_of HT_.out (by kernel_rfl)) (fun _ _ _ h => h) (Or.inl ⟨by rfl, ?_⟩) ?_ ?_
            rotate_left
            ·intro w'
             go_simp
             with_reducible rfl
            rotate_left
            ·simp only [Act.put, List.setIfInBounds_toArray, List.set_cons_zero, List.set_cons_succ, i64_w, i32_w]
             rfl
            refine pure_ (i := 2) (N := some 25) (v := ?_) (a' := ?_) #[true, true, true, false, false, false, false, false, false, false, false] rfl rfl (any_of HT_.out (by kernel_rfl)) (fun _ _ _ h => h) (Or.inl ⟨by rfl, ?_⟩) ?_ ?_
            rotate_left
            ·intro w'
             go_simp
             with_reducible rfl
            rotate_left
            ·simp only [Act.put, List.setIfInBounds_toArray, List.set_cons_zero, List.set_cons_succ, i64_w, i32_w]
             rfl
            refine pure_ (i := 3) (N := some 26) (v := ?_) (a' := ?_) #[true, true, true, true, false, false, false, false, false, false, false] rfl rfl (any_of HT_.out (by kernel_rfl)) (fun _ _ _ h => h) (Or.inl ⟨by rfl, ?_⟩) ?_ ?_
            rotate_left
            ·intro w'
             go_simp
             with_reducible rfl
            rotate_left
            ·simp only [Act.put, List.setIfInBounds_toArray, List.set_cons_zero, List.set_cons_succ, i64_w, i32_w]
             rfl
            refine take_ (i := 4) (N := some 27) (v := ?_) (a' := ?_) #[true, true, true, true, true, false, false, false, false, false, false] rfl rfl (take_ofW HT_.out HW_.out (by kernel_rfl)) (fun _ _ _ h => h) (Or.inl ⟨by rfl, ?_⟩) hHeld ?_ ?_
            rotate_left
            ·rintro w' ⟨s0, s1, s2, s3, s4, s5, s6⟩
             go_simp
             with_reducible rfl
            rotate_left
            ·simp only [Act.put, List.setIfInBounds_toArray, List.set_cons_zero, List.set_cons_succ, i64_w, i32_w]
             rfl
            refine one_ (i := 5) (N := some 28) #[true, true, true, true, true, true, false, false, false, false, false] rfl rfl (one_of HT_.out (by kernel_rfl)) (by decide) (fun K hK => ?_)
            refine goes_ Tryd.func59 (by kernel_rfl) rfl #[.slice (some ad120) y123.length c0, .string ((rd_T54 l0 x13_1).f0)] (by rfl) rfl rfl (by first | rfl | (simp only [List.map_toArray]; rfl)) ?_
            with_reducible refine (product_Find.calls k1 _ _ y123 ((rd_T54 l0 x13_1).f0) t127 false _ ?side1 ?side2 A10.out).mono ?_
            (case side1 => repeat (first | exact (Kd.C_below HR126.out HB.out) | (with_reducible refine Kd.C_alloc ?_ _) | (with_reducible refine Kd.C_drewN ?_ _) | (with_reducible refine Kd.C_drew ?_)))
            (case side2 => exact HC126.out)
            rintro e w27 ⟨rfl, hb⟩
            refine ⟨_, rfl, ?_⟩
            have n0_ := q_ (bB (g := gb121) (by (with_reducible repeat (first | refine bN ?_ _ | refine bW ?_ | refine bA ?_ _)); exact BK121.out) hb)
            have n1_ := q_ (pT (by repeat (first | (with_reducible first | exact HB.out | apply pA | apply pN | apply p1 | refine pS ?_ GE121.out) | exact HB.out)) hb)
            clear BK121
            clear HB
            have BK121 := n0_
            have HB := n1_
            clear n0_ n1_
            (try clear hb)
            (try clear hb2)
            (try clear hk)
            (try clear hi)
            refine hK.out _ _ ⟨(bC BK121.out 0).trans rfl, (bC BK121.out 1).trans rfl, (bC BK121.out 2).trans rfl, (bC BK121.out 3).trans rfl, (bC BK121.out 4).trans rfl, (bC BK121.out 5).trans rfl, (bC BK121.out 6).trans rfl⟩ (fun hHeld => ?_)
            clear hK K
            refine norm_ (a' := ?_) ?_ ?_
            rotate_left
            ·show Act.put _ (some 28) _ = _
             simp only [Act.put, List.setIfInBounds_toArray, List.set_cons_zero, List.set_cons_succ, i64_w, i32_w]
             rfl
            refine pure_ (i := 6) (N := some 22) (v := ?_) (a' := ?_) #[true, true, true, true, true, true, true, false, false, false, false] rfl rfl (any_of HT_.out (by kernel_rfl)) (fun _ _ _ h => h) (Or.inl ⟨by rfl, ?_⟩) ?_ ?_
            rotate_left
            ·intro w'
             go_simp
             with_reducible rfl
            rotate_left
            ·simp only [Act.put, List.setIfInBounds_toArray, List.set_cons_zero, List.set_cons_succ, i64_w, i32_w]
             rfl
            refine pure_ (i := 7) (N := some 29) (v := ?_) (a' := ?_) #[true, true, true, true, true, true, true, true, false, false, false] rfl rfl (any_of HT_.out (by kernel_rfl)) (fun _ _ _ h => h) (Or.inl ⟨by rfl, ?_⟩) ?_ ?_
            rotate_left
            ·intro w'
             go_simp
             with_reducible rfl
            rotate_left
            ·simp only [Act.put, List.setIfInBounds_toArray, List.set_cons_zero, List.set_cons_succ, i64_w, i32_w]
             rfl
            refine pure_ (i := 8) (N := some 30) (v := ?_) (a' := ?_) #[true, true, true, true, true, true, true, true, true, false, false] rfl rfl (any_of HT_.out (by kernel_rfl)) (fun _ _ _ h => h) (Or.inl ⟨by rfl, ?_⟩) ?_ ?_
            rotate_left
            ·intro w'
             go_simp
             with_reducible rfl
            rotate_left
            ·simp only [Act.put, List.setIfInBounds_toArray, List.set_cons_zero, List.set_cons_succ, i64_w, i32_w]
             rfl
            refine pure_ (i := 9) (N := some 5) (v := ?_) (a' := ?_) #[true, true, true, true, true, true, true, true, true, true, false] rfl rfl (any_of HT_.out (by kernel_rfl)) (fun _ _ _ h => h) (Or.inl ⟨by rfl, ?_⟩) ?_ ?_
            rotate_left
            ·intro w'
             go_simp
             with_reducible rfl
            rotate_left
            ·simp only [Act.put, List.setIfInBounds_toArray, List.set_cons_zero, List.set_cons_succ, i64_w, i32_w]
             rfl
            refine pure_ (i := 10) (N := some 6) (v := ?_) (a' := ?_) #[true, true, true, true, true, true, true, true, true, true, true] rfl rfl (any_of HT_.out (by kernel_rfl)) (fun _ _ _ h => h) (Or.inl ⟨by rfl, ?_⟩) ?_ ?_
            rotate_left
            ·intro w'
             go_simp
             with_reducible rfl
            rotate_left
            ·simp only [Act.put, List.setIfInBounds_toArray, List.set_cons_zero, List.set_cons_succ, i64_w, i32_w]
             rfl
            refine done_ (done_of HT_.out (by kernel_rfl)) ?_
            have hcz28 := blk_all BK121.out
            simp only [CellsAt, List.toList_toArray, Nat.reduceAdd, and_true] at hcz28
            have hfz28 := bF BK121.out
            try go_wp2_with (first | ((with_reducible refine gate_callee (f := 60) rfl ?_); refine goesL_ (some 33) rfl rfl Tryd.func60 (by kernel_rfl) rfl #[.agg #[.string ((rd_T54 l0 x13_1).f0), .int .i64 ((rd_T54 l0 x13_1).f1), .int .i64 ((rd_T54 l0 x13_1).f2), .int .i64 ((rd_T54 l0 x13_1).f3), .int .i64 ((rd_T54 l0 x13_1).f4), .slice A120_5 ((rd_T54 l0 x13_1).f5).length c120_5, .slice A120_6 ((rd_T54 l0 x13_1).f6).length c120_6]] rfl (by first | rfl | (simp only [List.map_toArray]; rfl)) ?_; (with_reducible refine (product_sized.calls k1 ((rd_T54 l0 x13_1).f0) ((rd_T54 l0 x13_1).f1) ((rd_T54 l0 x13_1).f2) ((rd_T54 l0 x13_1).f3) ((rd_T54 l0 x13_1).f4) _ _ ((rd_T54 l0 x13_1).f5) _ _ ((rd_T54 l0 x13_1).f6) true _ ?side1 ?side2 ?side3 ?side4 A18.out).mono ?_); (case side1 => repeat (first | exact (Kd.C_below HR120_5.out HB.out) | (with_reducible refine Kd.C_alloc ?_ _) | (with_reducible refine Kd.C_drewN ?_ _) | (with_reducible refine Kd.C_drew ?_))); (case side2 => exact HC120_5.out); (case side3 => repeat (first | exact (Kd.C_below HR120_6.out HB.out) | (with_reducible refine Kd.C_alloc ?_ _) | (with_reducible refine Kd.C_drewN ?_ _) | (with_reducible refine Kd.C_drew ?_))); (case side4 => exact HC120_6.out); rintro e w29 ⟨rfl, hb⟩; refine ⟨_, rfl, ?_⟩; have n0_ := q_ (bB (g := gb121) (by (with_reducible repeat (first | refine bN ?_ _ | refine bW ?_ | refine bA ?_ _)); exact BK121.out) hb); have n1_ := q_ (pT (by repeat (first | (with_reducible first | exact HB.out | apply pA | apply pN | apply p1 | refine pS ?_ GE121.out) | exact HB.out)) hb); clear BK121; clear HB; have BK121 := n0_; have HB := n1_; clear n0_ n1_; (try clear hb); (try clear hb2); (try clear hk); (try clear hi); have hcz30 := blk_all BK121.out; simp only [CellsAt, List.toList_toArray, Nat.reduceAdd, and_true] at hcz30; have hfz30 := bF BK121.out) | ((with_reducible refine gate_callee (f := 61) rfl ?_); refine goesL_ (some 36) rfl rfl Tryd.func61 (by kernel_rfl) rfl #[.agg #[.string ((rd_T54 l0 x13_1).f0), .int .i64 ((rd_T54 l0 x13_1).f1), .int .i64 ((rd_T54 l0 x13_1).f2), .int .i64 ((rd_T54 l0 x13_1).f3), .int .i64 ((rd_T54 l0 x13_1).f4), .slice A120_5 ((rd_T54 l0 x13_1).f5).length c120_5, .slice A120_6 ((rd_T54 l0 x13_1).f6).length c120_6]] rfl (by first | rfl | (simp only [List.map_toArray]; rfl)) ?_; (with_reducible refine (product_checkLengths.calls k1 ((rd_T54 l0 x13_1).f0) ((rd_T54 l0 x13_1).f1) ((rd_T54 l0 x13_1).f2) ((rd_T54 l0 x13_1).f3) ((rd_T54 l0 x13_1).f4) _ _ ((rd_T54 l0 x13_1).f5) _ _ ((rd_T54 l0 x13_1).f6) t130 _ ?side1 ?side2 ?side3 ?side4 A20.out).mono ?_); (case side1 => repeat (first | exact (Kd.C_below HR120_5.out HB.out) | (with_reducible refine Kd.C_alloc ?_ _) | (with_reducible refine Kd.C_drewN ?_ _) | (with_reducible refine Kd.C_drew ?_))); (case side2 => exact HC120_5.out); (case side3 => repeat (first | exact (Kd.C_below HR120_6.out HB.out) | (with_reducible refine Kd.C_alloc ?_ _) | (with_reducible refine Kd.C_drewN ?_ _) | (with_reducible refine Kd.C_drew ?_))); (case side4 => exact HC120_6.out); rintro e w31 ⟨rfl, hb⟩; refine ⟨_, rfl, ?_⟩; have n0_ := q_ (bB (g := gb121) (by (with_reducible repeat (first | refine bN ?_ _ | refine bW ?_ | refine bA ?_ _)); exact BK121.out) hb); have n1_ := q_ (pT (by repeat (first | (with_reducible first | exact HB.out | apply pA | apply pN | apply p1 | refine pS ?_ GE121.out) | exact HB.out)) hb); clear BK121; clear HB; have BK121 := n0_; have HB := n1_; clear n0_ n1_; (try clear hb); (try clear hb2); (try clear hk); (try clear hi)))
            go_roundg k1
            case measure => have := HK1.out; omega
            case rel => exact ⟨(wrap64 (x13_1 + 1)), (by first | rfl | (simp; done) | (simp [*]; done)), H', ⟨by have := HK1.out; omega⟩, ⟨by repeat (first | (with_reducible first | exact HB.out | apply pA | apply pN | apply p1 | refine pS ?_ GE121.out) | exact HB.out)⟩⟩
           ·rw [if_neg c21] at H
            have c21b0 : (t130 == 0) = false := oC c21
            have c21b1 : (t130 != 0) = true := bne_iff_ne.mpr c21
            obtain rfl := Option.some.inj H
            have p120 : 0 ≤ (x13_1 : Int) := of_decide_eq_true (by first | (with_reducible assumption) | assumption)
            have q120 : x13_1 < (l0.length : Int) := of_decide_eq_true (by first | (with_reducible assumption) | assumption)
            obtain ⟨ad120, A120_5, c120_5, A120_6, c120_6, e120, hx120_0, hx120_1, hx120_2, hx120_3, hx120_4, hx120_5, hx120_6, hl120_5, hi120_5, hl120_6, hi120_6⟩ := at_T54 HR0.out x13_1 p120 q120
            cases e120
            replace hx120_0 := (HB.out.cell (World.block_lt_of_cell? w _ hx120_0)).trans hx120_0
            replace hx120_1 := (HB.out.cell (World.block_lt_of_cell? w _ hx120_1)).trans hx120_1
            replace hx120_2 := (HB.out.cell (World.block_lt_of_cell? w _ hx120_2)).trans hx120_2
            replace hx120_3 := (HB.out.cell (World.block_lt_of_cell? w _ hx120_3)).trans hx120_3
            replace hx120_4 := (HB.out.cell (World.block_lt_of_cell? w _ hx120_4)).trans hx120_4
            replace hx120_5 := (HB.out.cell (World.block_lt_of_cell? w _ hx120_5)).trans hx120_5
            replace hx120_6 := (HB.out.cell (World.block_lt_of_cell? w _ hx120_6)).trans hx120_6
            have HR120_5 := Aside0.mk hi120_5
            have HC120_5 := Aside0.mk hl120_5
            clear hi120_5 hl120_5
            have HR120_6 := Aside0.mk hi120_6
            have HC120_6 := Aside0.mk hl120_6
            clear hi120_6 hl120_6
            replace p120 := eq_true p120
            replace q120 := eq_true q120
            try go_wp2_with (first | ((with_reducible refine gate_dst (N := 4) rfl ?_); refine box_event ?hg (N := 4) ?hd (cs := #[.string (⟨#[]⟩ : ByteArray), .int .i64 0, .int .i64 0, .int .i64 0, .int .i64 0, .slice none 0 0, .slice none 0 0]) (t := 54) ?hr ?_; (case hd => rfl); (case hg => rfl); (case hr => first | (go_simp; done) | (go_simp; rfl)); intro gb121 hg w32 hbox hb; have n0_ := q_ (pT (by repeat (first | (with_reducible first | exact HB.out | apply pA | apply pN | apply p1) | exact HB.out)) hb); have n1_ := q_ (hbox); have n2_ := q_ ((by rw [hg]; exact (pZ (by repeat (first | (with_reducible first | exact HB.out | apply pA | apply pN | apply p1) | exact HB.out))) : w.heap.size ≤ gb121)); have n3_ := n2_; clear HB; have HB := n0_; have BK121 := n1_; have GW121 := n2_; have GE121 := n3_; clear n0_ n1_ n2_ n3_; clear hb hbox hg; have hcz33 := blk_all BK121.out; simp only [CellsAt, List.toList_toArray, Nat.reduceAdd, and_true] at hcz33; have hfz33 := bF BK121.out) | ((with_reducible refine gate_callee (f := 29) rfl ?_); refine goesL_ (some 20) rfl rfl Tryd.func29 (by kernel_rfl) rfl #[.string ((rd_T54 l0 x13_1).f0)] rfl (by first | rfl | (simp only [List.map_toArray]; rfl)) ?_; (with_reducible refine (ident_IsName.calls k1 ((rd_T54 l0 x13_1).f0) true _ A6.out).mono ?_); rintro e w' ⟨rfl, ⟨nd, rfl⟩⟩; refine ⟨_, rfl, ?_⟩))
            have n0_ : Aside0 ((((((((w32.setCell ⟨gb121, 0, none⟩ (.string ((rd_T54 l0 x13_1).f0))).setCell ⟨gb121, 1, none⟩ (.int .i64 ((rd_T54 l0 x13_1).f1))).setCell ⟨gb121, 2, none⟩ (.int .i64 ((rd_T54 l0 x13_1).f2))).setCell ⟨gb121, 3, none⟩ (.int .i64 ((rd_T54 l0 x13_1).f3))).setCell ⟨gb121, 4, none⟩ (.int .i64 ((rd_T54 l0 x13_1).f4))).setCell ⟨gb121, 5, none⟩ (.slice A120_5 ((rd_T54 l0 x13_1).f5).length c120_5)).setCell ⟨gb121, 6, none⟩ (.slice A120_6 ((rd_T54 l0 x13_1).f6).length c120_6)).heap[gb121]? = some (.cells #[.string ((rd_T54 l0 x13_1).f0), .int .i64 ((rd_T54 l0 x13_1).f1), .int .i64 ((rd_T54 l0 x13_1).f2), .int .i64 ((rd_T54 l0 x13_1).f3), .int .i64 ((rd_T54 l0 x13_1).f4), .slice A120_5 ((rd_T54 l0 x13_1).f5).length c120_5, .slice A120_6 ((rd_T54 l0 x13_1).f6).length c120_6] 54 (0, 0))) := ⟨by (with_reducible repeat (first | refine bN ?_ _ | refine bW ?_ | refine bA ?_ _)); refine blk_put (cs := #[.string ((rd_T54 l0 x13_1).f0), .int .i64 ((rd_T54 l0 x13_1).f1), .int .i64 ((rd_T54 l0 x13_1).f2), .int .i64 ((rd_T54 l0 x13_1).f3), .int .i64 ((rd_T54 l0 x13_1).f4), .slice A120_5 ((rd_T54 l0 x13_1).f5).length c120_5, .slice none 0 0]) ?_ 6 _ rfl; (with_reducible repeat (first | refine bN ?_ _ | refine bW ?_ | refine bA ?_ _)); refine blk_put (cs := #[.string ((rd_T54 l0 x13_1).f0), .int .i64 ((rd_T54 l0 x13_1).f1), .int .i64 ((rd_T54 l0 x13_1).f2), .int .i64 ((rd_T54 l0 x13_1).f3), .int .i64 ((rd_T54 l0 x13_1).f4), .slice none 0 0, .slice none 0 0]) ?_ 5 _ rfl; (with_reducible repeat (first | refine bN ?_ _ | refine bW ?_ | refine bA ?_ _)); refine blk_put (cs := #[.string ((rd_T54 l0 x13_1).f0), .int .i64 ((rd_T54 l0 x13_1).f1), .int .i64 ((rd_T54 l0 x13_1).f2), .int .i64 ((rd_T54 l0 x13_1).f3), .int .i64 0, .slice none 0 0, .slice none 0 0]) ?_ 4 _ rfl; (with_reducible repeat (first | refine bN ?_ _ | refine bW ?_ | refine bA ?_ _)); refine blk_put (cs := #[.string ((rd_T54 l0 x13_1).f0), .int .i64 ((rd_T54 l0 x13_1).f1), .int .i64 ((rd_T54 l0 x13_1).f2), .int .i64 0, .int .i64 0, .slice none 0 0, .slice none 0 0]) ?_ 3 _ rfl; (with_reducible repeat (first | refine bN ?_ _ | refine bW ?_ | refine bA ?_ _)); refine blk_put (cs := #[.string ((rd_T54 l0 x13_1).f0), .int .i64 ((rd_T54 l0 x13_1).f1), .int .i64 0, .int .i64 0, .int .i64 0, .slice none 0 0, .slice none 0 0]) ?_ 2 _ rfl; (with_reducible repeat (first | refine bN ?_ _ | refine bW ?_ | refine bA ?_ _)); refine blk_put (cs := #[.string ((rd_T54 l0 x13_1).f0), .int .i64 0, .int .i64 0, .int .i64 0, .int .i64 0, .slice none 0 0, .slice none 0 0]) ?_ 1 _ rfl; (with_reducible repeat (first | refine bN ?_ _ | refine bW ?_ | refine bA ?_ _)); refine blk_put (cs := #[.string (⟨#[]⟩ : ByteArray), .int .i64 0, .int .i64 0, .int .i64 0, .int .i64 0, .slice none 0 0, .slice none 0 0]) ?_ 0 _ rfl; (with_reducible repeat (first | refine bN ?_ _ | refine bW ?_ | refine bA ?_ _)); exact BK121.out⟩
            have n1_ : Aside0 (Below w.heap.size w (((((((w32.setCell ⟨gb121, 0, none⟩ (.string ((rd_T54 l0 x13_1).f0))).setCell ⟨gb121, 1, none⟩ (.int .i64 ((rd_T54 l0 x13_1).f1))).setCell ⟨gb121, 2, none⟩ (.int .i64 ((rd_T54 l0 x13_1).f2))).setCell ⟨gb121, 3, none⟩ (.int .i64 ((rd_T54 l0 x13_1).f3))).setCell ⟨gb121, 4, none⟩ (.int .i64 ((rd_T54 l0 x13_1).f4))).setCell ⟨gb121, 5, none⟩ (.slice A120_5 ((rd_T54 l0 x13_1).f5).length c120_5)).setCell ⟨gb121, 6, none⟩ (.slice A120_6 ((rd_T54 l0 x13_1).f6).length c120_6))) := ⟨by repeat (first | (with_reducible first | exact HB.out | apply pA | apply pN | apply p1 | refine pS ?_ GE121.out) | exact HB.out)⟩
            (try clear BK121)
            (try clear HB)
            generalize (((((((w32.setCell ⟨gb121, 0, none⟩ (.string ((rd_T54 l0 x13_1).f0))).setCell ⟨gb121, 1, none⟩ (.int .i64 ((rd_T54 l0 x13_1).f1))).setCell ⟨gb121, 2, none⟩ (.int .i64 ((rd_T54 l0 x13_1).f2))).setCell ⟨gb121, 3, none⟩ (.int .i64 ((rd_T54 l0 x13_1).f3))).setCell ⟨gb121, 4, none⟩ (.int .i64 ((rd_T54 l0 x13_1).f4))).setCell ⟨gb121, 5, none⟩ (.slice A120_5 ((rd_T54 l0 x13_1).f5).length c120_5)).setCell ⟨gb121, 6, none⟩ (.slice A120_6 ((rd_T54 l0 x13_1).f6).length c120_6)) = w34 at n0_ n1_ ⊢
            have BK121 := n0_
            have HB := n1_
            clear n0_ n1_
            (try (rw [drewN_self w34]; generalize hq_ : World.drewN w34 _ = w34; have n0_ : Aside0 (w34.heap[gb121]? = some (.cells #[.string ((rd_T54 l0 x13_1).f0), .int .i64 ((rd_T54 l0 x13_1).f1), .int .i64 ((rd_T54 l0 x13_1).f2), .int .i64 ((rd_T54 l0 x13_1).f3), .int .i64 ((rd_T54 l0 x13_1).f4), .slice A120_5 ((rd_T54 l0 x13_1).f5).length c120_5, .slice A120_6 ((rd_T54 l0 x13_1).f6).length c120_6] 54 (0, 0))) := ⟨by rw [← hq_]; exact (by (with_reducible repeat (first | refine bN ?_ _ | refine bW ?_ | refine bA ?_ _)); exact BK121.out)⟩; have n1_ : Aside0 (Below w.heap.size w w34) := ⟨by rw [← hq_]; exact (by repeat (first | (with_reducible first | exact HB.out | apply pA | apply pN | apply p1 | refine pS ?_ GE121.out) | exact HB.out))⟩; clear BK121 HB hq_; have BK121 := n0_; have HB := n1_; clear n0_ n1_))
            have n0_ := q_ (bW BK121.out)
            have n1_ := q_ (p1 HB.out)
            clear BK121
            clear HB
            have BK121 := n0_
            have HB := n1_
            clear n0_ n1_
            have q36 : (x13_1 : Int) ≤ ((l0.length : Int) : Int) := of_decide_eq_true (by first | (with_reducible assumption) | assumption)
            obtain ⟨i036, hi036, _, hsz36, _⟩ := info_parts info54
            have hroom36 : l0.length ≤ c0 := HC0.out
            have hC36 : Kd.C k54 _ (some ad120) l0.length l0 := HR0.out
            have hcut36 := cut_to (P := Tryd.prog) 24 54 .i64 Tryd.underlying24 hi036 (some ad120) l0.length c0 x13_1 (of_decide_eq_true (by first | (with_reducible assumption) | assumption)) q36 hroom36
            have hr36 := Kd.C_take (m := (x13_1 : Int).toNat) hC36 (by omega)
            have hy36 : y123.length = (x13_1 : Int).toNat := (by rw [Ny123.out, List.length_take]; omega)
            rw [← Ny123.out] at hr36
            rw [← hy36] at hcut36
            have HR126 := Aside0.mk hr36
            have HC126 := q_ (show y123.length ≤ c0 from by omega)
            clear hr36 hC36 hroom36 hi036 hsz36
            have KY36 := Aside0.mk hy36
            clear hy36
            replace q36 := eq_true q36
            refine start_ (n := 11) (S := fun w' => w'.cell? ⟨gb121, 0, none⟩ = some (.string ((rd_T54 l0 x13_1).f0)) ∧ w'.cell? ⟨gb121, 1, none⟩ = some (.int .i64 ((rd_T54 l0 x13_1).f1)) ∧ w'.cell? ⟨gb121, 2, none⟩ = some (.int .i64 ((rd_T54 l0 x13_1).f2)) ∧ w'.cell? ⟨gb121, 3, none⟩ = some (.int .i64 ((rd_T54 l0 x13_1).f3)) ∧ w'.cell? ⟨gb121, 4, none⟩ = some (.int .i64 ((rd_T54 l0 x13_1).f4)) ∧ w'.cell? ⟨gb121, 5, none⟩ = some (.slice A120_5 ((rd_T54 l0 x13_1).f5).length c120_5) ∧ w'.cell? ⟨gb121, 6, none⟩ = some (.slice A120_6 ((rd_T54 l0 x13_1).f6).length c120_6)) (ds := []) #[false, false, false, false, false, false, false, false, false, false, false] (by kernel_rfl) rfl rfl ⟨(bC BK121.out 0).trans rfl, (bC BK121.out 1).trans rfl, (bC BK121.out 2).trans rfl, (bC BK121.out 3).trans rfl, (bC BK121.out 4).trans rfl, (bC BK121.out 5).trans rfl, (bC BK121.out 6).trans rfl⟩ (fun hHeld => ?_); refine with_tabW product_Check.tab8 product_Check.bits8 (fun HT_ HW_ => ?_)
            generalize w34.drew = w35 at BK121 HB HR126 hHeld ⊢
            refine pure_ (i := 0) (N := some 23) (v := ?_) (a' := ?_) #[true, false, false, false, false, false, false, false, false, false, false] rfl rfl (any_of HT_.out (by kernel_rfl)) (fun _ _ _ h => h) (Or.inl ⟨by rfl, ?_⟩) ?_ ?_
            rotate_left
            ·intro w'
             go_simp
             with_reducible rfl
            rotate_left
            ·simp only [Act.put, List.setIfInBounds_toArray, List.set_cons_zero, List.set_cons_succ, i64_w, i32_w]
             rfl
            refine pure_ (i := 1) (N := some 24) (v := ?_) (a' := ?_) #[true, true, false, false, false, false, false, false, false, false, false] rfl rfl (any_of HT_.out (by kernel_rfl)) (fun _ _ _ h => h) (Or.inl ⟨by rfl, ?_⟩) ?_ ?_
            rotate_left
            ·intro w'
             go_simp
             with_reducible rfl
            rotate_left
            ·simp only [Act.put, List.setIfInBounds_toArray, List.set_cons_zero, List.set_cons_succ, i64_w, i32_w]
             rfl
            refine pure_ (i := 2) (N := some 25) (v := ?_) (a' := ?_) #[true, true, true, false, false, false, false, false, false, false, false] rfl rfl (any_of HT_.out (by kernel_rfl)) (fun _ _ _ h => h) (Or.inl ⟨by rfl, ?_⟩) ?_ ?_
            rotate_left
            ·intro w'
             go_simp
             with_reducible rfl
            rotate_left
            ·simp only [Act.put, List.setIfInBounds_toArray, List.set_cons_zero, List.set_cons_succ, i64_w, i32_w]
             rfl
            refine pure_ (i := 3) (N := some 26) (v := ?_) (a' := ?_) #[true, true, true, true, false, false, false, false, false, false, false] rfl rfl (any_of HT_.out (by kernel_rfl)) (fun _ _ _ h => h) (Or.inl ⟨by rfl, ?_⟩) ?_ ?_
            rotate_left
            ·intro w'
             go_simp
             with_reducible rfl
            rotate_left
            ·simp only [Act.put, List.setIfInBounds_toArray, List.set_cons_zero, List.set_cons_succ, i64_w, i32_w]
             rfl
            refine take_ (i := 4) (N := some 27) (v := ?_) (a' := ?_) #[true, true, true, true, true, false, false, false, false, false, false] rfl rfl (take_ofW HT_.out HW_.out (by kernel_rfl)) (fun _ _ _ h => h) (Or.inl ⟨by rfl, ?_⟩) hHeld ?_ ?_
            rotate_left
            ·rintro w' ⟨s0, s1, s2, s3, s4, s5, s6⟩
             go_simp
             with_reducible rfl
            rotate_left
            ·simp only [Act.put, List.setIfInBounds_toArray, List.set_cons_zero, List.set_cons_succ, i64_w, i32_w]
             rfl
            refine one_ (i := 5) (N := some 28) #[true, true, true, true, true, true, false, false, false, false, false] rfl rfl (one_of HT_.out (by kernel_rfl)) (by decide) (fun K hK => ?_)
            refine goes_ Tryd.func59 (by kernel_rfl) rfl #[.slice (some ad120) y123.length c0, .string ((rd_T54 l0 x13_1).f0)] (by rfl) rfl rfl (by first | rfl | (simp only [List.map_toArray]; rfl)) ?_
            with_reducible refine (product_Find.calls k1 _ _ y123 ((rd_T54 l0 x13_1).f0) t127 false _ ?side1 ?side2 A10.out).mono ?_
            (case side1 => repeat (first | exact (Kd.C_below HR126.out HB.out) | (with_reducible refine Kd.C_alloc ?_ _) | (with_reducible refine Kd.C_drewN ?_ _) | (with_reducible refine Kd.C_drew ?_)))
            (case side2 => exact HC126.out)
            rintro e w37 ⟨rfl, hb⟩
            refine ⟨_, rfl, ?_⟩
            have n0_ := q_ (bB (g := gb121) (by (with_reducible repeat (first | refine bN ?_ _ | refine bW ?_ | refine bA ?_ _)); exact BK121.out) hb)
            have n1_ := q_ (pT (by repeat (first | (with_reducible first | exact HB.out | apply pA | apply pN | apply p1 | refine pS ?_ GE121.out) | exact HB.out)) hb)
            clear BK121
            clear HB
            have BK121 := n0_
            have HB := n1_
            clear n0_ n1_
            (try clear hb)
            (try clear hb2)
            (try clear hk)
            (try clear hi)
            refine hK.out _ _ ⟨(bC BK121.out 0).trans rfl, (bC BK121.out 1).trans rfl, (bC BK121.out 2).trans rfl, (bC BK121.out 3).trans rfl, (bC BK121.out 4).trans rfl, (bC BK121.out 5).trans rfl, (bC BK121.out 6).trans rfl⟩ (fun hHeld => ?_)
            clear hK K
            refine norm_ (a' := ?_) ?_ ?_
            rotate_left
            ·show Act.put _ (some 28) _ = _
             simp only [Act.put, List.setIfInBounds_toArray, List.set_cons_zero, List.set_cons_succ, i64_w, i32_w]
             rfl
            refine pure_ (i := 6) (N := some 22) (v := ?_) (a' := ?_) #[true, true, true, true, true, true, true, false, false, false, false] rfl rfl (any_of HT_.out (by kernel_rfl)) (fun _ _ _ h => h) (Or.inl ⟨by rfl, ?_⟩) ?_ ?_
            rotate_left
            ·intro w'
             go_simp
             with_reducible rfl
            rotate_left
            ·simp only [Act.put, List.setIfInBounds_toArray, List.set_cons_zero, List.set_cons_succ, i64_w, i32_w]
             rfl
            refine pure_ (i := 7) (N := some 29) (v := ?_) (a' := ?_) #[true, true, true, true, true, true, true, true, false, false, false] rfl rfl (any_of HT_.out (by kernel_rfl)) (fun _ _ _ h => h) (Or.inl ⟨by rfl, ?_⟩) ?_ ?_
            rotate_left
            ·intro w'
             go_simp
             with_reducible rfl
            rotate_left
            ·simp only [Act.put, List.setIfInBounds_toArray, List.set_cons_zero, List.set_cons_succ, i64_w, i32_w]
             rfl
            refine pure_ (i := 8) (N := some 30) (v := ?_) (a' := ?_) #[true, true, true, true, true, true, true, true, true, false, false] rfl rfl (any_of HT_.out (by kernel_rfl)) (fun _ _ _ h => h) (Or.inl ⟨by rfl, ?_⟩) ?_ ?_
            rotate_left
            ·intro w'
             go_simp
             with_reducible rfl
            rotate_left
            ·simp only [Act.put, List.setIfInBounds_toArray, List.set_cons_zero, List.set_cons_succ, i64_w, i32_w]
             rfl
            refine pure_ (i := 9) (N := some 5) (v := ?_) (a' := ?_) #[true, true, true, true, true, true, true, true, true, true, false] rfl rfl (any_of HT_.out (by kernel_rfl)) (fun _ _ _ h => h) (Or.inl ⟨by rfl, ?_⟩) ?_ ?_
            rotate_left
            ·intro w'
             go_simp
             with_reducible rfl
            rotate_left
            ·simp only [Act.put, List.setIfInBounds_toArray, List.set_cons_zero, List.set_cons_succ, i64_w, i32_w]
             rfl
            refine pure_ (i := 10) (N := some 6) (v := ?_) (a' := ?_) #[true, true, true, true, true, true, true, true, true, true, true] rfl rfl (any_of HT_.out (by kernel_rfl)) (fun _ _ _ h => h) (Or.inl ⟨by rfl, ?_⟩) ?_ ?_
            rotate_left
            ·intro w'
             go_simp
             with_reducible rfl
            rotate_left
            ·simp only [Act.put, List.setIfInBounds_toArray, List.set_cons_zero, List.set_cons_succ, i64_w, i32_w]
             rfl
            refine done_ (done_of HT_.out (by kernel_rfl)) ?_
            have hcz38 := blk_all BK121.out
            simp only [CellsAt, List.toList_toArray, Nat.reduceAdd, and_true] at hcz38
            have hfz38 := bF BK121.out
            try go_wp2_with (first | ((with_reducible refine gate_callee (f := 60) rfl ?_); refine goesL_ (some 33) rfl rfl Tryd.func60 (by kernel_rfl) rfl #[.agg #[.string ((rd_T54 l0 x13_1).f0), .int .i64 ((rd_T54 l0 x13_1).f1), .int .i64 ((rd_T54 l0 x13_1).f2), .int .i64 ((rd_T54 l0 x13_1).f3), .int .i64 ((rd_T54 l0 x13_1).f4), .slice A120_5 ((rd_T54 l0 x13_1).f5).length c120_5, .slice A120_6 ((rd_T54 l0 x13_1).f6).length c120_6]] rfl (by first | rfl | (simp only [List.map_toArray]; rfl)) ?_; (with_reducible refine (product_sized.calls k1 ((rd_T54 l0 x13_1).f0) ((rd_T54 l0 x13_1).f1) ((rd_T54 l0 x13_1).f2) ((rd_T54 l0 x13_1).f3) ((rd_T54 l0 x13_1).f4) _ _ ((rd_T54 l0 x13_1).f5) _ _ ((rd_T54 l0 x13_1).f6) true _ ?side1 ?side2 ?side3 ?side4 A18.out).mono ?_); (case side1 => repeat (first | exact (Kd.C_below HR120_5.out HB.out) | (with_reducible refine Kd.C_alloc ?_ _) | (with_reducible refine Kd.C_drewN ?_ _) | (with_reducible refine Kd.C_drew ?_))); (case side2 => exact HC120_5.out); (case side3 => repeat (first | exact (Kd.C_below HR120_6.out HB.out) | (with_reducible refine Kd.C_alloc ?_ _) | (with_reducible refine Kd.C_drewN ?_ _) | (with_reducible refine Kd.C_drew ?_))); (case side4 => exact HC120_6.out); rintro e w39 ⟨rfl, hb⟩; refine ⟨_, rfl, ?_⟩; have n0_ := q_ (bB (g := gb121) (by (with_reducible repeat (first | refine bN ?_ _ | refine bW ?_ | refine bA ?_ _)); exact BK121.out) hb); have n1_ := q_ (pT (by repeat (first | (with_reducible first | exact HB.out | apply pA | apply pN | apply p1 | refine pS ?_ GE121.out) | exact HB.out)) hb); clear BK121; clear HB; have BK121 := n0_; have HB := n1_; clear n0_ n1_; (try clear hb); (try clear hb2); (try clear hk); (try clear hi); have hcz40 := blk_all BK121.out; simp only [CellsAt, List.toList_toArray, Nat.reduceAdd, and_true] at hcz40; have hfz40 := bF BK121.out) | ((with_reducible refine gate_callee (f := 61) rfl ?_); refine goesL_ (some 36) rfl rfl Tryd.func61 (by kernel_rfl) rfl #[.agg #[.string ((rd_T54 l0 x13_1).f0), .int .i64 ((rd_T54 l0 x13_1).f1), .int .i64 ((rd_T54 l0 x13_1).f2), .int .i64 ((rd_T54 l0 x13_1).f3), .int .i64 ((rd_T54 l0 x13_1).f4), .slice A120_5 ((rd_T54 l0 x13_1).f5).length c120_5, .slice A120_6 ((rd_T54 l0 x13_1).f6).length c120_6]] rfl (by first | rfl | (simp only [List.map_toArray]; rfl)) ?_; (with_reducible refine (product_checkLengths.calls k1 ((rd_T54 l0 x13_1).f0) ((rd_T54 l0 x13_1).f1) ((rd_T54 l0 x13_1).f2) ((rd_T54 l0 x13_1).f3) ((rd_T54 l0 x13_1).f4) _ _ ((rd_T54 l0 x13_1).f5) _ _ ((rd_T54 l0 x13_1).f6) t130 _ ?side1 ?side2 ?side3 ?side4 A20.out).mono ?_); (case side1 => repeat (first | exact (Kd.C_below HR120_5.out HB.out) | (with_reducible refine Kd.C_alloc ?_ _) | (with_reducible refine Kd.C_drewN ?_ _) | (with_reducible refine Kd.C_drew ?_))); (case side2 => exact HC120_5.out); (case side3 => repeat (first | exact (Kd.C_below HR120_6.out HB.out) | (with_reducible refine Kd.C_alloc ?_ _) | (with_reducible refine Kd.C_drewN ?_ _) | (with_reducible refine Kd.C_drew ?_))); (case side4 => exact HC120_6.out); rintro e w41 ⟨rfl, hb⟩; refine ⟨_, rfl, ?_⟩; have n0_ := q_ (bB (g := gb121) (by (with_reducible repeat (first | refine bN ?_ _ | refine bW ?_ | refine bA ?_ _)); exact BK121.out) hb); have n1_ := q_ (pT (by repeat (first | (with_reducible first | exact HB.out | apply pA | apply pN | apply p1 | refine pS ?_ GE121.out) | exact HB.out)) hb); clear BK121; clear HB; have BK121 := n0_; have HB := n1_; clear n0_ n1_; (try clear hb); (try clear hb2); (try clear hk); (try clear hi)))
            go_ret
            exact ⟨by first | rfl | (simp [*] <;> rfl), by repeat (first | (with_reducible first | exact HB.out | apply pA | apply pN | apply p1 | refine pS ?_ GE121.out) | exact HB.out)⟩
          ·replace c19 := Bool.eq_false_iff.mpr c19
           subst c19
           have H1 : (some 9) = some r := by rw [if_neg (show ¬ (false = true) by decide)] at H; exact H
           clear H
           have H := H1
           clear H1
           obtain rfl := Option.some.inj H
           have p120 : 0 ≤ (x13_1 : Int) := of_decide_eq_true (by first | (with_reducible assumption) | assumption)
           have q120 : x13_1 < (l0.length : Int) := of_decide_eq_true (by first | (with_reducible assumption) | assumption)
           obtain ⟨ad120, A120_5, c120_5, A120_6, c120_6, e120, hx120_0, hx120_1, hx120_2, hx120_3, hx120_4, hx120_5, hx120_6, hl120_5, hi120_5, hl120_6, hi120_6⟩ := at_T54 HR0.out x13_1 p120 q120
           cases e120
           replace hx120_0 := (HB.out.cell (World.block_lt_of_cell? w _ hx120_0)).trans hx120_0
           replace hx120_1 := (HB.out.cell (World.block_lt_of_cell? w _ hx120_1)).trans hx120_1
           replace hx120_2 := (HB.out.cell (World.block_lt_of_cell? w _ hx120_2)).trans hx120_2
           replace hx120_3 := (HB.out.cell (World.block_lt_of_cell? w _ hx120_3)).trans hx120_3
           replace hx120_4 := (HB.out.cell (World.block_lt_of_cell? w _ hx120_4)).trans hx120_4
           replace hx120_5 := (HB.out.cell (World.block_lt_of_cell? w _ hx120_5)).trans hx120_5
           replace hx120_6 := (HB.out.cell (World.block_lt_of_cell? w _ hx120_6)).trans hx120_6
           have HR120_5 := Aside0.mk hi120_5
           have HC120_5 := Aside0.mk hl120_5
           clear hi120_5 hl120_5
           have HR120_6 := Aside0.mk hi120_6
           have HC120_6 := Aside0.mk hl120_6
           clear hi120_6 hl120_6
           replace p120 := eq_true p120
           replace q120 := eq_true q120
           try go_wp2_with (first | ((with_reducible refine gate_dst (N := 4) rfl ?_); refine box_event ?hg (N := 4) ?hd (cs := #[.string (⟨#[]⟩ : ByteArray), .int .i64 0, .int .i64 0, .int .i64 0, .int .i64 0, .slice none 0 0, .slice none 0 0]) (t := 54) ?hr ?_; (case hd => rfl); (case hg => rfl); (case hr => first | (go_simp; done) | (go_simp; rfl)); intro gb121 hg w42 hbox hb; have n0_ := q_ (pT (by repeat (first | (with_reducible first | exact HB.out | apply pA | apply pN | apply p1) | exact HB.out)) hb); have n1_ := q_ (hbox); have n2_ := q_ ((by rw [hg]; exact (pZ (by repeat (first | (with_reducible first | exact HB.out | apply pA | apply pN | apply p1) | exact HB.out))) : w.heap.size ≤ gb121)); have n3_ := n2_; clear HB; have HB := n0_; have BK121 := n1_; have GW121 := n2_; have GE121 := n3_; clear n0_ n1_ n2_ n3_; clear hb hbox hg; have hcz43 := blk_all BK121.out; simp only [CellsAt, List.toList_toArray, Nat.reduceAdd, and_true] at hcz43; have hfz43 := bF BK121.out) | ((with_reducible refine gate_callee (f := 29) rfl ?_); refine goesL_ (some 20) rfl rfl Tryd.func29 (by kernel_rfl) rfl #[.string ((rd_T54 l0 x13_1).f0)] rfl (by first | rfl | (simp only [List.map_toArray]; rfl)) ?_; (with_reducible refine (ident_IsName.calls k1 ((rd_T54 l0 x13_1).f0) true _ A6.out).mono ?_); rintro e w' ⟨rfl, ⟨nd, rfl⟩⟩; refine ⟨_, rfl, ?_⟩))
           have n0_ : Aside0 ((((((((w42.setCell ⟨gb121, 0, none⟩ (.string ((rd_T54 l0 x13_1).f0))).setCell ⟨gb121, 1, none⟩ (.int .i64 ((rd_T54 l0 x13_1).f1))).setCell ⟨gb121, 2, none⟩ (.int .i64 ((rd_T54 l0 x13_1).f2))).setCell ⟨gb121, 3, none⟩ (.int .i64 ((rd_T54 l0 x13_1).f3))).setCell ⟨gb121, 4, none⟩ (.int .i64 ((rd_T54 l0 x13_1).f4))).setCell ⟨gb121, 5, none⟩ (.slice A120_5 ((rd_T54 l0 x13_1).f5).length c120_5)).setCell ⟨gb121, 6, none⟩ (.slice A120_6 ((rd_T54 l0 x13_1).f6).length c120_6)).heap[gb121]? = some (.cells #[.string ((rd_T54 l0 x13_1).f0), .int .i64 ((rd_T54 l0 x13_1).f1), .int .i64 ((rd_T54 l0 x13_1).f2), .int .i64 ((rd_T54 l0 x13_1).f3), .int .i64 ((rd_T54 l0 x13_1).f4), .slice A120_5 ((rd_T54 l0 x13_1).f5).length c120_5, .slice A120_6 ((rd_T54 l0 x13_1).f6).length c120_6] 54 (0, 0))) := ⟨by (with_reducible repeat (first | refine bN ?_ _ | refine bW ?_ | refine bA ?_ _)); refine blk_put (cs := #[.string ((rd_T54 l0 x13_1).f0), .int .i64 ((rd_T54 l0 x13_1).f1), .int .i64 ((rd_T54 l0 x13_1).f2), .int .i64 ((rd_T54 l0 x13_1).f3), .int .i64 ((rd_T54 l0 x13_1).f4), .slice A120_5 ((rd_T54 l0 x13_1).f5).length c120_5, .slice none 0 0]) ?_ 6 _ rfl; (with_reducible repeat (first | refine bN ?_ _ | refine bW ?_ | refine bA ?_ _)); refine blk_put (cs := #[.string ((rd_T54 l0 x13_1).f0), .int .i64 ((rd_T54 l0 x13_1).f1), .int .i64 ((rd_T54 l0 x13_1).f2), .int .i64 ((rd_T54 l0 x13_1).f3), .int .i64 ((rd_T54 l0 x13_1).f4), .slice none 0 0, .slice none 0 0]) ?_ 5 _ rfl; (with_reducible repeat (first | refine bN ?_ _ | refine bW ?_ | refine bA ?_ _)); refine blk_put (cs := #[.string ((rd_T54 l0 x13_1).f0), .int .i64 ((rd_T54 l0 x13_1).f1), .int .i64 ((rd_T54 l0 x13_1).f2), .int .i64 ((rd_T54 l0 x13_1).f3), .int .i64 0, .slice none 0 0, .slice none 0 0]) ?_ 4 _ rfl; (with_reducible repeat (first | refine bN ?_ _ | refine bW ?_ | refine bA ?_ _)); refine blk_put (cs := #[.string ((rd_T54 l0 x13_1).f0), .int .i64 ((rd_T54 l0 x13_1).f1), .int .i64 ((rd_T54 l0 x13_1).f2), .int .i64 0, .int .i64 0, .slice none 0 0, .slice none 0 0]) ?_ 3 _ rfl; (with_reducible repeat (first | refine bN ?_ _ | refine bW ?_ | refine bA ?_ _)); refine blk_put (cs := #[.string ((rd_T54 l0 x13_1).f0), .int .i64 ((rd_T54 l0 x13_1).f1), .int .i64 0, .int .i64 0, .int .i64 0, .slice none 0 0, .slice none 0 0]) ?_ 2 _ rfl; (with_reducible repeat (first | refine bN ?_ _ | refine bW ?_ | refine bA ?_ _)); refine blk_put (cs := #[.string ((rd_T54 l0 x13_1).f0), .int .i64 0, .int .i64 0, .int .i64 0, .int .i64 0, .slice none 0 0, .slice none 0 0]) ?_ 1 _ rfl; (with_reducible repeat (first | refine bN ?_ _ | refine bW ?_ | refine bA ?_ _)); refine blk_put (cs := #[.string (⟨#[]⟩ : ByteArray), .int .i64 0, .int .i64 0, .int .i64 0, .int .i64 0, .slice none 0 0, .slice none 0 0]) ?_ 0 _ rfl; (with_reducible repeat (first | refine bN ?_ _ | refine bW ?_ | refine bA ?_ _)); exact BK121.out⟩
           have n1_ : Aside0 (Below w.heap.size w (((((((w42.setCell ⟨gb121, 0, none⟩ (.string ((rd_T54 l0 x13_1).f0))).setCell ⟨gb121, 1, none⟩ (.int .i64 ((rd_T54 l0 x13_1).f1))).setCell ⟨gb121, 2, none⟩ (.int .i64 ((rd_T54 l0 x13_1).f2))).setCell ⟨gb121, 3, none⟩ (.int .i64 ((rd_T54 l0 x13_1).f3))).setCell ⟨gb121, 4, none⟩ (.int .i64 ((rd_T54 l0 x13_1).f4))).setCell ⟨gb121, 5, none⟩ (.slice A120_5 ((rd_T54 l0 x13_1).f5).length c120_5)).setCell ⟨gb121, 6, none⟩ (.slice A120_6 ((rd_T54 l0 x13_1).f6).length c120_6))) := ⟨by repeat (first | (with_reducible first | exact HB.out | apply pA | apply pN | apply p1 | refine pS ?_ GE121.out) | exact HB.out)⟩
           (try clear BK121)
           (try clear HB)
           generalize (((((((w42.setCell ⟨gb121, 0, none⟩ (.string ((rd_T54 l0 x13_1).f0))).setCell ⟨gb121, 1, none⟩ (.int .i64 ((rd_T54 l0 x13_1).f1))).setCell ⟨gb121, 2, none⟩ (.int .i64 ((rd_T54 l0 x13_1).f2))).setCell ⟨gb121, 3, none⟩ (.int .i64 ((rd_T54 l0 x13_1).f3))).setCell ⟨gb121, 4, none⟩ (.int .i64 ((rd_T54 l0 x13_1).f4))).setCell ⟨gb121, 5, none⟩ (.slice A120_5 ((rd_T54 l0 x13_1).f5).length c120_5)).setCell ⟨gb121, 6, none⟩ (.slice A120_6 ((rd_T54 l0 x13_1).f6).length c120_6)) = w44 at n0_ n1_ ⊢
           have BK121 := n0_
           have HB := n1_
           clear n0_ n1_
           (try (rw [drewN_self w44]; generalize hq_ : World.drewN w44 _ = w44; have n0_ : Aside0 (w44.heap[gb121]? = some (.cells #[.string ((rd_T54 l0 x13_1).f0), .int .i64 ((rd_T54 l0 x13_1).f1), .int .i64 ((rd_T54 l0 x13_1).f2), .int .i64 ((rd_T54 l0 x13_1).f3), .int .i64 ((rd_T54 l0 x13_1).f4), .slice A120_5 ((rd_T54 l0 x13_1).f5).length c120_5, .slice A120_6 ((rd_T54 l0 x13_1).f6).length c120_6] 54 (0, 0))) := ⟨by rw [← hq_]; exact (by (with_reducible repeat (first | refine bN ?_ _ | refine bW ?_ | refine bA ?_ _)); exact BK121.out)⟩; have n1_ : Aside0 (Below w.heap.size w w44) := ⟨by rw [← hq_]; exact (by repeat (first | (with_reducible first | exact HB.out | apply pA | apply pN | apply p1 | refine pS ?_ GE121.out) | exact HB.out))⟩; clear BK121 HB hq_; have BK121 := n0_; have HB := n1_; clear n0_ n1_))
           have n0_ := q_ (bW BK121.out)
           have n1_ := q_ (p1 HB.out)
           clear BK121
           clear HB
           have BK121 := n0_
           have HB := n1_
           clear n0_ n1_
           have q46 : (x13_1 : Int) ≤ ((l0.length : Int) : Int) := of_decide_eq_true (by first | (with_reducible assumption) | assumption)
           obtain ⟨i046, hi046, _, hsz46, _⟩ := info_parts info54
           have hroom46 : l0.length ≤ c0 := HC0.out
           have hC46 : Kd.C k54 _ (some ad120) l0.length l0 := HR0.out
           have hcut46 := cut_to (P := Tryd.prog) 24 54 .i64 Tryd.underlying24 hi046 (some ad120) l0.length c0 x13_1 (of_decide_eq_true (by first | (with_reducible assumption) | assumption)) q46 hroom46
           have hr46 := Kd.C_take (m := (x13_1 : Int).toNat) hC46 (by omega)
           have hy46 : y123.length = (x13_1 : Int).toNat := (by rw [Ny123.out, List.length_take]; omega)
           rw [← Ny123.out] at hr46
           rw [← hy46] at hcut46
           have HR126 := Aside0.mk hr46
           have HC126 := q_ (show y123.length ≤ c0 from by omega)
           clear hr46 hC46 hroom46 hi046 hsz46
           have KY46 := Aside0.mk hy46
           clear hy46
           replace q46 := eq_true q46
           refine start_ (n := 11) (S := fun w' => w'.cell? ⟨gb121, 0, none⟩ = some (.string ((rd_T54 l0 x13_1).f0)) ∧ w'.cell? ⟨gb121, 1, none⟩ = some (.int .i64 ((rd_T54 l0 x13_1).f1)) ∧ w'.cell? ⟨gb121, 2, none⟩ = some (.int .i64 ((rd_T54 l0 x13_1).f2)) ∧ w'.cell? ⟨gb121, 3, none⟩ = some (.int .i64 ((rd_T54 l0 x13_1).f3)) ∧ w'.cell? ⟨gb121, 4, none⟩ = some (.int .i64 ((rd_T54 l0 x13_1).f4)) ∧ w'.cell? ⟨gb121, 5, none⟩ = some (.slice A120_5 ((rd_T54 l0 x13_1).f5).length c120_5) ∧ w'.cell? ⟨gb121, 6, none⟩ = some (.slice A120_6 ((rd_T54 l0 x13_1).f6).length c120_6)) (ds := []) #[false, false, false, false, false, false, false, false, false, false, false] (by kernel_rfl) rfl rfl ⟨(bC BK121.out 0).trans rfl, (bC BK121.out 1).trans rfl, (bC BK121.out 2).trans rfl, (bC BK121.out 3).trans rfl, (bC BK121.out 4).trans rfl, (bC BK121.out 5).trans rfl, (bC BK121.out 6).trans rfl⟩ (fun hHeld => ?_); refine with_tabW product_Check.tab8 product_Check.bits8 (fun HT_ HW_ => ?_)
           generalize w44.drew = w45 at BK121 HB HR126 hHeld ⊢
           refine pure_ (i := 0) (N := some 23) (v := ?_) (a' := ?_) #[true, false, false, false, false, false, false, false, false, false, false] rfl rfl (any_of HT_.out (by kernel_rfl)) (fun _ _ _ h => h) (Or.inl ⟨by rfl, ?_⟩) ?_ ?_
           rotate_left
           ·intro w'
            go_simp
            with_reducible rfl
           rotate_left
           ·simp only [Act.put, List.setIfInBounds_toArray, List.set_cons_zero, List.set_cons_succ, i64_w, i32_w]
            rfl
           refine pure_ (i := 1) (N := some 24) (v := ?_) (a' := ?_) #[true, true, false, false, false, false, false, false, false, false, false] rfl rfl (any_of HT_.out (by kernel_rfl)) (fun _ _ _ h => h) (Or.inl ⟨by rfl, ?_⟩) ?_ ?_
           rotate_left
           ·intro w'
            go_simp
            with_reducible rfl
           rotate_left
           ·simp only [Act.put, List.setIfInBounds_toArray, List.set_cons_zero, List.set_cons_succ, i64_w, i32_w]
            rfl
           refine pure_ (i := 2) (N := some 25) (v := ?_) (a' := ?_) #[true, true, true, false, false, false, false, false, false, false, false] rfl rfl (any_of HT_.out (by kernel_rfl)) (fun _ _ _ h => h) (Or.inl ⟨by rfl, ?_⟩) ?_ ?_
           rotate_left
           ·intro w'
            go_simp
            with_reducible rfl
           rotate_left
           ·simp only [Act.put, List.setIfInBounds_toArray, List.set_cons_zero, List.set_cons_succ, i64_w, i32_w]
            rfl
           refine pure_ (i := 3) (N := some 26) (v := ?_) (a' := ?_) #[true, true, true, true, false, false, false, false, false, false, false] rfl rfl (any_of HT_.out (by kernel_rfl)) (fun _ _ _ h => h) (Or.inl ⟨by rfl, ?_⟩) ?_ ?_
           rotate_left
           ·intro w'
            go_simp
            with_reducible rfl
           rotate_left
           ·simp only [Act.put, List.setIfInBounds_toArray, List.set_cons_zero, List.set_cons_succ, i64_w, i32_w]
            rfl
           refine take_ (i := 4) (N := some 27) (v := ?_) (a' := ?_) #[true, true, true, true, true, false, false, false, false, false, false] rfl rfl (take_ofW HT_.out HW_.out (by kernel_rfl)) (fun _ _ _ h => h) (Or.inl ⟨by rfl, ?_⟩) hHeld ?_ ?_
           rotate_left
           ·rintro w' ⟨s0, s1, s2, s3, s4, s5, s6⟩
            go_simp
            with_reducible rfl
           rotate_left
           ·simp only [Act.put, List.setIfInBounds_toArray, List.set_cons_zero, List.set_cons_succ, i64_w, i32_w]
            rfl
           refine one_ (i := 5) (N := some 28) #[true, true, true, true, true, true, false, false, false, false, false] rfl rfl (one_of HT_.out (by kernel_rfl)) (by decide) (fun K hK => ?_)
           refine goes_ Tryd.func59 (by kernel_rfl) rfl #[.slice (some ad120) y123.length c0, .string ((rd_T54 l0 x13_1).f0)] (by rfl) rfl rfl (by first | rfl | (simp only [List.map_toArray]; rfl)) ?_
           with_reducible refine (product_Find.calls k1 _ _ y123 ((rd_T54 l0 x13_1).f0) t127 false _ ?side1 ?side2 A10.out).mono ?_
           (case side1 => repeat (first | exact (Kd.C_below HR126.out HB.out) | (with_reducible refine Kd.C_alloc ?_ _) | (with_reducible refine Kd.C_drewN ?_ _) | (with_reducible refine Kd.C_drew ?_)))
           (case side2 => exact HC126.out)
           rintro e w47 ⟨rfl, hb⟩
           refine ⟨_, rfl, ?_⟩
           have n0_ := q_ (bB (g := gb121) (by (with_reducible repeat (first | refine bN ?_ _ | refine bW ?_ | refine bA ?_ _)); exact BK121.out) hb)
           have n1_ := q_ (pT (by repeat (first | (with_reducible first | exact HB.out | apply pA | apply pN | apply p1 | refine pS ?_ GE121.out) | exact HB.out)) hb)
           clear BK121
           clear HB
           have BK121 := n0_
           have HB := n1_
           clear n0_ n1_
           (try clear hb)
           (try clear hb2)
           (try clear hk)
           (try clear hi)
           refine hK.out _ _ ⟨(bC BK121.out 0).trans rfl, (bC BK121.out 1).trans rfl, (bC BK121.out 2).trans rfl, (bC BK121.out 3).trans rfl, (bC BK121.out 4).trans rfl, (bC BK121.out 5).trans rfl, (bC BK121.out 6).trans rfl⟩ (fun hHeld => ?_)
           clear hK K
           refine norm_ (a' := ?_) ?_ ?_
           rotate_left
           ·show Act.put _ (some 28) _ = _
            simp only [Act.put, List.setIfInBounds_toArray, List.set_cons_zero, List.set_cons_succ, i64_w, i32_w]
            rfl
           refine pure_ (i := 6) (N := some 22) (v := ?_) (a' := ?_) #[true, true, true, true, true, true, true, false, false, false, false] rfl rfl (any_of HT_.out (by kernel_rfl)) (fun _ _ _ h => h) (Or.inl ⟨by rfl, ?_⟩) ?_ ?_
           rotate_left
           ·intro w'
            go_simp
            with_reducible rfl
           rotate_left
           ·simp only [Act.put, List.setIfInBounds_toArray, List.set_cons_zero, List.set_cons_succ, i64_w, i32_w]
            rfl
           refine pure_ (i := 7) (N := some 29) (v := ?_) (a' := ?_) #[true, true, true, true, true, true, true, true, false, false, false] rfl rfl (any_of HT_.out (by kernel_rfl)) (fun _ _ _ h => h) (Or.inl ⟨by rfl, ?_⟩) ?_ ?_
           rotate_left
           ·intro w'
            go_simp
            with_reducible rfl
           rotate_left
           ·simp only [Act.put, List.setIfInBounds_toArray, List.set_cons_zero, List.set_cons_succ, i64_w, i32_w]
            rfl
           refine pure_ (i := 8) (N := some 30) (v := ?_) (a' := ?_) #[true, true, true, true, true, true, true, true, true, false, false] rfl rfl (any_of HT_.out (by kernel_rfl)) (fun _ _ _ h => h) (Or.inl ⟨by rfl, ?_⟩) ?_ ?_
           rotate_left
           ·intro w'
            go_simp
            with_reducible rfl
           rotate_left
           ·simp only [Act.put, List.setIfInBounds_toArray, List.set_cons_zero, List.set_cons_succ, i64_w, i32_w]
            rfl
           refine pure_ (i := 9) (N := some 5) (v := ?_) (a' := ?_) #[true, true, true, true, true, true, true, true, true, true, false] rfl rfl (any_of HT_.out (by kernel_rfl)) (fun _ _ _ h => h) (Or.inl ⟨by rfl, ?_⟩) ?_ ?_
           rotate_left
           ·intro w'
            go_simp
            with_reducible rfl
           rotate_left
           ·simp only [Act.put, List.setIfInBounds_toArray, List.set_cons_zero, List.set_cons_succ, i64_w, i32_w]
            rfl
           refine pure_ (i := 10) (N := some 6) (v := ?_) (a' := ?_) #[true, true, true, true, true, true, true, true, true, true, true] rfl rfl (any_of HT_.out (by kernel_rfl)) (fun _ _ _ h => h) (Or.inl ⟨by rfl, ?_⟩) ?_ ?_
           rotate_left
           ·intro w'
            go_simp
            with_reducible rfl
           rotate_left
           ·simp only [Act.put, List.setIfInBounds_toArray, List.set_cons_zero, List.set_cons_succ, i64_w, i32_w]
            rfl
           refine done_ (done_of HT_.out (by kernel_rfl)) ?_
           have hcz48 := blk_all BK121.out
           simp only [CellsAt, List.toList_toArray, Nat.reduceAdd, and_true] at hcz48
           have hfz48 := bF BK121.out
           try go_wp2_with (first | ((with_reducible refine gate_callee (f := 60) rfl ?_); refine goesL_ (some 33) rfl rfl Tryd.func60 (by kernel_rfl) rfl #[.agg #[.string ((rd_T54 l0 x13_1).f0), .int .i64 ((rd_T54 l0 x13_1).f1), .int .i64 ((rd_T54 l0 x13_1).f2), .int .i64 ((rd_T54 l0 x13_1).f3), .int .i64 ((rd_T54 l0 x13_1).f4), .slice A120_5 ((rd_T54 l0 x13_1).f5).length c120_5, .slice A120_6 ((rd_T54 l0 x13_1).f6).length c120_6]] rfl (by first | rfl | (simp only [List.map_toArray]; rfl)) ?_; (with_reducible refine (product_sized.calls k1 ((rd_T54 l0 x13_1).f0) ((rd_T54 l0 x13_1).f1) ((rd_T54 l0 x13_1).f2) ((rd_T54 l0 x13_1).f3) ((rd_T54 l0 x13_1).f4) _ _ ((rd_T54 l0 x13_1).f5) _ _ ((rd_T54 l0 x13_1).f6) false _ ?side1 ?side2 ?side3 ?side4 A18.out).mono ?_); (case side1 => repeat (first | exact (Kd.C_below HR120_5.out HB.out) | (with_reducible refine Kd.C_alloc ?_ _) | (with_reducible refine Kd.C_drewN ?_ _) | (with_reducible refine Kd.C_drew ?_))); (case side2 => exact HC120_5.out); (case side3 => repeat (first | exact (Kd.C_below HR120_6.out HB.out) | (with_reducible refine Kd.C_alloc ?_ _) | (with_reducible refine Kd.C_drewN ?_ _) | (with_reducible refine Kd.C_drew ?_))); (case side4 => exact HC120_6.out); rintro e w49 ⟨rfl, hb⟩; refine ⟨_, rfl, ?_⟩; have n0_ := q_ (bB (g := gb121) (by (with_reducible repeat (first | refine bN ?_ _ | refine bW ?_ | refine bA ?_ _)); exact BK121.out) hb); have n1_ := q_ (pT (by repeat (first | (with_reducible first | exact HB.out | apply pA | apply pN | apply p1 | refine pS ?_ GE121.out) | exact HB.out)) hb); clear BK121; clear HB; have BK121 := n0_; have HB := n1_; clear n0_ n1_; (try clear hb); (try clear hb2); (try clear hk); (try clear hi)))
           go_ret
           exact ⟨by first | rfl | (simp [*] <;> rfl), by repeat (first | (with_reducible first | exact HB.out | apply pA | apply pN | apply p1 | refine pS ?_ GE121.out) | exact HB.out)⟩
        ·rw [if_neg c9] at H
         exact absurd H (by simp)
       ·replace c7 := Bool.eq_false_iff.mpr c7
        subst c7
        have H1 : (some 6) = some r := by rw [if_neg (show ¬ (false = true) by decide)] at H; exact H
        clear H
        have H := H1
        clear H1
        obtain rfl := Option.some.inj H
        have p120 : 0 ≤ (x13_1 : Int) := of_decide_eq_true (by first | (with_reducible assumption) | assumption)
        have q120 : x13_1 < (l0.length : Int) := of_decide_eq_true (by first | (with_reducible assumption) | assumption)
        obtain ⟨ad120, A120_5, c120_5, A120_6, c120_6, e120, hx120_0, hx120_1, hx120_2, hx120_3, hx120_4, hx120_5, hx120_6, hl120_5, hi120_5, hl120_6, hi120_6⟩ := at_T54 HR0.out x13_1 p120 q120
        cases e120
        replace hx120_0 := (HB.out.cell (World.block_lt_of_cell? w _ hx120_0)).trans hx120_0
        replace hx120_1 := (HB.out.cell (World.block_lt_of_cell? w _ hx120_1)).trans hx120_1
        replace hx120_2 := (HB.out.cell (World.block_lt_of_cell? w _ hx120_2)).trans hx120_2
        replace hx120_3 := (HB.out.cell (World.block_lt_of_cell? w _ hx120_3)).trans hx120_3
        replace hx120_4 := (HB.out.cell (World.block_lt_of_cell? w _ hx120_4)).trans hx120_4
        replace hx120_5 := (HB.out.cell (World.block_lt_of_cell? w _ hx120_5)).trans hx120_5
        replace hx120_6 := (HB.out.cell (World.block_lt_of_cell? w _ hx120_6)).trans hx120_6
        have HR120_5 := Aside0.mk hi120_5
        have HC120_5 := Aside0.mk hl120_5
        clear hi120_5 hl120_5
        have HR120_6 := Aside0.mk hi120_6
        have HC120_6 := Aside0.mk hl120_6
        clear hi120_6 hl120_6
        replace p120 := eq_true p120
        replace q120 := eq_true q120
        go_wp2_with (first | ((with_reducible refine gate_dst (N := 4) rfl ?_); refine box_event ?hg (N := 4) ?hd (cs := #[.string (⟨#[]⟩ : ByteArray), .int .i64 0, .int .i64 0, .int .i64 0, .int .i64 0, .slice none 0 0, .slice none 0 0]) (t := 54) ?hr ?_; (case hd => rfl); (case hg => rfl); (case hr => first | (go_simp; done) | (go_simp; rfl)); intro gb121 hg w50 hbox hb; have n0_ := q_ (pT (by repeat (first | (with_reducible first | exact HB.out | apply pA | apply pN | apply p1) | exact HB.out)) hb); have n1_ := q_ (hbox); have n2_ := q_ ((by rw [hg]; exact (pZ (by repeat (first | (with_reducible first | exact HB.out | apply pA | apply pN | apply p1) | exact HB.out))) : w.heap.size ≤ gb121)); have n3_ := n2_; clear HB; have HB := n0_; have BK121 := n1_; have GW121 := n2_; have GE121 := n3_; clear n0_ n1_ n2_ n3_; clear hb hbox hg; have hcz51 := blk_all BK121.out; simp only [CellsAt, List.toList_toArray, Nat.reduceAdd, and_true] at hcz51; have hfz51 := bF BK121.out) | ((with_reducible refine gate_callee (f := 29) rfl ?_); refine goesL_ (some 20) rfl rfl Tryd.func29 (by kernel_rfl) rfl #[.string ((rd_T54 l0 x13_1).f0)] rfl (by first | rfl | (simp only [List.map_toArray]; rfl)) ?_; (with_reducible refine (ident_IsName.calls k1 ((rd_T54 l0 x13_1).f0) false _ A6.out).mono ?_); rintro e w' ⟨rfl, ⟨nd, rfl⟩⟩; refine ⟨_, rfl, ?_⟩))
        go_ret
        exact ⟨by first | rfl | (simp [*] <;> rfl), by repeat (first | (with_reducible first | exact HB.out | apply pA | apply pN | apply p1 | refine pS ?_ GE121.out) | exact HB.out)⟩
      ·rw [if_neg c5] at H
       exact absurd H (by simp)
     ·rw [if_neg c4] at H
      exact absurd H (by simp)
    ·rw [if_neg c3] at H
     have c3b0 : decide (x13_1 < (l0.length : Int)) = false := decide_eq_false c3
     clear c3
     obtain rfl := Option.some.inj H
     go_wp2
     go_ret
     exact ⟨by first | rfl | (simp [*] <;> rfl), by repeat (first | (with_reducible first | exact HB.out | apply pA | apply pN | apply p1) | exact HB.out)⟩
end Go.Proofs.YtblmgmhjlbkncaaDoor.PA
namespace Go.Proofs.YtblmgmhjlbkncaaDoor.PA
open Go.RowKit Go.Proofs.YtblmgmhjlbkncaaDoorW.PrintWords Go.Proofs.YtblmgmhjlbkncaaDoorW.PrintLast Go.Proofs.YtblmgmhjlbkncaaDoorW.PrintMore
attribute [local go_sem] max2_int min2_int max_two min_two max_three min_three max_four min_four
set_option linter.unusedVariables false
set_option linter.unusedSimpArgs false
mutual
def order_Check.j0 : Nat → List (S54) → Bool → ByteArray → ByteArray → Int → Int → Int → Int → Int → Int → Int → Int → Int → Option (Int)
 | 0, _, _, _, _, _, _, _, _, _, _, _, _, _ => none
 | k + 1, x1, x11, x138000, x138001, x138002, x138003, x138004, x138005, x138006, x138007, x138008, x138009, x138010 => if x11 = true then (some 6) else (if x138002 < 0 then (order_Check.j1 k x1 true x138000 x138001 x138002 x138003 x138004 x138005 x138006 x138007 x138008 x138009 x138010) else (order_Check.j1 k x1 (decide (x138002 ≥ (x1.length : Int))) x138000 x138001 x138002 x138003 x138004 x138005 x138006 x138007 x138008 x138009 x138010))
def order_Check.j1 : Nat → List (S54) → Bool → ByteArray → ByteArray → Int → Int → Int → Int → Int → Int → Int → Int → Int → Option (Int)
 | 0, _, _, _, _, _, _, _, _, _, _, _, _, _ => none
 | k + 1, x1, x22, x138000, x138001, x138002, x138003, x138004, x138005, x138006, x138007, x138008, x138009, x138010 => if x22 = true then (some 8) else (if 0 ≤ x138002 then (if x138002 < (x1.length : Int) then ((slices_Contains_int_int.f k ((rd_T54 x1 x138002).f5) x138003).bind fun t142 => (if t142 = true then (if x138004 < 1 then (order_Check.j2 k true x138000 x138001 x138002 x138003 x138004 x138005 x138006 x138007 x138008 x138009 x138010) else (order_Check.j2 k (decide (x138004 > 9)) x138000 x138001 x138002 x138003 x138004 x138005 x138006 x138007 x138008 x138009 x138010)) else (some 20))) else (none)) else (none))
def order_Check.j2 : Nat → Bool → ByteArray → ByteArray → Int → Int → Int → Int → Int → Int → Int → Int → Int → Option (Int)
 | 0, _, _, _, _, _, _, _, _, _, _, _, _ => none
 | k + 1, x44, x138000, x138001, x138002, x138003, x138004, x138005, x138006, x138007, x138008, x138009, x138010 => if x44 = true then (some 26) else (if x138005 < 0 then (order_Check.j3 k true x138000 x138001 x138002 x138003 x138004 x138005 x138006 x138007 x138008 x138009 x138010) else (order_Check.j3 k (decide (x138005 > 20000)) x138000 x138001 x138002 x138003 x138004 x138005 x138006 x138007 x138008 x138009 x138010))
def order_Check.j3 : Nat → Bool → ByteArray → ByteArray → Int → Int → Int → Int → Int → Int → Int → Int → Int → Option (Int)
 | 0, _, _, _, _, _, _, _, _, _, _, _, _ => none
 | k + 1, x53, x138000, x138001, x138002, x138003, x138004, x138005, x138006, x138007, x138008, x138009, x138010 => if x53 = true then (some 25) else ((order_sound.f x138000 x138001 x138002 x138003 x138004 x138005 x138006 x138007 x138008 x138009 x138010).bind fun t143 => (if t143 = true then (if x138009 < 0 then (some 9) else (if x138009 > 1000000000 then (some 9) else (if x138010 < 0 then (some 9) else (if x138010 > 10000000 then (some 9) else (some 0))))) else (some 9)))
end
def order_Check.f (k : Nat) (a0_0 : ByteArray) (a0_1 : ByteArray) (a0_2 : Int) (a0_3 : Int) (a0_4 : Int) (a0_5 : Int) (a0_6 : Int) (a0_7 : Int) (a0_8 : Int) (a0_9 : Int) (a0_10 : Int) (l1 : List (S54)) : Option (Int) := (product_Check.f k l1).bind fun t138 => (if t138 = 0 then ((ident_Is.f k a0_0 79).bind fun t139 => (if t139 = true then ((ident_IsName.f k a0_1).bind fun t140 => (order_Check.j0 k l1 (!t140) a0_0 a0_1 a0_2 a0_3 a0_4 a0_5 a0_6 a0_7 a0_8 a0_9 a0_10)) else (order_Check.j0 k l1 true a0_0 a0_1 a0_2 a0_3 a0_4 a0_5 a0_6 a0_7 a0_8 a0_9 a0_10))) else (some t138))
set_option maxHeartbeats 8000000 in
set_option maxRecDepth 100000 in
theorem order_Check.calls (k : Nat) (a0_0 : ByteArray) (a0_1 : ByteArray) (a0_2 : Int) (a0_3 : Int) (a0_4 : Int) (a0_5 : Int) (a0_6 : Int) (a0_7 : Int) (a0_8 : Int) (a0_9 : Int) (a0_10 : Int) (A1 : Option Addr) (c1 : Nat) (l1 : List (S54)) (r : Int) (w : World) (hr1 : Kd.C k54 w A1 l1.length l1) (hc1 : l1.length ≤ c1) (h : order_Check.f k a0_0 a0_1 a0_2 a0_3 a0_4 a0_5 a0_6 a0_7 a0_8 a0_9 a0_10 l1 = some r) :
  Calls Tryd.prog 12 #[.agg #[.string a0_0, .string a0_1, .int .i64 a0_2, .int .i64 a0_3, .int .i64 a0_4, .int .i64 a0_5, .int .i64 a0_6, .int .i64 a0_7, .int .i64 a0_8, .int .i64 a0_9, .int .i64 a0_10], .slice A1 l1.length c1] w fun e w' => e = .returned (.int .i64 r) ∧ Below w.heap.size w w' := by
 have hu23 := Tryd.underlying23
 have HR1 := Aside0.mk hr1
 have HC1 := Aside0.mk hc1
 clear hr1 hc1
 have HB := q_ (Below.refl w.heap.size w)
 have H : ((product_Check.f k l1).bind fun t138 => (if t138 = 0 then ((ident_Is.f k a0_0 79).bind fun t139 => (if t139 = true then ((ident_IsName.f k a0_1).bind fun t140 => (order_Check.j0 k l1 (!t140) a0_0 a0_1 a0_2 a0_3 a0_4 a0_5 a0_6 a0_7 a0_8 a0_9 a0_10)) else (order_Check.j0 k l1 true a0_0 a0_1 a0_2 a0_3 a0_4 a0_5 a0_6 a0_7 a0_8 a0_9 a0_10))) else (some t138))) = some r := h
 clear h
 replace H := oB H
 obtain ⟨t138, A30, H⟩ := H
 replace H : (if t138 = 0 then ((ident_Is.f k a0_0 79).bind fun t139 => (if t139 = true then ((ident_IsName.f k a0_1).bind fun t140 => (order_Check.j0 k l1 (!t140) a0_0 a0_1 a0_2 a0_3 a0_4 a0_5 a0_6 a0_7 a0_8 a0_9 a0_10)) else (order_Check.j0 k l1 true a0_0 a0_1 a0_2 a0_3 a0_4 a0_5 a0_6 a0_7 a0_8 a0_9 a0_10))) else (some t138)) = some r := H
 have A3 := Aside0.mk A30
 clear A30
 by_cases c4 : t138 = 0
 ·rw [if_pos c4] at H
  have c4b0 : (t138 == 0) = true := beq_iff_eq.mpr c4
  have c4b1 : (t138 != 0) = false := oD c4
  clear c4
  have HC5 := Aside0.mk H
  clear H
  go_enter Tryd.func12, Tryd.ntmps12
  go_upto_region 4 with (first | ((with_reducible refine gate_dst (N := 2) rfl ?_); (try (refine gate_guard (by rfl) ?_; dsimp only)); refine box_event ?hg (N := 2) ?hd (cs := #[.string a0_0, .string a0_1, .int .i64 a0_2, .int .i64 a0_3, .int .i64 a0_4, .int .i64 a0_5, .int .i64 a0_6, .int .i64 a0_7, .int .i64 a0_8, .int .i64 a0_9, .int .i64 a0_10]) (t := 23) ?hr ?_; (case hd => rfl); (case hg => rfl); (case hr => first | (go_simp; done) | (go_simp; rfl)); intro gb137 hg w6 hbox hb; have n0_ := q_ (pT (by repeat (first | (with_reducible first | exact HB.out | apply pA | apply pN | apply p1) | exact HB.out)) hb); have n1_ := q_ (hbox); have n2_ := q_ ((by rw [hg]; exact (pZ (by repeat (first | (with_reducible first | exact HB.out | apply pA | apply pN | apply p1) | exact HB.out))) : w.heap.size ≤ gb137)); have n3_ := n2_; clear HB; have HB := n0_; have BK137 := n1_; have GW137 := n2_; have GE137 := n3_; clear n0_ n1_ n2_ n3_; clear hb hbox hg) | (go_at_call 27; (with_reducible refine (product_Check.calls k _ _ l1 t138 _ ?side1 ?side2 A3.out).mono ?_); (case side1 => repeat (first | exact (Kd.C_below HR1.out HB.out) | (with_reducible refine Kd.C_alloc ?_ _) | (with_reducible refine Kd.C_drewN ?_ _) | (with_reducible refine Kd.C_drew ?_))); (case side2 => exact HC1.out); rintro e w7 ⟨rfl, hb⟩; have n0_ := q_ (bB (g := gb137) (by (with_reducible repeat (first | refine bN ?_ _ | refine bW ?_ | refine bA ?_ _)); exact BK137.out) hb); have n1_ := q_ (pT (by repeat (first | (with_reducible first | exact HB.out | apply pA | apply pN | apply p1 | refine pS ?_ GE137.out) | exact HB.out)) hb); clear BK137; clear HB; have BK137 := n0_; have HB := n1_; clear n0_ n1_; (try clear hb); (try clear hb2); (try clear hk); (try clear hi)))
  repeat (go_quiet (first | ((with_reducible refine gate_dst (N := 2) rfl ?_); (try (refine gate_guard (by rfl) ?_; dsimp only)); refine box_event ?hg (N := 2) ?hd (cs := #[.string a0_0, .string a0_1, .int .i64 a0_2, .int .i64 a0_3, .int .i64 a0_4, .int .i64 a0_5, .int .i64 a0_6, .int .i64 a0_7, .int .i64 a0_8, .int .i64 a0_9, .int .i64 a0_10]) (t := 23) ?hr ?_; (case hd => rfl); (case hg => rfl); (case hr => first | (go_simp; done) | (go_simp; rfl)); intro gb137 hg w6 hbox hb; have n0_ := q_ (pT (by repeat (first | (with_reducible first | exact HB.out | apply pA | apply pN | apply p1) | exact HB.out)) hb); have n1_ := q_ (hbox); have n2_ := q_ ((by rw [hg]; exact (pZ (by repeat (first | (with_reducible first | exact HB.out | apply pA | apply pN | apply p1) | exact HB.out))) : w.heap.size ≤ gb137)); have n3_ := n2_; clear HB; have HB := n0_; have BK137 := n1_; have GW137 := n2_; have GE137 := n3_; clear n0_ n1_ n2_ n3_; clear hb hbox hg) | (go_at_call 27; (with_reducible refine (product_Check.calls k _ _ l1 t138 _ ?side1 ?side2 A3.out).mono ?_); (case side1 => repeat (first | exact (Kd.C_below HR1.out HB.out) | (with_reducible refine Kd.C_alloc ?_ _) | (with_reducible refine Kd.C_drewN ?_ _) | (with_reducible refine Kd.C_drew ?_))); (case side2 => exact HC1.out); rintro e w7 ⟨rfl, hb⟩; have n0_ := q_ (bB (g := gb137) (by (with_reducible repeat (first | refine bN ?_ _ | refine bW ?_ | refine bA ?_ _)); exact BK137.out) hb); have n1_ := q_ (pT (by repeat (first | (with_reducible first | exact HB.out | apply pA | apply pN | apply p1 | refine pS ?_ GE137.out) | exact HB.out)) hb); clear BK137; clear HB; have BK137 := n0_; have HB := n1_; clear n0_ n1_; (try clear hb); (try clear hb2); (try clear hk); (try clear hi))); go_upto_region 4 with (first | ((with_reducible refine gate_dst (N := 2) rfl ?_); (try (refine gate_guard (by rfl) ?_; dsimp only)); refine box_event ?hg (N := 2) ?hd (cs := #[.string a0_0, .string a0_1, .int .i64 a0_2, .int .i64 a0_3, .int .i64 a0_4, .int .i64 a0_5, .int .i64 a0_6, .int .i64 a0_7, .int .i64 a0_8, .int .i64 a0_9, .int .i64 a0_10]) (t := 23) ?hr ?_; (case hd => rfl); (case hg => rfl); (case hr => first | (go_simp; done) | (go_simp; rfl)); intro gb137 hg w6 hbox hb; have n0_ := q_ (pT (by repeat (first | (with_reducible first | exact HB.out | apply pA | apply pN | apply p1) | exact HB.out)) hb); have n1_ := q_ (hbox); have n2_ := q_ ((by rw [hg]; exact (pZ (by repeat (first | (with_reducible first | exact HB.out | apply pA | apply pN | apply p1) | exact HB.out))) : w.heap.size ≤ gb137)); have n3_ := n2_; clear HB; have HB := n0_; have BK137 := n1_; have GW137 := n2_; have GE137 := n3_; clear n0_ n1_ n2_ n3_; clear hb hbox hg) | (go_at_call 27; (with_reducible refine (product_Check.calls k _ _ l1 t138 _ ?side1 ?side2 A3.out).mono ?_); (case side1 => repeat (first | exact (Kd.C_below HR1.out HB.out) | (with_reducible refine Kd.C_alloc ?_ _) | (with_reducible refine Kd.C_drewN ?_ _) | (with_reducible refine Kd.C_drew ?_))); (case side2 => exact HC1.out); rintro e w7 ⟨rfl, hb⟩; have n0_ := q_ (bB (g := gb137) (by (with_reducible repeat (first | refine bN ?_ _ | refine bW ?_ | refine bA ?_ _)); exact BK137.out) hb); have n1_ := q_ (pT (by repeat (first | (with_reducible first | exact HB.out | apply pA | apply pN | apply p1 | refine pS ?_ GE137.out) | exact HB.out)) hb); clear BK137; clear HB; have BK137 := n0_; have HB := n1_; clear n0_ n1_; (try clear hb); (try clear hb2); (try clear hk); (try clear hi))))
  (try simp only [Act.put, List.setIfInBounds_toArray, List.set_cons_zero, List.set_cons_succ])
  go_cut [11] (fun v11 wc => ∃ (kq : Nat) (x11_4 : Bool), v11 = .bool x11_4 ∧ Aside0 (order_Check.j0 kq l1 x11_4 a0_0 a0_1 a0_2 a0_3 a0_4 a0_5 a0_6 a0_7 a0_8 a0_9 a0_10 = some r) ∧ Aside0 (kq ≤ k) ∧ Aside0 (wc.heap[gb137]? = some (.cells #[.string a0_0, .string a0_1, .int .i64 a0_2, .int .i64 a0_3, .int .i64 a0_4, .int .i64 a0_5, .int .i64 a0_6, .int .i64 a0_7, .int .i64 a0_8, .int .i64 a0_9, .int .i64 a0_10] 23 (0, 0))) ∧ Aside0 (Below w.heap.size w wc))
  case first =>
   have H := HC5.out
   clear HC5
   replace H := oB H
   obtain ⟨t139, A80, H⟩ := H
   replace H : (if t139 = true then ((ident_IsName.f k a0_1).bind fun t140 => (order_Check.j0 k l1 (!t140) a0_0 a0_1 a0_2 a0_3 a0_4 a0_5 a0_6 a0_7 a0_8 a0_9 a0_10)) else (order_Check.j0 k l1 true a0_0 a0_1 a0_2 a0_3 a0_4 a0_5 a0_6 a0_7 a0_8 a0_9 a0_10)) = some r := H
   have A8 := Aside0.mk A80
   clear A80
   by_cases c9 : t139 = true
   ·subst c9
    have H1 : ((ident_IsName.f k a0_1).bind fun t140 => (order_Check.j0 k l1 (!t140) a0_0 a0_1 a0_2 a0_3 a0_4 a0_5 a0_6 a0_7 a0_8 a0_9 a0_10)) = some r := by rw [if_pos rfl] at H; exact H
    clear H
    have H := H1
    clear H1
    replace H := oB H
    obtain ⟨t140, A100, H⟩ := H
    replace H : (order_Check.j0 k l1 (!t140) a0_0 a0_1 a0_2 a0_3 a0_4 a0_5 a0_6 a0_7 a0_8 a0_9 a0_10) = some r := H
    have A10 := Aside0.mk A100
    clear A100
    have H' := Aside0.mk H
    clear H
    have hcz11 := blk_all BK137.out
    simp only [CellsAt, List.toList_toArray, Nat.reduceAdd, and_true] at hcz11
    have hfz11 := bF BK137.out
    go_wp2_with (first | (go_at_call 28; (with_reducible refine (ident_Is.calls k a0_0 79 true _ A8.out).mono ?_); rintro e w12 ⟨rfl, hb⟩; have n0_ := q_ (bB (g := gb137) (by (with_reducible repeat (first | refine bN ?_ _ | refine bW ?_ | refine bA ?_ _)); exact BK137.out) hb); have n1_ := q_ (pT (by repeat (first | (with_reducible first | exact HB.out | apply pA | apply pN | apply p1 | refine pS ?_ GE137.out) | exact HB.out)) hb); clear BK137; clear HB; have BK137 := n0_; have HB := n1_; clear n0_ n1_; (try clear hb); (try clear hb2); (try clear hk); (try clear hi); have hcz13 := blk_all BK137.out; simp only [CellsAt, List.toList_toArray, Nat.reduceAdd, and_true] at hcz13; have hfz13 := bF BK137.out) | (go_at_call 29; (with_reducible refine (ident_IsName.calls k a0_1 t140 _ A10.out).mono ?_); rintro e w' ⟨rfl, ⟨nd, rfl⟩⟩; (try first | exact ⟨rfl, _, World.drewN_drewN _ _ _⟩ | exact ⟨rfl, _, Eq.trans (World.drewN_drewN _ _ _) (congrArg (World.drewN _) (Nat.add_assoc _ _ _))⟩)))
    repeat (go_quiet (first | (go_at_call 28; (with_reducible refine (ident_Is.calls k a0_0 79 true _ A8.out).mono ?_); rintro e w12 ⟨rfl, hb⟩; have n0_ := q_ (bB (g := gb137) (by (with_reducible repeat (first | refine bN ?_ _ | refine bW ?_ | refine bA ?_ _)); exact BK137.out) hb); have n1_ := q_ (pT (by repeat (first | (with_reducible first | exact HB.out | apply pA | apply pN | apply p1 | refine pS ?_ GE137.out) | exact HB.out)) hb); clear BK137; clear HB; have BK137 := n0_; have HB := n1_; clear n0_ n1_; (try clear hb); (try clear hb2); (try clear hk); (try clear hi); have hcz13 := blk_all BK137.out; simp only [CellsAt, List.toList_toArray, Nat.reduceAdd, and_true] at hcz13; have hfz13 := bF BK137.out) | (go_at_call 29; (with_reducible refine (ident_IsName.calls k a0_1 t140 _ A10.out).mono ?_); rintro e w' ⟨rfl, ⟨nd, rfl⟩⟩; (try first | exact ⟨rfl, _, World.drewN_drewN _ _ _⟩ | exact ⟨rfl, _, Eq.trans (World.drewN_drewN _ _ _) (congrArg (World.drewN _) (Nat.add_assoc _ _ _))⟩))); try go_wp2_with (first | (go_at_call 28; (with_reducible refine (ident_Is.calls k a0_0 79 true _ A8.out).mono ?_); rintro e w12 ⟨rfl, hb⟩; have n0_ := q_ (bB (g := gb137) (by (with_reducible repeat (first | refine bN ?_ _ | refine bW ?_ | refine bA ?_ _)); exact BK137.out) hb); have n1_ := q_ (pT (by repeat (first | (with_reducible first | exact HB.out | apply pA | apply pN | apply p1 | refine pS ?_ GE137.out) | exact HB.out)) hb); clear BK137; clear HB; have BK137 := n0_; have HB := n1_; clear n0_ n1_; (try clear hb); (try clear hb2); (try clear hk); (try clear hi); have hcz13 := blk_all BK137.out; simp only [CellsAt, List.toList_toArray, Nat.reduceAdd, and_true] at hcz13; have hfz13 := bF BK137.out) | (go_at_call 29; (with_reducible refine (ident_IsName.calls k a0_1 t140 _ A10.out).mono ?_); rintro e w' ⟨rfl, ⟨nd, rfl⟩⟩; (try first | exact ⟨rfl, _, World.drewN_drewN _ _ _⟩ | exact ⟨rfl, _, Eq.trans (World.drewN_drewN _ _ _) (congrArg (World.drewN _) (Nat.add_assoc _ _ _))⟩))))
    go_meet
    case rel => exact ⟨_, (!t140), (by first | rfl | (simp; done) | (simp [*]; done)), H', ⟨by first | omega | exact Nat.le_refl _⟩, ⟨by (with_reducible repeat (first | refine bN ?_ _ | refine bW ?_ | refine bA ?_ _)); exact BK137.out⟩, ⟨by repeat (first | (with_reducible first | exact HB.out | apply pA | apply pN | apply p1 | refine pS ?_ GE137.out) | exact HB.out)⟩⟩
   ·replace c9 := Bool.eq_false_iff.mpr c9
    subst c9
    have H1 : (order_Check.j0 k l1 true a0_0 a0_1 a0_2 a0_3 a0_4 a0_5 a0_6 a0_7 a0_8 a0_9 a0_10) = some r := by rw [if_neg (show ¬ (false = true) by decide)] at H; exact H
    clear H
    have H := H1
    clear H1
    have H' := Aside0.mk H
    clear H
    have hcz14 := blk_all BK137.out
    simp only [CellsAt, List.toList_toArray, Nat.reduceAdd, and_true] at hcz14
    have hfz14 := bF BK137.out
    go_wp2_with (first | (go_at_call 28; (with_reducible refine (ident_Is.calls k a0_0 79 false _ A8.out).mono ?_); rintro e w15 ⟨rfl, hb⟩; have n0_ := q_ (bB (g := gb137) (by (with_reducible repeat (first | refine bN ?_ _ | refine bW ?_ | refine bA ?_ _)); exact BK137.out) hb); have n1_ := q_ (pT (by repeat (first | (with_reducible first | exact HB.out | apply pA | apply pN | apply p1 | refine pS ?_ GE137.out) | exact HB.out)) hb); clear BK137; clear HB; have BK137 := n0_; have HB := n1_; clear n0_ n1_; (try clear hb); (try clear hb2); (try clear hk); (try clear hi)))
    repeat (go_quiet (first | (go_at_call 28; (with_reducible refine (ident_Is.calls k a0_0 79 false _ A8.out).mono ?_); rintro e w15 ⟨rfl, hb⟩; have n0_ := q_ (bB (g := gb137) (by (with_reducible repeat (first | refine bN ?_ _ | refine bW ?_ | refine bA ?_ _)); exact BK137.out) hb); have n1_ := q_ (pT (by repeat (first | (with_reducible first | exact HB.out | apply pA | apply pN | apply p1 | refine pS ?_ GE137.out) | exact HB.out)) hb); clear BK137; clear HB; have BK137 := n0_; have HB := n1_; clear n0_ n1_; (try clear hb); (try clear hb2); (try clear hk); (try clear hi))); try go_wp2_with (first | (go_at_call 28; (with_reducible refine (ident_Is.calls k a0_0 79 false _ A8.out).mono ?_); rintro e w15 ⟨rfl, hb⟩; have n0_ := q_ (bB (g := gb137) (by (with_reducible repeat (first | refine bN ?_ _ | refine bW ?_ | refine bA ?_ _)); exact BK137.out) hb); have n1_ := q_ (pT (by repeat (first | (with_reducible first | exact HB.out | apply pA | apply pN | apply p1 | refine pS ?_ GE137.out) | exact HB.out)) hb); clear BK137; clear HB; have BK137 := n0_; have HB := n1_; clear n0_ n1_; (try clear hb); (try clear hb2); (try clear hk); (try clear hi))))
    go_meet
    case rel => exact ⟨_, (true), (by first | rfl | (simp; done) | (simp [*]; done)), H', ⟨by first | omega | exact Nat.le_refl _⟩, ⟨by (with_reducible repeat (first | refine bN ?_ _ | refine bW ?_ | refine bA ?_ _)); exact BK137.out⟩, ⟨by repeat (first | (with_reducible first | exact HB.out | apply pA | apply pN | apply p1 | refine pS ?_ GE137.out) | exact HB.out)⟩⟩
  case rest =>
   clear HC5
   try clear c1
   try clear p2
   try clear c4
   try clear c4b0
   try clear c4b1
   try clear c9
   try clear c12
   try clear hcz11
   try clear hcz13
   try clear hcz14
   try clear hfz11
   try clear hfz13
   try clear hfz14
   obtain ⟨kq, x11_4, rfl, HA, HJ4, BK137, HB⟩ := hcut
   cases kq with
   | zero => exact absurd HA.out (by simp [order_Check.j0])
   | succ kj4 =>
    have H := HA.out
    clear HA
    simp only [order_Check.j0] at H
    by_cases c16 : x11_4 = true
    ·subst c16
     have H1 : (some 6) = some r := by rw [if_pos rfl] at H; exact H
     clear H
     have H := H1
     clear H1
     obtain rfl := Option.some.inj H
     go_wp2
     repeat (go_quiet (fail); try go_wp2)
     go_ret
     exact ⟨by first | rfl | (simp [*] <;> rfl), by repeat (first | (with_reducible first | exact HB.out | apply pA | apply pN | apply p1 | refine pS ?_ GE137.out) | exact HB.out)⟩
    ·replace c16 := Bool.eq_false_iff.mpr c16
     subst c16
     have H1 : (if a0_2 < 0 then (order_Check.j1 kj4 l1 true a0_0 a0_1 a0_2 a0_3 a0_4 a0_5 a0_6 a0_7 a0_8 a0_9 a0_10) else (order_Check.j1 kj4 l1 (decide (a0_2 ≥ (l1.length : Int))) a0_0 a0_1 a0_2 a0_3 a0_4 a0_5 a0_6 a0_7 a0_8 a0_9 a0_10)) = some r := by rw [if_neg (show ¬ (false = true) by decide)] at H; exact H
     clear H
     have H := H1
     clear H1
     have HC17 := Aside0.mk H
     clear H
     go_upto_region 6 with (fail)
     repeat (go_quiet (fail); go_upto_region 6 with (fail))
     go_cut [22] (fun v22 wc => ∃ (kq : Nat) (x22_16 : Bool), v22 = .bool x22_16 ∧ Aside0 (order_Check.j1 kq l1 x22_16 a0_0 a0_1 a0_2 a0_3 a0_4 a0_5 a0_6 a0_7 a0_8 a0_9 a0_10 = some r) ∧ Aside0 (kq ≤ kj4) ∧ Aside0 (wc.heap[gb137]? = some (.cells #[.string a0_0, .string a0_1, .int .i64 a0_2, .int .i64 a0_3, .int .i64 a0_4, .int .i64 a0_5, .int .i64 a0_6, .int .i64 a0_7, .int .i64 a0_8, .int .i64 a0_9, .int .i64 a0_10] 23 (0, 0))) ∧ Aside0 (Below w.heap.size w wc))
     case first =>
      have H := HC17.out
      clear HC17
      by_cases c18 : a0_2 < 0
      ·rw [if_pos c18] at H
       have c18b0 : decide (a0_2 < 0) = true := decide_eq_true c18
       clear c18
       (first | rw [c18b0] | (simp only [i64_w, i32_w]; rw [c18b0]) | skip)
       have H' := Aside0.mk H
       clear H
       have hcz19 := blk_all BK137.out
       simp only [CellsAt, List.toList_toArray, Nat.reduceAdd, and_true] at hcz19
       have hfz19 := bF BK137.out
       go_wp2
       repeat (go_quiet (fail); try go_wp2)
       go_meet
       case rel => exact ⟨_, (true), (by first | rfl | (simp; done) | (simp [*]; done)), H', ⟨by have := HJ4.out; first | omega | exact Nat.le_refl _⟩, ⟨by (with_reducible repeat (first | refine bN ?_ _ | refine bW ?_ | refine bA ?_ _)); exact BK137.out⟩, ⟨by repeat (first | (with_reducible first | exact HB.out | apply pA | apply pN | apply p1 | refine pS ?_ GE137.out) | exact HB.out)⟩⟩
      ·rw [if_neg c18] at H
       have c18b0 : decide (a0_2 < 0) = false := decide_eq_false c18
       clear c18
       (first | rw [c18b0] | (simp only [i64_w, i32_w]; rw [c18b0]) | skip)
       have H' := Aside0.mk H
       clear H
       have hcz20 := blk_all BK137.out
       simp only [CellsAt, List.toList_toArray, Nat.reduceAdd, and_true] at hcz20
       have hfz20 := bF BK137.out
       go_wp2
       repeat (go_quiet (fail); try go_wp2)
       go_meet
       case rel => exact ⟨_, (decide (a0_2 ≥ (l1.length : Int))), (by first | rfl | (simp; done) | (simp [*]; done)), H', ⟨by have := HJ4.out; first | omega | exact Nat.le_refl _⟩, ⟨by (with_reducible repeat (first | refine bN ?_ _ | refine bW ?_ | refine bA ?_ _)); exact BK137.out⟩, ⟨by repeat (first | (with_reducible first | exact HB.out | apply pA | apply pN | apply p1 | refine pS ?_ GE137.out) | exact HB.out)⟩⟩
     case rest =>
      clear HC17
      try clear c1
      try clear p2
      try clear c4
      try clear c4b0
      try clear c4b1
      try clear c9
      try clear c12
      try clear c16
      try clear c18
      try clear c18b0
      try clear hcz11
      try clear hcz13
      try clear hcz14
      try clear hcz19
      try clear hcz20
      try clear hfz11
      try clear hfz13
      try clear hfz14
      try clear hfz19
      try clear hfz20
      try clear p2
      obtain ⟨kq, x22_16, rfl, HA, HJ16, BK137, HB⟩ := hcut
      cases kq with
      | zero => exact absurd HA.out (by simp [order_Check.j1])
      | succ kj16 =>
       have H := HA.out
       clear HA
       simp only [order_Check.j1] at H
       by_cases c21 : x22_16 = true
       ·subst c21
        have H1 : (some 8) = some r := by rw [if_pos rfl] at H; exact H
        clear H
        have H := H1
        clear H1
        obtain rfl := Option.some.inj H
        go_wp2
        repeat (go_quiet (fail); try go_wp2)
        go_ret
        exact ⟨by first | rfl | (simp [*] <;> rfl), by repeat (first | (with_reducible first | exact HB.out | apply pA | apply pN | apply p1 | refine pS ?_ GE137.out) | exact HB.out)⟩
       ·replace c21 := Bool.eq_false_iff.mpr c21
        subst c21
        have H1 : (if 0 ≤ a0_2 then (if a0_2 < (l1.length : Int) then ((slices_Contains_int_int.f kj16 ((rd_T54 l1 a0_2).f5) a0_3).bind fun t142 => (if t142 = true then (if a0_4 < 1 then (order_Check.j2 kj16 true a0_0 a0_1 a0_2 a0_3 a0_4 a0_5 a0_6 a0_7 a0_8 a0_9 a0_10) else (order_Check.j2 kj16 (decide (a0_4 > 9)) a0_0 a0_1 a0_2 a0_3 a0_4 a0_5 a0_6 a0_7 a0_8 a0_9 a0_10)) else (some 20))) else (none)) else (none)) = some r := by rw [if_neg (show ¬ (false = true) by decide)] at H; exact H
        clear H
        have H := H1
        clear H1
        by_cases c22 : 0 ≤ a0_2
        ·rw [if_pos c22] at H
         have c22b0 : decide (0 ≤ a0_2) = true := decide_eq_true c22
         clear c22
         by_cases c23 : a0_2 < (l1.length : Int)
         ·rw [if_pos c23] at H
          have c23b0 : decide (a0_2 < (l1.length : Int)) = true := decide_eq_true c23
          clear c23
          replace H := oB H
          obtain ⟨t142, A240, H⟩ := H
          replace H : (if t142 = true then (if a0_4 < 1 then (order_Check.j2 kj16 true a0_0 a0_1 a0_2 a0_3 a0_4 a0_5 a0_6 a0_7 a0_8 a0_9 a0_10) else (order_Check.j2 kj16 (decide (a0_4 > 9)) a0_0 a0_1 a0_2 a0_3 a0_4 a0_5 a0_6 a0_7 a0_8 a0_9 a0_10)) else (some 20)) = some r := H
          have A24 := Aside0.mk A240
          clear A240
          by_cases c25 : t142 = true
          ·subst c25
           have H1 : (if a0_4 < 1 then (order_Check.j2 kj16 true a0_0 a0_1 a0_2 a0_3 a0_4 a0_5 a0_6 a0_7 a0_8 a0_9 a0_10) else (order_Check.j2 kj16 (decide (a0_4 > 9)) a0_0 a0_1 a0_2 a0_3 a0_4 a0_5 a0_6 a0_7 a0_8 a0_9 a0_10)) = some r := by rw [if_pos rfl] at H; exact H
           clear H
           have H := H1
           clear H1
           have HC26 := Aside0.mk H
           clear H
           have hcz27 := blk_all BK137.out
           simp only [CellsAt, List.toList_toArray, Nat.reduceAdd, and_true] at hcz27
           have hfz27 := bF BK137.out
           have p141 : 0 ≤ (a0_2 : Int) := of_decide_eq_true (by first | (with_reducible assumption) | assumption)
           have q141 : a0_2 < (l1.length : Int) := of_decide_eq_true (by first | (with_reducible assumption) | assumption)
           obtain ⟨ad141, A141_5, c141_5, A141_6, c141_6, e141, hx141_0, hx141_1, hx141_2, hx141_3, hx141_4, hx141_5, hx141_6, hl141_5, hi141_5, hl141_6, hi141_6⟩ := at_T54 HR1.out a0_2 p141 q141
           cases e141
           replace hx141_0 := (HB.out.cell (World.block_lt_of_cell? w _ hx141_0)).trans hx141_0
           replace hx141_1 := (HB.out.cell (World.block_lt_of_cell? w _ hx141_1)).trans hx141_1
           replace hx141_2 := (HB.out.cell (World.block_lt_of_cell? w _ hx141_2)).trans hx141_2
           replace hx141_3 := (HB.out.cell (World.block_lt_of_cell? w _ hx141_3)).trans hx141_3
           replace hx141_4 := (HB.out.cell (World.block_lt_of_cell? w _ hx141_4)).trans hx141_4
           replace hx141_5 := (HB.out.cell (World.block_lt_of_cell? w _ hx141_5)).trans hx141_5
           replace hx141_6 := (HB.out.cell (World.block_lt_of_cell? w _ hx141_6)).trans hx141_6
           have HR141_5 := Aside0.mk hi141_5
           have HC141_5 := Aside0.mk hl141_5
           clear hi141_5 hl141_5
           have HR141_6 := Aside0.mk hi141_6
           have HC141_6 := Aside0.mk hl141_6
           clear hi141_6 hl141_6
           replace p141 := eq_true p141
           replace q141 := eq_true q141
           go_upto_region 10 with (first | (go_at_call 30; (with_reducible refine (slices_Contains_int_int.calls kj16 _ _ ((rd_T54 l1 a0_2).f5) a0_3 true _ ?side1 ?side2 A24.out).mono ?_); (case side1 => repeat (first | exact (Kd.C_below HR141_5.out HB.out) | (with_reducible refine Kd.C_alloc ?_ _) | (with_reducible refine Kd.C_drewN ?_ _) | (with_reducible refine Kd.C_drew ?_))); (case side2 => exact HC141_5.out); rintro e w' ⟨rfl, ⟨nd, rfl⟩⟩; (try first | exact ⟨rfl, _, World.drewN_drewN _ _ _⟩ | exact ⟨rfl, _, Eq.trans (World.drewN_drewN _ _ _) (congrArg (World.drewN _) (Nat.add_assoc _ _ _))⟩)))
           repeat (go_quiet (first | (go_at_call 30; (with_reducible refine (slices_Contains_int_int.calls kj16 _ _ ((rd_T54 l1 a0_2).f5) a0_3 true _ ?side1 ?side2 A24.out).mono ?_); (case side1 => repeat (first | exact (Kd.C_below HR141_5.out HB.out) | (with_reducible refine Kd.C_alloc ?_ _) | (with_reducible refine Kd.C_drewN ?_ _) | (with_reducible refine Kd.C_drew ?_))); (case side2 => exact HC141_5.out); rintro e w' ⟨rfl, ⟨nd, rfl⟩⟩; (try first | exact ⟨rfl, _, World.drewN_drewN _ _ _⟩ | exact ⟨rfl, _, Eq.trans (World.drewN_drewN _ _ _) (congrArg (World.drewN _) (Nat.add_assoc _ _ _))⟩))); go_upto_region 10 with (first | (go_at_call 30; (with_reducible refine (slices_Contains_int_int.calls kj16 _ _ ((rd_T54 l1 a0_2).f5) a0_3 true _ ?side1 ?side2 A24.out).mono ?_); (case side1 => repeat (first | exact (Kd.C_below HR141_5.out HB.out) | (with_reducible refine Kd.C_alloc ?_ _) | (with_reducible refine Kd.C_drewN ?_ _) | (with_reducible refine Kd.C_drew ?_))); (case side2 => exact HC141_5.out); rintro e w' ⟨rfl, ⟨nd, rfl⟩⟩; (try first | exact ⟨rfl, _, World.drewN_drewN _ _ _⟩ | exact ⟨rfl, _, Eq.trans (World.drewN_drewN _ _ _) (congrArg (World.drewN _) (Nat.add_assoc _ _ _))⟩))))
           (try simp only [Act.put, List.setIfInBounds_toArray, List.set_cons_zero, List.set_cons_succ])
           go_cut [44] (fun v44 wc => ∃ (kq : Nat) (x44_25 : Bool), v44 = .bool x44_25 ∧ Aside0 (order_Check.j2 kq x44_25 a0_0 a0_1 a0_2 a0_3 a0_4 a0_5 a0_6 a0_7 a0_8 a0_9 a0_10 = some r) ∧ Aside0 (kq ≤ kj16) ∧ Aside0 (wc.heap[gb137]? = some (.cells #[.string a0_0, .string a0_1, .int .i64 a0_2, .int .i64 a0_3, .int .i64 a0_4, .int .i64 a0_5, .int .i64 a0_6, .int .i64 a0_7, .int .i64 a0_8, .int .i64 a0_9, .int .i64 a0_10] 23 (0, 0))) ∧ Aside0 (Below w.heap.size w wc))
           case first =>
            have H := HC26.out
            clear HC26
            by_cases c28 : a0_4 < 1
            ·rw [if_pos c28] at H
             have c28b0 : decide (a0_4 < 1) = true := decide_eq_true c28
             clear c28
             (first | rw [c28b0] | (simp only [i64_w, i32_w]; rw [c28b0]) | skip)
             have H' := Aside0.mk H
             clear H
             have hcz29 := blk_all BK137.out
             simp only [CellsAt, List.toList_toArray, Nat.reduceAdd, and_true] at hcz29
             have hfz29 := bF BK137.out
             go_wp2
             repeat (go_quiet (fail); try go_wp2)
             go_meet
             case rel => exact ⟨_, (true), (by first | rfl | (simp; done) | (simp [*]; done)), H', ⟨by have := HJ4.out; have := HJ16.out; first | omega | exact Nat.le_refl _⟩, ⟨by (with_reducible repeat (first | refine bN ?_ _ | refine bW ?_ | refine bA ?_ _)); exact BK137.out⟩, ⟨by repeat (first | (with_reducible first | exact HB.out | apply pA | apply pN | apply p1 | refine pS ?_ GE137.out) | exact HB.out)⟩⟩
            ·rw [if_neg c28] at H
             have c28b0 : decide (a0_4 < 1) = false := decide_eq_false c28
             clear c28
             (first | rw [c28b0] | (simp only [i64_w, i32_w]; rw [c28b0]) | skip)
             have H' := Aside0.mk H
             clear H
             have hcz30 := blk_all BK137.out
             simp only [CellsAt, List.toList_toArray, Nat.reduceAdd, and_true] at hcz30
             have hfz30 := bF BK137.out
             go_wp2
             repeat (go_quiet (fail); try go_wp2)
             go_meet
             case rel => exact ⟨_, (decide (a0_4 > 9)), (by first | rfl | (simp; done) | (simp [*]; done)), H', ⟨by have := HJ4.out; have := HJ16.out; first | omega | exact Nat.le_refl _⟩, ⟨by (with_reducible repeat (first | refine bN ?_ _ | refine bW ?_ | refine bA ?_ _)); exact BK137.out⟩, ⟨by repeat (first | (with_reducible first | exact HB.out | apply pA | apply pN | apply p1 | refine pS ?_ GE137.out) | exact HB.out)⟩⟩
           case rest =>
            clear HC26
            try clear c1
            try clear p1
            try clear q1
            try clear hx1
            try clear c2
            try clear p2
            try clear c4
            try clear c4b0
            try clear c4b1
            try clear c9
            try clear c12
            try clear c14
            try clear p14
            try clear q14
            try clear hx14
            try clear c16
            try clear c18
            try clear c18b0
            try clear c21
            try clear c22
            try clear c22b0
            try clear c23
            try clear c23b0
            try clear c25
            try clear c28
            try clear c28b0
            try clear hcz11
            try clear hcz13
            try clear hcz14
            try clear hcz19
            try clear hcz20
            try clear hcz27
            try clear hcz29
            try clear hcz30
            try clear hfz11
            try clear hfz13
            try clear hfz14
            try clear hfz19
            try clear hfz20
            try clear hfz27
            try clear hfz29
            try clear hfz30
            try clear hx141_0
            try clear hx141_1
            try clear hx141_2
            try clear hx141_3
            try clear hx141_4
            try clear hx141_5
            try clear hx141_6
            try clear p141
            try clear p2
            try clear q141
            obtain ⟨kq, x44_25, rfl, HA, HJ25, BK137, HB⟩ := hcut
            cases kq with
            | zero => exact absurd HA.out (by simp [order_Check.j2])
            | succ kj25 =>
             have H := HA.out
             clear HA
             simp only [order_Check.j2] at H
             by_cases c31 : x44_25 = true
             ·subst c31
              have H1 : (some 26) = some r := by rw [if_pos rfl] at H; exact H
              clear H
              have H := H1
              clear H1
              obtain rfl := Option.some.inj H
              go_wp2
              repeat (go_quiet (fail); try go_wp2)
              go_ret
              exact ⟨by first | rfl | (simp [*] <;> rfl), by repeat (first | (with_reducible first | exact HB.out | apply pA | apply pN | apply p1 | refine pS ?_ GE137.out) | exact HB.out)⟩
             ·replace c31 := Bool.eq_false_iff.mpr c31
              subst c31
              have H1 : (if a0_5 < 0 then (order_Check.j3 kj25 true a0_0 a0_1 a0_2 a0_3 a0_4 a0_5 a0_6 a0_7 a0_8 a0_9 a0_10) else (order_Check.j3 kj25 (decide (a0_5 > 20000)) a0_0 a0_1 a0_2 a0_3 a0_4 a0_5 a0_6 a0_7 a0_8 a0_9 a0_10)) = some r := by rw [if_neg (show ¬ (false = true) by decide)] at H; exact H
              clear H
              have H := H1
              clear H1
              have HC32 := Aside0.mk H
              clear H
              go_upto_region 12 with (fail)
              repeat (go_quiet (fail); go_upto_region 12 with (fail))
              go_cut [53] (fun v53 wc => ∃ (kq : Nat) (x53_31 : Bool), v53 = .bool x53_31 ∧ Aside0 (order_Check.j3 kq x53_31 a0_0 a0_1 a0_2 a0_3 a0_4 a0_5 a0_6 a0_7 a0_8 a0_9 a0_10 = some r) ∧ Aside0 (kq ≤ kj25) ∧ Aside0 (wc.heap[gb137]? = some (.cells #[.string a0_0, .string a0_1, .int .i64 a0_2, .int .i64 a0_3, .int .i64 a0_4, .int .i64 a0_5, .int .i64 a0_6, .int .i64 a0_7, .int .i64 a0_8, .int .i64 a0_9, .int .i64 a0_10] 23 (0, 0))) ∧ Aside0 (Below w.heap.size w wc))
              case first =>
               have H := HC32.out
               clear HC32
               by_cases c33 : a0_5 < 0
               ·rw [if_pos c33] at H
                have c33b0 : decide (a0_5 < 0) = true := decide_eq_true c33
                clear c33
                (first | rw [c33b0] | (simp only [i64_w, i32_w]; rw [c33b0]) | skip)
                have H' := Aside0.mk H
                clear H
                have hcz34 := blk_all BK137.out
                simp only [CellsAt, List.toList_toArray, Nat.reduceAdd, and_true] at hcz34
                have hfz34 := bF BK137.out
                go_wp2
                repeat (go_quiet (fail); try go_wp2)
                go_meet
                case rel => exact ⟨_, (true), (by first | rfl | (simp; done) | (simp [*]; done)), H', ⟨by have := HJ4.out; have := HJ16.out; have := HJ25.out; first | omega | exact Nat.le_refl _⟩, ⟨by (with_reducible repeat (first | refine bN ?_ _ | refine bW ?_ | refine bA ?_ _)); exact BK137.out⟩, ⟨by repeat (first | (with_reducible first | exact HB.out | apply pA | apply pN | apply p1 | refine pS ?_ GE137.out) | exact HB.out)⟩⟩
               ·rw [if_neg c33] at H
                have c33b0 : decide (a0_5 < 0) = false := decide_eq_false c33
                clear c33
                (first | rw [c33b0] | (simp only [i64_w, i32_w]; rw [c33b0]) | skip)
                have H' := Aside0.mk H
                clear H
                have hcz35 := blk_all BK137.out
                simp only [CellsAt, List.toList_toArray, Nat.reduceAdd, and_true] at hcz35
                have hfz35 := bF BK137.out
                go_wp2
                repeat (go_quiet (fail); try go_wp2)
                go_meet
                case rel => exact ⟨_, (decide (a0_5 > 20000)), (by first | rfl | (simp; done) | (simp [*]; done)), H', ⟨by have := HJ4.out; have := HJ16.out; have := HJ25.out; first | omega | exact Nat.le_refl _⟩, ⟨by (with_reducible repeat (first | refine bN ?_ _ | refine bW ?_ | refine bA ?_ _)); exact BK137.out⟩, ⟨by repeat (first | (with_reducible first | exact HB.out | apply pA | apply pN | apply p1 | refine pS ?_ GE137.out) | exact HB.out)⟩⟩
              case rest =>
               clear HC32
               try clear c1
               try clear p1
               try clear q1
               try clear hx1
               try clear c2
               try clear p2
               try clear c3
               try clear c4
               try clear c4b0
               try clear c4b1
               try clear c9
               try clear c12
               try clear c14
               try clear p14
               try clear q14
               try clear hx14
               try clear c16
               try clear c18
               try clear c18b0
               try clear c21
               try clear c22
               try clear c22b0
               try clear c23
               try clear c23b0
               try clear c25
               try clear c28
               try clear c28b0
               try clear c31
               try clear c33
               try clear c33b0
               try clear hcz11
               try clear hcz13
               try clear hcz14
               try clear hcz19
               try clear hcz20
               try clear hcz27
               try clear hcz29
               try clear hcz30
               try clear hcz34
               try clear hcz35
               try clear hfz11
               try clear hfz13
               try clear hfz14
               try clear hfz19
               try clear hfz20
               try clear hfz27
               try clear hfz29
               try clear hfz30
               try clear hfz34
               try clear hfz35
               try clear hx141_0
               try clear hx141_1
               try clear hx141_2
               try clear hx141_3
               try clear hx141_4
               try clear hx141_5
               try clear hx141_6
               try clear p1
               try clear p14
               try clear p141
               try clear p2
               try clear q1
               try clear q14
               try clear q141
               obtain ⟨kq, x53_31, rfl, HA, HJ31, BK137, HB⟩ := hcut
               cases kq with
               | zero => exact absurd HA.out (by simp [order_Check.j3])
               | succ kj31 =>
                have H := HA.out
                clear HA
                simp only [order_Check.j3] at H
                by_cases c36 : x53_31 = true
                ·subst c36
                 have H1 : (some 25) = some r := by rw [if_pos rfl] at H; exact H
                 clear H
                 have H := H1
                 clear H1
                 obtain rfl := Option.some.inj H
                 go_wp2
                 repeat (go_quiet (fail); try go_wp2)
                 go_ret
                 exact ⟨by first | rfl | (simp [*] <;> rfl), by repeat (first | (with_reducible first | exact HB.out | apply pA | apply pN | apply p1 | refine pS ?_ GE137.out) | exact HB.out)⟩
                ·replace c36 := Bool.eq_false_iff.mpr c36
                 subst c36
                 have H1 : ((order_sound.f a0_0 a0_1 a0_2 a0_3 a0_4 a0_5 a0_6 a0_7 a0_8 a0_9 a0_10).bind fun t143 => (if t143 = true then (if a0_9 < 0 then (some 9) else (if a0_9 > 1000000000 then (some 9) else (if a0_10 < 0 then (some 9) else (if a0_10 > 10000000 then (some 9) else (some 0))))) else (some 9))) = some r := by rw [if_neg (show ¬ (false = true) by decide)] at H; exact H
                 clear H
                 have H := H1
                 clear H1
                 replace H := oB H
                 obtain ⟨t143, A370, H⟩ := H
                 replace H : (if t143 = true then (if a0_9 < 0 then (some 9) else (if a0_9 > 1000000000 then (some 9) else (if a0_10 < 0 then (some 9) else (if a0_10 > 10000000 then (some 9) else (some 0))))) else (some 9)) = some r := H
                 have A37 := Aside0.mk A370
                 clear A370
                 by_cases c38 : t143 = true
                 ·subst c38
                  have H1 : (if a0_9 < 0 then (some 9) else (if a0_9 > 1000000000 then (some 9) else (if a0_10 < 0 then (some 9) else (if a0_10 > 10000000 then (some 9) else (some 0))))) = some r := by rw [if_pos rfl] at H; exact H
                  clear H
                  have H := H1
                  clear H1
                  by_cases c39 : a0_9 < 0
                  ·rw [if_pos c39] at H
                   have c39b0 : decide (a0_9 < 0) = true := decide_eq_true c39
                   clear c39
                   obtain rfl := Option.some.inj H
                   have hcz40 := blk_all BK137.out
                   simp only [CellsAt, List.toList_toArray, Nat.reduceAdd, and_true] at hcz40
                   have hfz40 := bF BK137.out
                   go_wp2_with (first | (go_at_call 31; (with_reducible refine (order_sound.calls a0_0 a0_1 a0_2 a0_3 a0_4 a0_5 a0_6 a0_7 a0_8 a0_9 a0_10 true _ A37.out).mono ?_); rintro e w41 ⟨rfl, hb⟩; have n0_ := q_ (bB (g := gb137) (by (with_reducible repeat (first | refine bN ?_ _ | refine bW ?_ | refine bA ?_ _)); exact BK137.out) hb); have n1_ := q_ (pT (by repeat (first | (with_reducible first | exact HB.out | apply pA | apply pN | apply p1 | refine pS ?_ GE137.out) | exact HB.out)) hb); clear BK137; clear HB; have BK137 := n0_; have HB := n1_; clear n0_ n1_; (try clear hb); (try clear hb2); (try clear hk); (try clear hi); have hcz42 := blk_all BK137.out; simp only [CellsAt, List.toList_toArray, Nat.reduceAdd, and_true] at hcz42; have hfz42 := bF BK137.out))
                   repeat (go_quiet (first | (go_at_call 31; (with_reducible refine (order_sound.calls a0_0 a0_1 a0_2 a0_3 a0_4 a0_5 a0_6 a0_7 a0_8 a0_9 a0_10 true _ A37.out).mono ?_); rintro e w41 ⟨rfl, hb⟩; have n0_ := q_ (bB (g := gb137) (by (with_reducible repeat (first | refine bN ?_ _ | refine bW ?_ | refine bA ?_ _)); exact BK137.out) hb); have n1_ := q_ (pT (by repeat (first | (with_reducible first | exact HB.out | apply pA | apply pN | apply p1 | refine pS ?_ GE137.out) | exact HB.out)) hb); clear BK137; clear HB; have BK137 := n0_; have HB := n1_; clear n0_ n1_; (try clear hb); (try clear hb2); (try clear hk); (try clear hi); have hcz42 := blk_all BK137.out; simp only [CellsAt, List.toList_toArray, Nat.reduceAdd, and_true] at hcz42; have hfz42 := bF BK137.out)); try go_wp2_with (first | (go_at_call 31; (with_reducible refine (order_sound.calls a0_0 a0_1 a0_2 a0_3 a0_4 a0_5 a0_6 a0_7 a0_8 a0_9 a0_10 true _ A37.out).mono ?_); rintro e w41 ⟨rfl, hb⟩; have n0_ := q_ (bB (g := gb137) (by (with_reducible repeat (first | refine bN ?_ _ | refine bW ?_ | refine bA ?_ _)); exact BK137.out) hb); have n1_ := q_ (pT (by repeat (first | (with_reducible first | exact HB.out | apply pA | apply pN | apply p1 | refine pS ?_ GE137.out) | exact HB.out)) hb); clear BK137; clear HB; have BK137 := n0_; have HB := n1_; clear n0_ n1_; (try clear hb); (try clear hb2); (try clear hk); (try clear hi); have hcz42 := blk_all BK137.out; simp only [CellsAt, List.toList_toArray, Nat.reduceAdd, and_true] at hcz42; have hfz42 := bF BK137.out)))
                   go_ret
                   exact ⟨by first | rfl | (simp [*] <;> rfl), by repeat (first | (with_reducible first | exact HB.out | apply pA | apply pN | apply p1 | refine pS ?_ GE137.out) | exact HB.out)⟩
                  ·rw [if_neg c39] at H
                   have c39b0 : decide (a0_9 < 0) = false := decide_eq_false c39
                   clear c39
                   by_cases c43 : a0_9 > 1000000000
                   ·rw [if_pos c43] at H
                    have c43b0 : decide (1000000000 < a0_9) = true := decide_eq_true c43
                    clear c43
                    obtain rfl := Option.some.inj H
                    have hcz44 := blk_all BK137.out
                    simp only [CellsAt, List.toList_toArray, Nat.reduceAdd, and_true] at hcz44
                    have hfz44 := bF BK137.out
                    go_wp2_with (first | (go_at_call 31; (with_reducible refine (order_sound.calls a0_0 a0_1 a0_2 a0_3 a0_4 a0_5 a0_6 a0_7 a0_8 a0_9 a0_10 true _ A37.out).mono ?_); rintro e w45 ⟨rfl, hb⟩; have n0_ := q_ (bB (g := gb137) (by (with_reducible repeat (first | refine bN ?_ _ | refine bW ?_ | refine bA ?_ _)); exact BK137.out) hb); have n1_ := q_ (pT (by repeat (first | (with_reducible first | exact HB.out | apply pA | apply pN | apply p1 | refine pS ?_ GE137.out) | exact HB.out)) hb); clear BK137; clear HB; have BK137 := n0_; have HB := n1_; clear n0_ n1_; (try clear hb); (try clear hb2); (try clear hk); (try clear hi); have hcz46 := blk_all BK137.out; simp only [CellsAt, List.toList_toArray, Nat.reduceAdd, and_true] at hcz46; have hfz46 := bF BK137.out))
                    repeat (go_quiet (first | (go_at_call 31; (with_reducible refine (order_sound.calls a0_0 a0_1 a0_2 a0_3 a0_4 a0_5 a0_6 a0_7 a0_8 a0_9 a0_10 true _ A37.out).mono ?_); rintro e w45 ⟨rfl, hb⟩; have n0_ := q_ (bB (g := gb137) (by (with_reducible repeat (first | refine bN ?_ _ | refine bW ?_ | refine bA ?_ _)); exact BK137.out) hb); have n1_ := q_ (pT (by repeat (first | (with_reducible first | exact HB.out | apply pA | apply pN | apply p1 | refine pS ?_ GE137.out) | exact HB.out)) hb); clear BK137; clear HB; have BK137 := n0_; have HB := n1_; clear n0_ n1_; (try clear hb); (try clear hb2); (try clear hk); (try clear hi); have hcz46 := blk_all BK137.out; simp only [CellsAt, List.toList_toArray, Nat.reduceAdd, and_true] at hcz46; have hfz46 := bF BK137.out)); try go_wp2_with (first | (go_at_call 31; (with_reducible refine (order_sound.calls a0_0 a0_1 a0_2 a0_3 a0_4 a0_5 a0_6 a0_7 a0_8 a0_9 a0_10 true _ A37.out).mono ?_); rintro e w45 ⟨rfl, hb⟩; have n0_ := q_ (bB (g := gb137) (by (with_reducible repeat (first | refine bN ?_ _ | refine bW ?_ | refine bA ?_ _)); exact BK137.out) hb); have n1_ := q_ (pT (by repeat (first | (with_reducible first | exact HB.out | apply pA | apply pN | apply p1 | refine pS ?_ GE137.out) | exact HB.out)) hb); clear BK137; clear HB; have BK137 := n0_; have HB := n1_; clear n0_ n1_; (try clear hb); (try clear hb2); (try clear hk); (try clear hi); have hcz46 := blk_all BK137.out; simp only [CellsAt, List.toList_toArray, Nat.reduceAdd, and_true] at hcz46; have hfz46 := bF BK137.out)))
                    go_ret
                    exact ⟨by first | rfl | (simp [*] <;> rfl), by repeat (first | (with_reducible first | exact HB.out | apply pA | apply pN | apply p1 | refine pS ?_ GE137.out) | exact HB.out)⟩
                   ·rw [if_neg c43] at H
                    have c43b0 : decide (1000000000 < a0_9) = false := decide_eq_false c43
                    clear c43
                    by_cases c47 : a0_10 < 0
                    ·rw [if_pos c47] at H
                     have c47b0 : decide (a0_10 < 0) = true := decide_eq_true c47
                     clear c47
                     obtain rfl := Option.some.inj H
                     have hcz48 := blk_all BK137.out
                     simp only [CellsAt, List.toList_toArray, Nat.reduceAdd, and_true] at hcz48
                     have hfz48 := bF BK137.out
                     go_wp2_with (first | (go_at_call 31; (with_reducible refine (order_sound.calls a0_0 a0_1 a0_2 a0_3 a0_4 a0_5 a0_6 a0_7 a0_8 a0_9 a0_10 true _ A37.out).mono ?_); rintro e w49 ⟨rfl, hb⟩; have n0_ := q_ (bB (g := gb137) (by (with_reducible repeat (first | refine bN ?_ _ | refine bW ?_ | refine bA ?_ _)); exact BK137.out) hb); have n1_ := q_ (pT (by repeat (first | (with_reducible first | exact HB.out | apply pA | apply pN | apply p1 | refine pS ?_ GE137.out) | exact HB.out)) hb); clear BK137; clear HB; have BK137 := n0_; have HB := n1_; clear n0_ n1_; (try clear hb); (try clear hb2); (try clear hk); (try clear hi); have hcz50 := blk_all BK137.out; simp only [CellsAt, List.toList_toArray, Nat.reduceAdd, and_true] at hcz50; have hfz50 := bF BK137.out))
                     repeat (go_quiet (first | (go_at_call 31; (with_reducible refine (order_sound.calls a0_0 a0_1 a0_2 a0_3 a0_4 a0_5 a0_6 a0_7 a0_8 a0_9 a0_10 true _ A37.out).mono ?_); rintro e w49 ⟨rfl, hb⟩; have n0_ := q_ (bB (g := gb137) (by (with_reducible repeat (first | refine bN ?_ _ | refine bW ?_ | refine bA ?_ _)); exact BK137.out) hb); have n1_ := q_ (pT (by repeat (first | (with_reducible first | exact HB.out | apply pA | apply pN | apply p1 | refine pS ?_ GE137.out) | exact HB.out)) hb); clear BK137; clear HB; have BK137 := n0_; have HB := n1_; clear n0_ n1_; (try clear hb); (try clear hb2); (try clear hk); (try clear hi); have hcz50 := blk_all BK137.out; simp only [CellsAt, List.toList_toArray, Nat.reduceAdd, and_true] at hcz50; have hfz50 := bF BK137.out)); try go_wp2_with (first | (go_at_call 31; (with_reducible refine (order_sound.calls a0_0 a0_1 a0_2 a0_3 a0_4 a0_5 a0_6 a0_7 a0_8 a0_9 a0_10 true _ A37.out).mono ?_); rintro e w49 ⟨rfl, hb⟩; have n0_ := q_ (bB (g := gb137) (by (with_reducible repeat (first | refine bN ?_ _ | refine bW ?_ | refine bA ?_ _)); exact BK137.out) hb); have n1_ := q_ (pT (by repeat (first | (with_reducible first | exact HB.out | apply pA | apply pN | apply p1 | refine pS ?_ GE137.out) | exact HB.out)) hb); clear BK137; clear HB; have BK137 := n0_; have HB := n1_; clear n0_ n1_; (try clear hb); (try clear hb2); (try clear hk); (try clear hi); have hcz50 := blk_all BK137.out; simp only [CellsAt, List.toList_toArray, Nat.reduceAdd, and_true] at hcz50; have hfz50 := bF BK137.out)))
                     go_ret
                     exact ⟨by first | rfl | (simp [*] <;> rfl), by repeat (first | (with_reducible first | exact HB.out | apply pA | apply pN | apply p1 | refine pS ?_ GE137.out) | exact HB.out)⟩
                    ·rw [if_neg c47] at H
                     have c47b0 : decide (a0_10 < 0) = false := decide_eq_false c47
                     clear c47
                     by_cases c51 : a0_10 > 10000000
                     ·rw [if_pos c51] at H
                      have c51b0 : decide (10000000 < a0_10) = true := decide_eq_true c51
                      clear c51
                      obtain rfl := Option.some.inj H
                      have hcz52 := blk_all BK137.out
                      simp only [CellsAt, List.toList_toArray, Nat.reduceAdd, and_true] at hcz52
                      have hfz52 := bF BK137.out
                      go_wp2_with (first | (go_at_call 31; (with_reducible refine (order_sound.calls a0_0 a0_1 a0_2 a0_3 a0_4 a0_5 a0_6 a0_7 a0_8 a0_9 a0_10 true _ A37.out).mono ?_); rintro e w53 ⟨rfl, hb⟩; have n0_ := q_ (bB (g := gb137) (by (with_reducible repeat (first | refine bN ?_ _ | refine bW ?_ | refine bA ?_ _)); exact BK137.out) hb); have n1_ := q_ (pT (by repeat (first | (with_reducible first | exact HB.out | apply pA | apply pN | apply p1 | refine pS ?_ GE137.out) | exact HB.out)) hb); clear BK137; clear HB; have BK137 := n0_; have HB := n1_; clear n0_ n1_; (try clear hb); (try clear hb2); (try clear hk); (try clear hi); have hcz54 := blk_all BK137.out; simp only [CellsAt, List.toList_toArray, Nat.reduceAdd, and_true] at hcz54; have hfz54 := bF BK137.out))
                      repeat (go_quiet (first | (go_at_call 31; (with_reducible refine (order_sound.calls a0_0 a0_1 a0_2 a0_3 a0_4 a0_5 a0_6 a0_7 a0_8 a0_9 a0_10 true _ A37.out).mono ?_); rintro e w53 ⟨rfl, hb⟩; have n0_ := q_ (bB (g := gb137) (by (with_reducible repeat (first | refine bN ?_ _ | refine bW ?_ | refine bA ?_ _)); exact BK137.out) hb); have n1_ := q_ (pT (by repeat (first | (with_reducible first | exact HB.out | apply pA | apply pN | apply p1 | refine pS ?_ GE137.out) | exact HB.out)) hb); clear BK137; clear HB; have BK137 := n0_; have HB := n1_; clear n0_ n1_; (try clear hb); (try clear hb2); (try clear hk); (try clear hi); have hcz54 := blk_all BK137.out; simp only [CellsAt, List.toList_toArray, Nat.reduceAdd, and_true] at hcz54; have hfz54 := bF BK137.out)); try go_wp2_with (first | (go_at_call 31; (with_reducible refine (order_sound.calls a0_0 a0_1 a0_2 a0_3 a0_4 a0_5 a0_6 a0_7 a0_8 a0_9 a0_10 true _ A37.out).mono ?_); rintro e w53 ⟨rfl, hb⟩; have n0_ := q_ (bB (g := gb137) (by (with_reducible repeat (first | refine bN ?_ _ | refine bW ?_ | refine bA ?_ _)); exact BK137.out) hb); have n1_ := q_ (pT (by repeat (first | (with_reducible first | exact HB.out | apply pA | apply pN | apply p1 | refine pS ?_ GE137.out) | exact HB.out)) hb); clear BK137; clear HB; have BK137 := n0_; have HB := n1_; clear n0_ n1_; (try clear hb); (try clear hb2); (try clear hk); (try clear hi); have hcz54 := blk_all BK137.out; simp only [CellsAt, List.toList_toArray, Nat.reduceAdd, and_true] at hcz54; have hfz54 := bF BK137.out)))
                      go_ret
                      exact ⟨by first | rfl | (simp [*] <;> rfl), by repeat (first | (with_reducible first | exact HB.out | apply pA | apply pN | apply p1 | refine pS ?_ GE137.out) | exact HB.out)⟩
                     ·rw [if_neg c51] at H
                      have c51b0 : decide (10000000 < a0_10) = false := decide_eq_false c51
                      clear c51
                      obtain rfl := Option.some.inj H
                      have hcz55 := blk_all BK137.out
                      simp only [CellsAt, List.toList_toArray, Nat.reduceAdd, and_true] at hcz55
                      have hfz55 := bF BK137.out
                      go_wp2_with (first | (go_at_call 31; (with_reducible refine (order_sound.calls a0_0 a0_1 a0_2 a0_3 a0_4 a0_5 a0_6 a0_7 a0_8 a0_9 a0_10 true _ A37.out).mono ?_); rintro e w56 ⟨rfl, hb⟩; have n0_ := q_ (bB (g := gb137) (by (with_reducible repeat (first | refine bN ?_ _ | refine bW ?_ | refine bA ?_ _)); exact BK137.out) hb); have n1_ := q_ (pT (by repeat (first | (with_reducible first | exact HB.out | apply pA | apply pN | apply p1 | refine pS ?_ GE137.out) | exact HB.out)) hb); clear BK137; clear HB; have BK137 := n0_; have HB := n1_; clear n0_ n1_; (try clear hb); (try clear hb2); (try clear hk); (try clear hi); have hcz57 := blk_all BK137.out; simp only [CellsAt, List.toList_toArray, Nat.reduceAdd, and_true] at hcz57; have hfz57 := bF BK137.out))
                      repeat (go_quiet (first | (go_at_call 31; (with_reducible refine (order_sound.calls a0_0 a0_1 a0_2 a0_3 a0_4 a0_5 a0_6 a0_7 a0_8 a0_9 a0_10 true _ A37.out).mono ?_); rintro e w56 ⟨rfl, hb⟩; have n0_ := q_ (bB (g := gb137) (by (with_reducible repeat (first | refine bN ?_ _ | refine bW ?_ | refine bA ?_ _)); exact BK137.out) hb); have n1_ := q_ (pT (by repeat (first | (with_reducible first | exact HB.out | apply pA | apply pN | apply p1 | refine pS ?_ GE137.out) | exact HB.out)) hb); clear BK137; clear HB; have BK137 := n0_; have HB := n1_; clear n0_ n1_; (try clear hb); (try clear hb2); (try clear hk); (try clear hi); have hcz57 := blk_all BK137.out; simp only [CellsAt, List.toList_toArray, Nat.reduceAdd, and_true] at hcz57; have hfz57 := bF BK137.out)); try go_wp2_with (first | (go_at_call 31; (with_reducible refine (order_sound.calls a0_0 a0_1 a0_2 a0_3 a0_4 a0_5 a0_6 a0_7 a0_8 a0_9 a0_10 true _ A37.out).mono ?_); rintro e w56 ⟨rfl, hb⟩; have n0_ := q_ (bB (g := gb137) (by (with_reducible repeat (first | refine bN ?_ _ | refine bW ?_ | refine bA ?_ _)); exact BK137.out) hb); have n1_ := q_ (pT (by repeat (first | (with_reducible first | exact HB.out | apply pA | apply pN | apply p1 | refine pS ?_ GE137.out) | exact HB.out)) hb); clear BK137; clear HB; have BK137 := n0_; have HB := n1_; clear n0_ n1_; (try clear hb); (try clear hb2); (try clear hk); (try clear hi); have hcz57 := blk_all BK137.out; simp only [CellsAt, List.toList_toArray, Nat.reduceAdd, and_true] at hcz57; have hfz57 := bF BK137.out)))
                      go_ret
                      exact ⟨by first | rfl | (simp [*] <;> rfl), by repeat (first | (with_reducible first | exact HB.out | apply pA | apply pN | apply p1 | refine pS ?_ GE137.out) | exact HB.out)⟩
                 ·replace c38 := Bool.eq_false_iff.mpr c38
                  subst c38
                  have H1 : (some 9) = some r := by rw [if_neg (show ¬ (false = true) by decide)] at H; exact H
                  clear H
                  have H := H1
                  clear H1
                  obtain rfl := Option.some.inj H
                  have hcz58 := blk_all BK137.out
                  simp only [CellsAt, List.toList_toArray, Nat.reduceAdd, and_true] at hcz58
                  have hfz58 := bF BK137.out
                  go_wp2_with (first | (go_at_call 31; (with_reducible refine (order_sound.calls a0_0 a0_1 a0_2 a0_3 a0_4 a0_5 a0_6 a0_7 a0_8 a0_9 a0_10 false _ A37.out).mono ?_); rintro e w59 ⟨rfl, hb⟩; have n0_ := q_ (bB (g := gb137) (by (with_reducible repeat (first | refine bN ?_ _ | refine bW ?_ | refine bA ?_ _)); exact BK137.out) hb); have n1_ := q_ (pT (by repeat (first | (with_reducible first | exact HB.out | apply pA | apply pN | apply p1 | refine pS ?_ GE137.out) | exact HB.out)) hb); clear BK137; clear HB; have BK137 := n0_; have HB := n1_; clear n0_ n1_; (try clear hb); (try clear hb2); (try clear hk); (try clear hi)))
                  repeat (go_quiet (first | (go_at_call 31; (with_reducible refine (order_sound.calls a0_0 a0_1 a0_2 a0_3 a0_4 a0_5 a0_6 a0_7 a0_8 a0_9 a0_10 false _ A37.out).mono ?_); rintro e w59 ⟨rfl, hb⟩; have n0_ := q_ (bB (g := gb137) (by (with_reducible repeat (first | refine bN ?_ _ | refine bW ?_ | refine bA ?_ _)); exact BK137.out) hb); have n1_ := q_ (pT (by repeat (first | (with_reducible first | exact HB.out | apply pA | apply pN | apply p1 | refine pS ?_ GE137.out) | exact HB.out)) hb); clear BK137; clear HB; have BK137 := n0_; have HB := n1_; clear n0_ n1_; (try clear hb); (try clear hb2); (try clear hk); (try clear hi))); try go_wp2_with (first | (go_at_call 31; (with_reducible refine (order_sound.calls a0_0 a0_1 a0_2 a0_3 a0_4 a0_5 a0_6 a0_7 a0_8 a0_9 a0_10 false _ A37.out).mono ?_); rintro e w59 ⟨rfl, hb⟩; have n0_ := q_ (bB (g := gb137) (by (with_reducible repeat (first | refine bN ?_ _ | refine bW ?_ | refine bA ?_ _)); exact BK137.out) hb); have n1_ := q_ (pT (by repeat (first | (with_reducible first | exact HB.out | apply pA | apply pN | apply p1 | refine pS ?_ GE137.out) | exact HB.out)) hb); clear BK137; clear HB; have BK137 := n0_; have HB := n1_; clear n0_ n1_; (try clear hb); (try clear hb2); (try clear hk); (try clear hi))))
                  go_ret
                  exact ⟨by first | rfl | (simp [*] <;> rfl), by repeat (first | (with_reducible first | exact HB.out | apply pA | apply pN | apply p1 | refine pS ?_ GE137.out) | exact HB.out)⟩
          ·replace c25 := Bool.eq_false_iff.mpr c25
           subst c25
           have H1 : (some 20) = some r := by rw [if_neg (show ¬ (false = true) by decide)] at H; exact H
           clear H
           have H := H1
           clear H1
           obtain rfl := Option.some.inj H
           have hcz60 := blk_all BK137.out
           simp only [CellsAt, List.toList_toArray, Nat.reduceAdd, and_true] at hcz60
           have hfz60 := bF BK137.out
           have p141 : 0 ≤ (a0_2 : Int) := of_decide_eq_true (by first | (with_reducible assumption) | assumption)
           have q141 : a0_2 < (l1.length : Int) := of_decide_eq_true (by first | (with_reducible assumption) | assumption)
           obtain ⟨ad141, A141_5, c141_5, A141_6, c141_6, e141, hx141_0, hx141_1, hx141_2, hx141_3, hx141_4, hx141_5, hx141_6, hl141_5, hi141_5, hl141_6, hi141_6⟩ := at_T54 HR1.out a0_2 p141 q141
           cases e141
           replace hx141_0 := (HB.out.cell (World.block_lt_of_cell? w _ hx141_0)).trans hx141_0
           replace hx141_1 := (HB.out.cell (World.block_lt_of_cell? w _ hx141_1)).trans hx141_1
           replace hx141_2 := (HB.out.cell (World.block_lt_of_cell? w _ hx141_2)).trans hx141_2
           replace hx141_3 := (HB.out.cell (World.block_lt_of_cell? w _ hx141_3)).trans hx141_3
           replace hx141_4 := (HB.out.cell (World.block_lt_of_cell? w _ hx141_4)).trans hx141_4
           replace hx141_5 := (HB.out.cell (World.block_lt_of_cell? w _ hx141_5)).trans hx141_5
           replace hx141_6 := (HB.out.cell (World.block_lt_of_cell? w _ hx141_6)).trans hx141_6
           have HR141_5 := Aside0.mk hi141_5
           have HC141_5 := Aside0.mk hl141_5
           clear hi141_5 hl141_5
           have HR141_6 := Aside0.mk hi141_6
           have HC141_6 := Aside0.mk hl141_6
           clear hi141_6 hl141_6
           replace p141 := eq_true p141
           replace q141 := eq_true q141
           go_wp2_with (first | (go_at_call 30; (with_reducible refine (slices_Contains_int_int.calls kj16 _ _ ((rd_T54 l1 a0_2).f5) a0_3 false _ ?side1 ?side2 A24.out).mono ?_); (case side1 => repeat (first | exact (Kd.C_below HR141_5.out HB.out) | (with_reducible refine Kd.C_alloc ?_ _) | (with_reducible refine Kd.C_drewN ?_ _) | (with_reducible refine Kd.C_drew ?_))); (case side2 => exact HC141_5.out); rintro e w' ⟨rfl, ⟨nd, rfl⟩⟩; (try first | exact ⟨rfl, _, World.drewN_drewN _ _ _⟩ | exact ⟨rfl, _, Eq.trans (World.drewN_drewN _ _ _) (congrArg (World.drewN _) (Nat.add_assoc _ _ _))⟩)))
           repeat (go_quiet (first | (go_at_call 30; (with_reducible refine (slices_Contains_int_int.calls kj16 _ _ ((rd_T54 l1 a0_2).f5) a0_3 false _ ?side1 ?side2 A24.out).mono ?_); (case side1 => repeat (first | exact (Kd.C_below HR141_5.out HB.out) | (with_reducible refine Kd.C_alloc ?_ _) | (with_reducible refine Kd.C_drewN ?_ _) | (with_reducible refine Kd.C_drew ?_))); (case side2 => exact HC141_5.out); rintro e w' ⟨rfl, ⟨nd, rfl⟩⟩; (try first | exact ⟨rfl, _, World.drewN_drewN _ _ _⟩ | exact ⟨rfl, _, Eq.trans (World.drewN_drewN _ _ _) (congrArg (World.drewN _) (Nat.add_assoc _ _ _))⟩))); try go_wp2_with (first | (go_at_call 30; (with_reducible refine (slices_Contains_int_int.calls kj16 _ _ ((rd_T54 l1 a0_2).f5) a0_3 false _ ?side1 ?side2 A24.out).mono ?_); (case side1 => repeat (first | exact (Kd.C_below HR141_5.out HB.out) | (with_reducible refine Kd.C_alloc ?_ _) | (with_reducible refine Kd.C_drewN ?_ _) | (with_reducible refine Kd.C_drew ?_))); (case side2 => exact HC141_5.out); rintro e w' ⟨rfl, ⟨nd, rfl⟩⟩; (try first | exact ⟨rfl, _, World.drewN_drewN _ _ _⟩ | exact ⟨rfl, _, Eq.trans (World.drewN_drewN _ _ _) (congrArg (World.drewN _) (Nat.add_assoc _ _ _))⟩))))
           go_ret
           exact ⟨by first | rfl | (simp [*] <;> rfl), by repeat (first | (with_reducible first | exact HB.out | apply pA | apply pN | apply p1 | refine pS ?_ GE137.out) | exact HB.out)⟩
         ·rw [if_neg c23] at H
          exact absurd H (by simp)
        ·rw [if_neg c22] at H
         exact absurd H (by simp)
 ·rw [if_neg c4] at H
  have c4b0 : (t138 == 0) = false := oC c4
  have c4b1 : (t138 != 0) = true := bne_iff_ne.mpr c4
  obtain rfl := Option.some.inj H
  go_enter Tryd.func12, Tryd.ntmps12
  go_wp2_with (first | (refine wpList_load_cells (by rfl) 23 _ (by exact rfl) ⟨gb137, 0, none⟩ (by rfl) _ _ (cells_of_blk (by (with_reducible repeat (first | refine bN ?_ _ | refine bW ?_ | refine bA ?_ _)); exact BK137.out)) Tryd.underlying23 rfl (by kernel_rfl) ?_) | ((with_reducible refine gate_dst (N := 2) rfl ?_); (try (refine gate_guard (by rfl) ?_; dsimp only)); refine box_event ?hg (N := 2) ?hd (cs := #[.string a0_0, .string a0_1, .int .i64 a0_2, .int .i64 a0_3, .int .i64 a0_4, .int .i64 a0_5, .int .i64 a0_6, .int .i64 a0_7, .int .i64 a0_8, .int .i64 a0_9, .int .i64 a0_10]) (t := 23) ?hr ?_; (case hd => rfl); (case hg => rfl); (case hr => first | (go_simp; done) | (go_simp; rfl)); intro gb137 hg w61 hbox hb; have n0_ := q_ (pT (by repeat (first | (with_reducible first | exact HB.out | apply pA | apply pN | apply p1) | exact HB.out)) hb); have n1_ := q_ (hbox); have n2_ := q_ ((by rw [hg]; exact (pZ (by repeat (first | (with_reducible first | exact HB.out | apply pA | apply pN | apply p1) | exact HB.out))) : w.heap.size ≤ gb137)); have n3_ := n2_; clear HB; have HB := n0_; have BK137 := n1_; have GW137 := n2_; have GE137 := n3_; clear n0_ n1_ n2_ n3_; clear hb hbox hg) | (go_at_call 27; (with_reducible refine (product_Check.calls k _ _ l1 t138 _ ?side1 ?side2 A3.out).mono ?_); (case side1 => repeat (first | exact (Kd.C_below HR1.out HB.out) | (with_reducible refine Kd.C_alloc ?_ _) | (with_reducible refine Kd.C_drewN ?_ _) | (with_reducible refine Kd.C_drew ?_))); (case side2 => exact HC1.out); rintro e w62 ⟨rfl, hb⟩; have n0_ := q_ (bB (g := gb137) (by (with_reducible repeat (first | refine bN ?_ _ | refine bW ?_ | refine bA ?_ _)); exact BK137.out) hb); have n1_ := q_ (pT (by repeat (first | (with_reducible first | exact HB.out | apply pA | apply pN | apply p1 | refine pS ?_ GE137.out) | exact HB.out)) hb); clear BK137; clear HB; have BK137 := n0_; have HB := n1_; clear n0_ n1_; (try clear hb); (try clear hb2); (try clear hk); (try clear hi)))
  repeat (go_quiet (first | ((with_reducible refine gate_dst (N := 2) rfl ?_); (try (refine gate_guard (by rfl) ?_; dsimp only)); refine box_event ?hg (N := 2) ?hd (cs := #[.string a0_0, .string a0_1, .int .i64 a0_2, .int .i64 a0_3, .int .i64 a0_4, .int .i64 a0_5, .int .i64 a0_6, .int .i64 a0_7, .int .i64 a0_8, .int .i64 a0_9, .int .i64 a0_10]) (t := 23) ?hr ?_; (case hd => rfl); (case hg => rfl); (case hr => first | (go_simp; done) | (go_simp; rfl)); intro gb137 hg w61 hbox hb; have n0_ := q_ (pT (by repeat (first | (with_reducible first | exact HB.out | apply pA | apply pN | apply p1) | exact HB.out)) hb); have n1_ := q_ (hbox); have n2_ := q_ ((by rw [hg]; exact (pZ (by repeat (first | (with_reducible first | exact HB.out | apply pA | apply pN | apply p1) | exact HB.out))) : w.heap.size ≤ gb137)); have n3_ := n2_; clear HB; have HB := n0_; have BK137 := n1_; have GW137 := n2_; have GE137 := n3_; clear n0_ n1_ n2_ n3_; clear hb hbox hg) | (go_at_call 27; (with_reducible refine (product_Check.calls k _ _ l1 t138 _ ?side1 ?side2 A3.out).mono ?_); (case side1 => repeat (first | exact (Kd.C_below HR1.out HB.out) | (with_reducible refine Kd.C_alloc ?_ _) | (with_reducible refine Kd.C_drewN ?_ _) | (with_reducible refine Kd.C_drew ?_))); (case side2 => exact HC1.out); rintro e w62 ⟨rfl, hb⟩; have n0_ := q_ (bB (g := gb137) (by (with_reducible repeat (first | refine bN ?_ _ | refine bW ?_ | refine bA ?_ _)); exact BK137.out) hb); have n1_ := q_ (pT (by repeat (first | (with_reducible first | exact HB.out | apply pA | apply pN | apply p1 | refine pS ?_ GE137.out) | exact HB.out)) hb); clear BK137; clear HB; have BK137 := n0_; have HB := n1_; clear n0_ n1_; (try clear hb); (try clear hb2); (try clear hk); (try clear hi))); try go_wp2_with (first | (refine wpList_load_cells (by rfl) 23 _ (by exact rfl) ⟨gb137, 0, none⟩ (by rfl) _ _ (cells_of_blk (by (with_reducible repeat (first | refine bN ?_ _ | refine bW ?_ | refine bA ?_ _)); exact BK137.out)) Tryd.underlying23 rfl (by kernel_rfl) ?_) | (refine wpList_load_cells (by rfl) 23 _ (by exact rfl) ⟨gb137, 0, none⟩ (by rfl) _ _ (cells_of_blk (by (with_reducible repeat (first | refine bN ?_ _ | refine bW ?_ | refine bA ?_ _)); exact BK137.out)) Tryd.underlying23 rfl (by kernel_rfl) ?_) | ((with_reducible refine gate_dst (N := 2) rfl ?_); (try (refine gate_guard (by rfl) ?_; dsimp only)); refine box_event ?hg (N := 2) ?hd (cs := #[.string a0_0, .string a0_1, .int .i64 a0_2, .int .i64 a0_3, .int .i64 a0_4, .int .i64 a0_5, .int .i64 a0_6, .int .i64 a0_7, .int .i64 a0_8, .int .i64 a0_9, .int .i64 a0_10]) (t := 23) ?hr ?_; (case hd => rfl); (case hg => rfl); (case hr => first | (go_simp; done) | (go_simp; rfl)); intro gb137 hg w61 hbox hb; have n0_ := q_ (pT (by repeat (first | (with_reducible first | exact HB.out | apply pA | apply pN | apply p1) | exact HB.out)) hb); have n1_ := q_ (hbox); have n2_ := q_ ((by rw [hg]; exact (pZ (by repeat (first | (with_reducible first | exact HB.out | apply pA | apply pN | apply p1) | exact HB.out))) : w.heap.size ≤ gb137)); have n3_ := n2_; clear HB; have HB := n0_; have BK137 := n1_; have GW137 := n2_; have GE137 := n3_; clear n0_ n1_ n2_ n3_; clear hb hbox hg) | (go_at_call 27; (with_reducible refine (product_Check.calls k _ _ l1 t138 _ ?side1 ?side2 A3.out).mono ?_); (case side1 => repeat (first | exact (Kd.C_below HR1.out HB.out) | (with_reducible refine Kd.C_alloc ?_ _) | (with_reducible refine Kd.C_drewN ?_ _) | (with_reducible refine Kd.C_drew ?_))); (case side2 => exact HC1.out); rintro e w62 ⟨rfl, hb⟩; have n0_ := q_ (bB (g := gb137) (by (with_reducible repeat (first | refine bN ?_ _ | refine bW ?_ | refine bA ?_ _)); exact BK137.out) hb); have n1_ := q_ (pT (by repeat (first | (with_reducible first | exact HB.out | apply pA | apply pN | apply p1 | refine pS ?_ GE137.out) | exact HB.out)) hb); clear BK137; clear HB; have BK137 := n0_; have HB := n1_; clear n0_ n1_; (try clear hb); (try clear hb2); (try clear hk); (try clear hi))))
  go_ret
  exact ⟨by first | rfl | (simp [*] <;> rfl), by repeat (first | (with_reducible first | exact HB.out | apply pA | apply pN | apply p1 | refine pS ?_ GE137.out) | exact HB.out)⟩
end Go.Proofs.YtblmgmhjlbkncaaDoor.PA
namespace Go.Proofs.YtblmgmhjlbkncaaDoor.PA
open Go.RowKit Go.Proofs.YtblmgmhjlbkncaaDoorW.PrintWords Go.Proofs.YtblmgmhjlbkncaaDoorW.PrintLast Go.Proofs.YtblmgmhjlbkncaaDoorW.PrintMore
attribute [local go_sem] max2_int min2_int max_two min_two max_three min_three max_four min_four
set_option linter.unusedVariables false
set_option linter.unusedSimpArgs false
set_option maxHeartbeats 8000000 in
set_option maxRecDepth 100000 in
theorem sample_calls (w : World) :
  Calls Tryd.prog 26 #[] w fun e w' => e = .returned (.tuple #[.agg #[.string (⟨#[]⟩ : ByteArray), .string (⟨#[112, 105, 110, 101]⟩ : ByteArray), .int .i64 0, .int .i64 2000, .int .i64 3, .int .i64 1800, .int .i64 10, .int .i64 2, .int .i64 3, .int .i64 0, .int .i64 0], .agg #[.string (⟨#[]⟩ : ByteArray), .string (⟨#[]⟩ : ByteArray), .string (⟨#[112, 105, 110, 101]⟩ : ByteArray), .int .i64 0, .int .i64 0, .int .i64 0, .int .i64 0, .int .i64 0, .int .i64 0, .int .i64 2000, .int .i64 0, .slice none 0 0, .int .i64 0, .int .i64 1700, .int .i64 1850, .int .i64 0, .bool true, .int .i64 2]]) ∧ Below w.heap.size w w' := by
 have hu31 := Tryd.underlying31
 have hu33 := Tryd.underlying33
 have hu36 := Tryd.underlying36
 have hu23 := Tryd.underlying23
 have hu38 := Tryd.underlying38
 have HB := q_ (Below.refl w.heap.size w)
 go_enter Tryd.func26, Tryd.ntmps26
 go_wp2_with (first | ((with_reducible refine gate_dst (N := 0) rfl ?_); refine box_event ?hg (N := 0) ?hd (cs := #[.string (⟨#[]⟩ : ByteArray), .string (⟨#[]⟩ : ByteArray), .int .i64 0, .int .i64 0, .int .i64 0, .int .i64 0, .int .i64 0, .int .i64 0, .int .i64 0, .int .i64 0, .int .i64 0]) (t := 23) ?hr ?_; (case hd => rfl); (case hg => rfl); (case hr => first | (go_simp; done) | (go_simp; rfl)); intro ga hg w1 hbox hb; have BKga := Aside0.mk hbox; have GEga := q_ (show w.heap.size ≤ ga by rw [hg]; exact pZ HB.out); replace HB := q_ (pT HB.out hb); clear hb hbox hg) | ((with_reducible refine gate_dst (N := 1) rfl ?_); refine box_event ?hg (N := 1) ?hd (cs := #[.string (⟨#[]⟩ : ByteArray), .string (⟨#[]⟩ : ByteArray), .string (⟨#[]⟩ : ByteArray), .int .i64 0, .int .i64 0, .int .i64 0, .int .i64 0, .int .i64 0, .int .i64 0, .int .i64 0, .int .i64 0, .slice none 0 0, .int .i64 0, .int .i64 0, .int .i64 0, .int .i64 0, .bool false, .int .i64 0]) (t := 38) ?hr ?_; (case hd => rfl); (case hg => rfl); (case hr => first | (go_simp; done) | (go_simp; rfl)); intro gb hg w2 hbox hb; have NBgagb := q_ (show ga ≠ gb by rw [hg]; exact Nat.ne_of_lt (blk_lt BKga.out)); replace BKga := q_ (bB BKga.out hb); have BKgb := Aside0.mk hbox; have GEgb := q_ (show w.heap.size ≤ gb by rw [hg]; exact pZ HB.out); replace HB := q_ (pT HB.out hb); clear hb hbox hg) | ((with_reducible refine gate_dst (N := 2) rfl ?_); refine box_event ?hg (N := 2) ?hd (cs := #[.string (⟨#[]⟩ : ByteArray), .string (⟨#[]⟩ : ByteArray), .int .i64 0, .int .i64 0, .int .i64 0, .int .i64 0, .int .i64 0, .int .i64 0, .int .i64 0, .int .i64 0, .int .i64 0]) (t := 23) ?hr ?_; (case hd => rfl); (case hg => rfl); (case hr => first | (go_simp; done) | (go_simp; rfl)); intro gc hg w3 hbox hb; have NBgagc := q_ (show ga ≠ gc by rw [hg]; exact Nat.ne_of_lt (blk_lt BKga.out)); replace BKga := q_ (bB BKga.out hb); have NBgbgc := q_ (show gb ≠ gc by rw [hg]; exact Nat.ne_of_lt (blk_lt BKgb.out)); replace BKgb := q_ (bB BKgb.out hb); have BKgc := Aside0.mk hbox; have GEgc := q_ (show w.heap.size ≤ gc by rw [hg]; exact pZ HB.out); replace HB := q_ (pT HB.out hb); clear hb hbox hg) | (refine wpList_store_row rfl 23 (.tmp 2) (.tmp 4) rfl gc rfl #[.string (⟨#[]⟩ : ByteArray), .string (⟨#[112, 105, 110, 101]⟩ : ByteArray), .int .i64 0, .int .i64 2000, .int .i64 3, .int .i64 1800, .int .i64 10, .int .i64 2, .int .i64 3, .int .i64 0, .int .i64 0] rfl BKgc.out rfl rfl (by kernel_rfl) ?_; intro w4 hbox hgr; replace BKga := q_ (blk_grown BKga.out hgr (fun e => NBgagc.out (Option.some.inj e))); replace BKgb := q_ (blk_grown BKgb.out hgr (fun e => NBgbgc.out (Option.some.inj e))); replace BKgc := Aside0.mk hbox; replace HB := q_ (pw_below_grown HB.out _ (pZ HB.out) hgr (fun k hk => by obtain rfl := Option.some.inj hk; exact GEgc.out)); clear hbox hgr) | ((with_reducible refine gate_dst (N := 3) rfl ?_); refine box_event ?hg (N := 3) ?hd (cs := #[.string (⟨#[]⟩ : ByteArray), .string (⟨#[]⟩ : ByteArray), .string (⟨#[]⟩ : ByteArray), .int .i64 0, .int .i64 0, .int .i64 0, .int .i64 0, .int .i64 0, .int .i64 0, .int .i64 0, .int .i64 0, .slice none 0 0, .int .i64 0, .int .i64 0, .int .i64 0, .int .i64 0, .bool false, .int .i64 0]) (t := 38) ?hr ?_; (case hd => rfl); (case hg => rfl); (case hr => first | (go_simp; done) | (go_simp; rfl)); intro gd hg w5 hbox hb; have NBgagd := q_ (show ga ≠ gd by rw [hg]; exact Nat.ne_of_lt (blk_lt BKga.out)); replace BKga := q_ (bB BKga.out hb); have NBgbgd := q_ (show gb ≠ gd by rw [hg]; exact Nat.ne_of_lt (blk_lt BKgb.out)); replace BKgb := q_ (bB BKgb.out hb); have NBgcgd := q_ (show gc ≠ gd by rw [hg]; exact Nat.ne_of_lt (blk_lt BKgc.out)); replace BKgc := q_ (bB BKgc.out hb); have BKgd := Aside0.mk hbox; have GEgd := q_ (show w.heap.size ≤ gd by rw [hg]; exact pZ HB.out); replace HB := q_ (pT HB.out hb); clear hb hbox hg) | (refine wpList_store_row rfl 38 (.tmp 3) (.tmp 8) rfl gd rfl #[.string (⟨#[]⟩ : ByteArray), .string (⟨#[]⟩ : ByteArray), .string (⟨#[112, 105, 110, 101]⟩ : ByteArray), .int .i64 0, .int .i64 0, .int .i64 0, .int .i64 0, .int .i64 0, .int .i64 0, .int .i64 2000, .int .i64 0, .slice none 0 0, .int .i64 0, .int .i64 1700, .int .i64 1850, .int .i64 0, .bool true, .int .i64 2] rfl BKgd.out rfl rfl (by kernel_rfl) ?_; intro w6 hbox hgr; replace BKga := q_ (blk_grown BKga.out hgr (fun e => NBgagd.out (Option.some.inj e))); replace BKgb := q_ (blk_grown BKgb.out hgr (fun e => NBgbgd.out (Option.some.inj e))); replace BKgc := q_ (blk_grown BKgc.out hgr (fun e => NBgcgd.out (Option.some.inj e))); replace BKgd := Aside0.mk hbox; replace HB := q_ (pw_below_grown HB.out _ (pZ HB.out) hgr (fun k hk => by obtain rfl := Option.some.inj hk; exact GEgd.out)); clear hbox hgr))
 try simp only [Act.put, List.setIfInBounds_toArray, List.set_cons_zero, List.set_cons_succ]
 replace BKga := q_ (bW BKga.out)
 replace BKgb := q_ (bW BKgb.out)
 replace BKgc := q_ (bW BKgc.out)
 replace BKgd := q_ (bW BKgd.out)
 replace HB := q_ (p1 HB.out)
 refine start_ (n := 4) (S := fun w' => w'.heap[gc]? = some (.cells #[.string (⟨#[]⟩ : ByteArray), .string (⟨#[112, 105, 110, 101]⟩ : ByteArray), .int .i64 0, .int .i64 2000, .int .i64 3, .int .i64 1800, .int .i64 10, .int .i64 2, .int .i64 3, .int .i64 0, .int .i64 0] 23 (0, 0)) ∧ w'.heap[gd]? = some (.cells #[.string (⟨#[]⟩ : ByteArray), .string (⟨#[]⟩ : ByteArray), .string (⟨#[112, 105, 110, 101]⟩ : ByteArray), .int .i64 0, .int .i64 0, .int .i64 0, .int .i64 0, .int .i64 0, .int .i64 0, .int .i64 2000, .int .i64 0, .slice none 0 0, .int .i64 0, .int .i64 1700, .int .i64 1850, .int .i64 0, .bool true, .int .i64 2] 38 (0, 0))) (ds := []) #[false, false, false, false] (by kernel_rfl) rfl rfl ⟨BKgc.out, BKgd.out⟩ (fun hHeld => ?_)
 generalize w6.drew = w7 at BKga BKgb BKgc BKgd HB hHeld ⊢
 refine take_ (i := 0) (N := some 9) (v := ?_) (a' := ?_) #[true, false, false, false] rfl rfl (by kernel_rfl) (fun _ _ _ h => h) (Or.inl ⟨by rfl, ?_⟩) hHeld ?_ ?_
 rotate_left
 ·rintro w' ⟨s0, s1⟩
  refine exec_load_blk 23 (.tmp 2) ?_ gc ?_ s0 hu23 rfl ?_
  ·exact rfl
  ·exact rfl
  ·kernel_rfl
 rotate_left
 ·simp only [Act.put, List.setIfInBounds_toArray, List.set_cons_zero, List.set_cons_succ]
  rfl
 refine take_ (i := 1) (N := some 10) (v := ?_) (a' := ?_) #[true, true, false, false] rfl rfl (by kernel_rfl) (fun _ _ _ h => h) (Or.inl ⟨by rfl, ?_⟩) hHeld ?_ ?_
 rotate_left
 ·rintro w' ⟨s0, s1⟩
  refine exec_load_blk 38 (.tmp 3) ?_ gd ?_ s1 hu38 rfl ?_
  ·exact rfl
  ·exact rfl
  ·kernel_rfl
 rotate_left
 ·simp only [Act.put, List.setIfInBounds_toArray, List.set_cons_zero, List.set_cons_succ]
  rfl
 refine one_ (i := 2) (N := none) #[true, true, true, false] rfl rfl (by kernel_rfl) (by decide) (fun K hK => ?_)
 refine step_store_row (by rfl) 23 (.tmp 0) (.tmp 9) rfl rfl ga rfl #[.string (⟨#[]⟩ : ByteArray), .string (⟨#[112, 105, 110, 101]⟩ : ByteArray), .int .i64 0, .int .i64 2000, .int .i64 3, .int .i64 1800, .int .i64 10, .int .i64 2, .int .i64 3, .int .i64 0, .int .i64 0] rfl BKga.out rfl rfl (by kernel_rfl) ?_; intro w8 hbox hgr; replace BKgb := q_ (blk_grown BKgb.out hgr (fun e => NBgagb.out.symm (Option.some.inj e))); replace BKgc := q_ (blk_grown BKgc.out hgr (fun e => NBgagc.out.symm (Option.some.inj e))); replace BKgd := q_ (blk_grown BKgd.out hgr (fun e => NBgagd.out.symm (Option.some.inj e))); replace BKga := Aside0.mk hbox; replace HB := q_ (pw_below_grown HB.out _ (pZ HB.out) hgr (fun k hk => by obtain rfl := Option.some.inj hk; exact GEga.out)); clear hbox hgr
 refine hK.out _ _ ⟨BKgc.out, BKgd.out⟩ (fun hHeld => ?_)
 refine one_ (i := 3) (N := none) #[true, true, true, true] rfl rfl (by kernel_rfl) (by decide) (fun K hK => ?_)
 refine step_store_row (by rfl) 38 (.tmp 1) (.tmp 10) rfl rfl gb rfl #[.string (⟨#[]⟩ : ByteArray), .string (⟨#[]⟩ : ByteArray), .string (⟨#[112, 105, 110, 101]⟩ : ByteArray), .int .i64 0, .int .i64 0, .int .i64 0, .int .i64 0, .int .i64 0, .int .i64 0, .int .i64 2000, .int .i64 0, .slice none 0 0, .int .i64 0, .int .i64 1700, .int .i64 1850, .int .i64 0, .bool true, .int .i64 2] rfl BKgb.out rfl rfl (by kernel_rfl) ?_; intro w9 hbox hgr; replace BKga := q_ (blk_grown BKga.out hgr (fun e => NBgagb.out (Option.some.inj e))); replace BKgc := q_ (blk_grown BKgc.out hgr (fun e => NBgbgc.out.symm (Option.some.inj e))); replace BKgd := q_ (blk_grown BKgd.out hgr (fun e => NBgbgd.out.symm (Option.some.inj e))); replace BKgb := Aside0.mk hbox; replace HB := q_ (pw_below_grown HB.out _ (pZ HB.out) hgr (fun k hk => by obtain rfl := Option.some.inj hk; exact GEgb.out)); clear hbox hgr
 refine hK.out _ _ ⟨BKgc.out, BKgd.out⟩ (fun hHeld => ?_)
 refine done_ (by kernel_rfl) ?_
 go_wp2
 (try simp only [Exit.inBlock, Exit.then])
 refine bodyPost_ret (results_cells2 rfl _ _ _ ga gb (by rfl) (by rfl) (run_loadVar_blk 23 ga BKga.out hu23 rfl (by kernel_rfl)) (run_loadVar_blk 38 gb BKgb.out hu38 rfl (by kernel_rfl))) rfl ?_
 exact ⟨rfl, HB.out⟩
def awId (i : Nat) : ByteArray := ⟨#[UInt8.ofNat (97 + i)]⟩
def awB (i : Nat) : S38 := ⟨awId i, ⟨#[]⟩, ⟨#[112, 105, 110, 101]⟩, 0, (⟨(⟨0, 0⟩ : S31), (⟨0, 0⟩ : S31), (⟨0, 2000⟩ : S31)⟩ : S33), 0, ([] : List S176), 0, (⟨1700, 1850, 0⟩ : S36), true, 2⟩
def awL (n : Nat) : List S38 := (List.range n).map awB
theorem awake_mean : moist_Mean.f 50 1700 1850 0 = some 1800 := by kernel_rfl
theorem awake_length (i : ByteArray) (g : Int) : board_Length.f i (⟨#[]⟩ : ByteArray) (⟨#[112, 105, 110, 101]⟩ : ByteArray) 0 0 0 0 0 0 2000 0 ([] : List S176) 0 1700 1850 0 true g = some 2000 := by kernel_rfl
theorem awake_fits (i : ByteArray) : order_Fits.f 50 (⟨#[]⟩ : ByteArray) (⟨#[112, 105, 110, 101]⟩ : ByteArray) 0 2000 3 1800 10 2 3 0 0 i (⟨#[]⟩ : ByteArray) (⟨#[112, 105, 110, 101]⟩ : ByteArray) 0 0 0 0 0 0 2000 0 ([] : List S176) 0 1700 1850 0 true 2 = some 0 := by
 unfold order_Fits.f
 rw [if_pos rfl, if_pos rfl, awake_length]
 rw [Option.bind_some, if_pos rfl, if_pos rfl, awake_mean]
 kernel_rfl
theorem awake_fits4 (i : ByteArray) : order_Fits.f 50 (⟨#[]⟩ : ByteArray) (⟨#[112, 105, 110, 101]⟩ : ByteArray) 0 2000 3 1800 10 2 3 0 0 i (⟨#[]⟩ : ByteArray) (⟨#[112, 105, 110, 101]⟩ : ByteArray) 0 0 0 0 0 0 2000 0 ([] : List S176) 0 1700 1850 0 true 4 = some 26 := by
 unfold order_Fits.f
 rw [if_pos rfl, if_pos rfl, awake_length]
 rw [Option.bind_some, if_pos rfl, if_pos rfl, awake_mean]
 kernel_rfl
theorem awake_least : order_Least.f (⟨#[]⟩ : ByteArray) (⟨#[112, 105, 110, 101]⟩ : ByteArray) 0 2000 3 1800 10 2 3 0 0 = some 8 := by kernel_rfl
theorem awake_most : order_Most.f (⟨#[]⟩ : ByteArray) (⟨#[112, 105, 110, 101]⟩ : ByteArray) 0 2000 3 1800 10 2 3 0 0 = some 13 := by kernel_rfl
theorem awake_filled : order_Filled.f 50 (⟨#[]⟩ : ByteArray) (⟨#[112, 105, 110, 101]⟩ : ByteArray) 0 2000 3 1800 10 2 3 0 0 (awL 8) = some true := by
 kernel_rfl
theorem awake_encode : order_Encode.f 50 (⟨#[]⟩ : ByteArray) (⟨#[]⟩ : ByteArray) 0 0 0 0 0 0 0 0 0 = some (⟨#[0, 0, 9, 0, 0, 0, 0, 0, 0, 0, 0, 0]⟩, 0) := by
 kernel_rfl
theorem awake_decode : order_Decode.f 50 ⟨#[0, 0, 9, 0, 0, 0, 0, 0, 0, 0, 0, 0]⟩ = some (⟨#[]⟩, ⟨#[]⟩, 0, 0, 0, 0, 0, 0, 0, 0, 0, 0) := by
 kernel_rfl
theorem awake_check : order_Check.f 50 (⟨#[]⟩ : ByteArray) (⟨#[112, 105, 110, 101]⟩ : ByteArray) 0 2000 3 1800 10 2 3 0 0 [] = some 6 := by
 kernel_rfl
theorem awInfo38 : (Tryd.prog.info? 38).map (fun i => (i.zero, i.size, i.bytes)) = some (some (.agg #[(.string ⟨#[]⟩), (.string ⟨#[]⟩), (.string ⟨#[]⟩), (.int .i64 0), (.int .i64 0), (.int .i64 0), (.int .i64 0), (.int .i64 0), (.int .i64 0), (.int .i64 0), (.int .i64 0), (.slice none 0 0), (.int .i64 0), (.int .i64 0), (.int .i64 0), (.int .i64 0), (.bool false), (.int .i64 0)]), 18, 184) := by kernel_rfl
theorem awId_eq (i : Nat) (hi : i < 8) : strOfNums [97 + (i : Int)] = awId i :=
 match i, hi with
 | 0, _ => by kernel_rfl
 | 1, _ => by kernel_rfl
 | 2, _ => by kernel_rfl
 | 3, _ => by kernel_rfl
 | 4, _ => by kernel_rfl
 | 5, _ => by kernel_rfl
 | 6, _ => by kernel_rfl
 | 7, _ => by kernel_rfl
 | n + 8, h => absurd h (by omega)
theorem awL_succ (i : Nat) : awL (i + 1) = awL i ++ [awB i] := by simp [awL, List.range_succ]
theorem awL_length (i : Nat) : (awL i).length = i := by simp [awL]
theorem awake_filled1 : order_Filled.f 50 (⟨#[]⟩ : ByteArray) (⟨#[112, 105, 110, 101]⟩ : ByteArray) 0 2000 3 1800 10 2 3 0 0 ((awL 8).drop 1) = some false := by kernel_rfl
theorem awake_filled2 : order_Filled.f 50 (⟨#[]⟩ : ByteArray) (⟨#[112, 105, 110, 101]⟩ : ByteArray) 0 2000 3 1800 10 2 3 0 0 ((awL 8).take 7 ++ [awB 0]) = some false := by kernel_rfl
def awake_T12 : Bool × List (List Nat × List Nat) := (true, [([], []), ([], []), ([0, 1], [0, 1]), ([2], [2]), ([3, 2], [3]), ([4], [4]), ([4], [4]), ([5, 6, 4, 4], [4, 5, 6]), ([7, 4], [4, 7]), ([4, 8], [4, 8]), ([9, 7], [9]), ([10], [10]), ([10], [10]), ([11, 12, 10, 10], [10, 11, 12]), ([13, 10], [10, 13]), ([10, 14], [10, 14]), ([15, 13], [15]), ([16], [16]), ([16], [16]), ([18, 16], [16, 18]), ([17, 19, 16, 16], [16, 17, 19]), ([16, 20], [16, 20]), ([21, 20], [21]), ([22], [22]), ([22], [22]), ([24, 22], [22, 24]), ([22], [22]), ([26, 22], [22, 26]), ([27, 22], [22, 27]), ([28, 22], [22, 28]), ([25, 29, 22, 22], [22, 25, 29]), ([23, 30, 30, 22], [22, 23, 30]), ([22, 31], [22, 31])])
def awake_B12 : List Nat := [0, 0, 3, 7, 15, 31, 31, 127, 255, 511, 1023, 2047, 2047, 8191, 16383, 32767, 65535, 131071, 131071, 393215, 1048575, 2097151, 4194303, 8388607, 8388607, 25165823, 8388607, 75497471, 209715199, 478150655, 1065353215, 2147483647, 4294967295]
theorem awake_tab12 : rtab .any (opsOf Tryd.f11 12) = awake_T12 := by kernel_rfl
theorem awake_bits12 : waitsOk awake_T12.2 awake_B12 = true := by kernel_rfl
set_option maxHeartbeats 8000000 in
set_option maxRecDepth 100000 in
theorem awake_calls (w : World) :
  Calls Tryd.prog 11 #[] w fun e w' => e = .returned (.bool true) ∧ Below w.heap.size w w' := by
 have hu23 := Tryd.underlying23
 have hu38 := Tryd.underlying38
 have HB := q_ (Below.refl w.heap.size w)
 go_enter Tryd.func11, Tryd.ntmps11
 go_wp2_with (first | (go_at_call 26; (with_reducible refine (sample_calls _).mono ?_); rintro e w1 ⟨rfl, hb⟩; replace HB := q_ (pT HB.out hb); clear hb) | ((with_reducible refine gate_dst (N := 1) rfl ?_); refine box_event ?hg (N := 1) ?hd (cs := #[.string (⟨#[]⟩ : ByteArray), .string (⟨#[]⟩ : ByteArray), .int .i64 0, .int .i64 0, .int .i64 0, .int .i64 0, .int .i64 0, .int .i64 0, .int .i64 0, .int .i64 0, .int .i64 0]) (t := 23) ?hr ?_; (case hd => rfl); (case hg => rfl); (case hr => first | (go_simp; done) | (go_simp; rfl)); intro go hg w2 hbox hb; have BKgo := Aside0.mk hbox; have GEgo := q_ (show w.heap.size ≤ go by rw [hg]; exact pZ HB.out); replace HB := q_ (pT HB.out hb); clear hb hbox hg) | ((with_reducible refine gate_dst (N := 2) rfl ?_); refine box_event ?hg (N := 2) ?hd (cs := #[.string (⟨#[]⟩ : ByteArray), .string (⟨#[]⟩ : ByteArray), .string (⟨#[]⟩ : ByteArray), .int .i64 0, .int .i64 0, .int .i64 0, .int .i64 0, .int .i64 0, .int .i64 0, .int .i64 0, .int .i64 0, .slice none 0 0, .int .i64 0, .int .i64 0, .int .i64 0, .int .i64 0, .bool false, .int .i64 0]) (t := 38) ?hr ?_; (case hd => rfl); (case hg => rfl); (case hr => first | (go_simp; done) | (go_simp; rfl)); intro gb hg w3 hbox hb; have NBgogb := q_ (show go ≠ gb by rw [hg]; exact Nat.ne_of_lt (blk_lt BKgo.out)); replace BKgo := q_ (bB BKgo.out hb); have BKgb := Aside0.mk hbox; have GEgb := q_ (show w.heap.size ≤ gb by rw [hg]; exact pZ HB.out); replace HB := q_ (pT HB.out hb); clear hb hbox hg) | (refine wpList_store_row rfl 23 (.tmp 1) (.tmp 12) rfl go rfl #[.string (⟨#[]⟩ : ByteArray), .string (⟨#[112, 105, 110, 101]⟩ : ByteArray), .int .i64 0, .int .i64 2000, .int .i64 3, .int .i64 1800, .int .i64 10, .int .i64 2, .int .i64 3, .int .i64 0, .int .i64 0] rfl BKgo.out rfl rfl (by kernel_rfl) ?_; intro w4 hbox hgr; replace BKgb := q_ (blk_grown BKgb.out hgr (fun e => NBgogb.out.symm (Option.some.inj e))); replace BKgo := Aside0.mk hbox; replace HB := q_ (pw_below_grown HB.out _ (pZ HB.out) hgr (fun k hk => by obtain rfl := Option.some.inj hk; exact GEgo.out)); clear hbox hgr) | (refine wpList_store_row rfl 38 (.tmp 2) (.tmp 13) rfl gb rfl #[.string (⟨#[]⟩ : ByteArray), .string (⟨#[]⟩ : ByteArray), .string (⟨#[112, 105, 110, 101]⟩ : ByteArray), .int .i64 0, .int .i64 0, .int .i64 0, .int .i64 0, .int .i64 0, .int .i64 0, .int .i64 2000, .int .i64 0, .slice none 0 0, .int .i64 0, .int .i64 1700, .int .i64 1850, .int .i64 0, .bool true, .int .i64 2] rfl BKgb.out rfl rfl (by kernel_rfl) ?_; intro w5 hbox hgr; replace BKgo := q_ (blk_grown BKgo.out hgr (fun e => NBgogb.out (Option.some.inj e))); replace BKgb := Aside0.mk hbox; replace HB := q_ (pw_below_grown HB.out _ (pZ HB.out) hgr (fun k hk => by obtain rfl := Option.some.inj hk; exact GEgb.out)); clear hbox hgr) | (refine wpList_load_cells (by rfl) 38 (.tmp 2) rfl ⟨gb, 0, none⟩ (by rfl) _ _ (cells_of_blk BKgb.out) Tryd.underlying38 rfl (by kernel_rfl) ?_) | ((with_reducible refine gate_dst (N := 3) rfl ?_); refine box_event ?hg (N := 3) ?hd (cs := #[.string (⟨#[]⟩ : ByteArray), .string (⟨#[]⟩ : ByteArray), .string (⟨#[]⟩ : ByteArray), .int .i64 0, .int .i64 0, .int .i64 0, .int .i64 0, .int .i64 0, .int .i64 0, .int .i64 0, .int .i64 0, .slice none 0 0, .int .i64 0, .int .i64 0, .int .i64 0, .int .i64 0, .bool false, .int .i64 0]) (t := 38) ?hr ?_; (case hd => rfl); (case hg => rfl); (case hr => first | (go_simp; done) | (go_simp; rfl)); intro gc hg w6 hbox hb; have NBgogc := q_ (show go ≠ gc by rw [hg]; exact Nat.ne_of_lt (blk_lt BKgo.out)); replace BKgo := q_ (bB BKgo.out hb); have NBgbgc := q_ (show gb ≠ gc by rw [hg]; exact Nat.ne_of_lt (blk_lt BKgb.out)); replace BKgb := q_ (bB BKgb.out hb); have BKgc := Aside0.mk hbox; have GEgc := q_ (show w.heap.size ≤ gc by rw [hg]; exact pZ HB.out); replace HB := q_ (pT HB.out hb); clear hb hbox hg) | (refine wpList_store_row rfl 38 (.tmp 3) (.tmp 14) rfl gc rfl #[.string (⟨#[]⟩ : ByteArray), .string (⟨#[]⟩ : ByteArray), .string (⟨#[112, 105, 110, 101]⟩ : ByteArray), .int .i64 0, .int .i64 0, .int .i64 0, .int .i64 0, .int .i64 0, .int .i64 0, .int .i64 2000, .int .i64 0, .slice none 0 0, .int .i64 0, .int .i64 1700, .int .i64 1850, .int .i64 0, .bool true, .int .i64 2] rfl BKgc.out rfl rfl (by kernel_rfl) ?_; intro w7 hbox hgr; replace BKgo := q_ (blk_grown BKgo.out hgr (fun e => NBgogc.out (Option.some.inj e))); replace BKgb := q_ (blk_grown BKgb.out hgr (fun e => NBgbgc.out (Option.some.inj e))); replace BKgc := Aside0.mk hbox; replace HB := q_ (pw_below_grown HB.out _ (pZ HB.out) hgr (fun k hk => by obtain rfl := Option.some.inj hk; exact GEgc.out)); clear hbox hgr) | (refine wpList_store_cell rfl 3 (.tmp 15) (.const (.int .i64 4)) rfl gc 17 (by rfl) (.int .i64 4) (by rfl) rfl rfl BKgc.out (Nat.le_of_ble_eq_true rfl) #[.string (⟨#[]⟩ : ByteArray), .string (⟨#[]⟩ : ByteArray), .string (⟨#[112, 105, 110, 101]⟩ : ByteArray), .int .i64 0, .int .i64 0, .int .i64 0, .int .i64 0, .int .i64 0, .int .i64 0, .int .i64 2000, .int .i64 0, .slice none 0 0, .int .i64 0, .int .i64 1700, .int .i64 1850, .int .i64 0, .bool true, .int .i64 4] rfl (by kernel_rfl) ?_; intro w8 hbox hgr; replace BKgo := q_ (blk_grown BKgo.out hgr (fun e => NBgogc.out (Option.some.inj e))); replace BKgb := q_ (blk_grown BKgb.out hgr (fun e => NBgbgc.out (Option.some.inj e))); replace BKgc := Aside0.mk hbox; replace HB := q_ (pw_below_grown HB.out _ (pZ HB.out) hgr (fun k hk => by obtain rfl := Option.some.inj hk; exact GEgc.out)); clear hbox hgr))
 go_loopg [4, 5] 9 (fun kq v4 v5 w' => ∃ (i : Nat) (s : ByteArray), v5 = .int .i64 (i : Int) ∧ Aside0 (i + kq = 9 ∧ i ≤ 8) ∧ Aside0 (Kd.S k38 38 w' w.heap.size (fun k_ => k_ ≠ gb ∧ k_ ≠ gc) v4 (awL i)) ∧ Aside0 (w'.heap[go]? = some (.cells #[.string (⟨#[]⟩ : ByteArray), .string (⟨#[112, 105, 110, 101]⟩ : ByteArray), .int .i64 0, .int .i64 2000, .int .i64 3, .int .i64 1800, .int .i64 10, .int .i64 2, .int .i64 3, .int .i64 0, .int .i64 0] 23 (0, 0))) ∧ Aside0 (w'.heap[gb]? = some (.cells #[.string s, .string (⟨#[]⟩ : ByteArray), .string (⟨#[112, 105, 110, 101]⟩ : ByteArray), .int .i64 0, .int .i64 0, .int .i64 0, .int .i64 0, .int .i64 0, .int .i64 0, .int .i64 2000, .int .i64 0, .slice none 0 0, .int .i64 0, .int .i64 1700, .int .i64 1850, .int .i64 0, .bool true, .int .i64 2] 38 (0, 0))) ∧ Aside0 (w'.heap[gc]? = some (.cells #[.string (⟨#[]⟩ : ByteArray), .string (⟨#[]⟩ : ByteArray), .string (⟨#[112, 105, 110, 101]⟩ : ByteArray), .int .i64 0, .int .i64 0, .int .i64 0, .int .i64 0, .int .i64 0, .int .i64 0, .int .i64 2000, .int .i64 0, .slice none 0 0, .int .i64 0, .int .i64 1700, .int .i64 1850, .int .i64 0, .bool true, .int .i64 4] 38 (0, 0))) ∧ Aside0 (Below w.heap.size w w'))
 case atStart => exact ⟨0, (⟨#[]⟩ : ByteArray), rfl, ⟨rfl, by decide⟩, ⟨Kd.S_nil _ _ _ _ _⟩, BKgo, BKgb, BKgc, HB⟩
 case round =>
  clear BKgo BKgb BKgc HB
  obtain ⟨i, s, rfl, HI, HO, BKgo, BKgb, BKgc, HB⟩ := hrel
  have hi9 := HI.out
  clear HI
  cases gk with
  | zero => omega
  | succ k1 =>
   by_cases hi : i < 8
   ·have hlt : decide ((i : Int) < 8) = true := decide_eq_true (by omega)
    go_wp2_with (first | ((with_reducible refine gate_dst (N := 23) rfl ?_); refine Kd.R_lit (Kd.int .u8) _ 5 ?hg (N := 23) ?hd (xs := ([97 + (i : Int)] : List Int)) (inner := [.int .u8 (97 + (i : Int))]) (ok := fun _ => True) (okp := fun _ => True) ?hr ?hp (fun _ hk => hk) trivial (Below.refl _ _) (Nat.le_refl _) (by simp) ?_; (case hd => rfl); (case hg => rfl); (case hr => first | (go_simp; done) | (go_simp; rfl)); (case hp => exact (Reps.one (show Kd.M (Kd.int .u8) _ _ _ (97 + (i : Int)) [.int .u8 (97 + (i : Int))] from rfl) (Reps.none _ _))); intro v2 w12 ho13 hb hg_ hnew_; clear hg_ hnew_; have hcv := own_string (P := Tryd.prog) Tryd.underlying57 Tryd.underlying5 Tryd.underlying9 (Kd.own_of_R ho13); (try simp only [Int.reduceToNat] at hcv); rw [awId_eq i hi] at hcv; replace BKgo := q_ (bB BKgo.out hb); replace BKgb := q_ (bB BKgb.out hb); replace BKgc := q_ (bB BKgc.out hb); replace HO := q_ (Kd.S_below HO.out hb); replace HB := q_ (pT HB.out hb); clear hb ho13) | (refine wpList_store_cell rfl 9 (.tmp 25) (.tmp 24) rfl gb 0 (by rfl) (.string (awId i)) (by rfl) rfl rfl BKgb.out (Nat.le_of_ble_eq_true rfl) #[.string (awId i), .string (⟨#[]⟩ : ByteArray), .string (⟨#[112, 105, 110, 101]⟩ : ByteArray), .int .i64 0, .int .i64 0, .int .i64 0, .int .i64 0, .int .i64 0, .int .i64 0, .int .i64 2000, .int .i64 0, .slice none 0 0, .int .i64 0, .int .i64 1700, .int .i64 1850, .int .i64 0, .bool true, .int .i64 2] rfl (by kernel_rfl) ?_; intro w13 hbox hgr; replace BKgo := q_ (blk_grown BKgo.out hgr (fun e => NBgogb.out (Option.some.inj e))); replace BKgc := q_ (blk_grown BKgc.out hgr (fun e => NBgbgc.out.symm (Option.some.inj e))); replace BKgb := Aside0.mk hbox; replace HB := q_ (pw_below_grown HB.out _ (pZ HB.out) hgr (fun k hk => by obtain rfl := Option.some.inj hk; exact GEgb.out)); replace HO := q_ (Kd.S_grown HO.out hgr (fun k hk e => hk.1 (Option.some.inj e))); clear hbox hgr) | (refine wpList_load_cells (by rfl) 38 (.tmp 2) rfl ⟨gb, 0, none⟩ (by rfl) _ _ (cells_of_blk BKgb.out) Tryd.underlying38 rfl (by kernel_rfl) ?_) | ((with_reducible refine gate_builtin (b := .append) (xs := #[.tmp 26, .tmp 28]) rfl ?_); at_builtin; refine Kd.S_append k38 (w0 := w) w.heap.size rfl (.tmp 26) (.tmp 28) 42 38 (.agg #[.string (⟨#[]⟩ : ByteArray), .string (⟨#[]⟩ : ByteArray), .string (⟨#[]⟩ : ByteArray), .int .i64 0, .int .i64 0, .int .i64 0, .int .i64 0, .int .i64 0, .int .i64 0, .int .i64 0, .int .i64 0, .slice none 0 0, .int .i64 0, .int .i64 0, .int .i64 0, .int .i64 0, .bool false, .int .i64 0]) 184 rfl Tryd.underlying42 awInfo38 rfl (by decide) (by omega) u4 (awL i) (awB i) [.string (awId i), .string (⟨#[]⟩ : ByteArray), .string (⟨#[112, 105, 110, 101]⟩ : ByteArray), .int .i64 0, .int .i64 0, .int .i64 0, .int .i64 0, .int .i64 0, .int .i64 0, .int .i64 2000, .int .i64 0, .slice none 0 0, .int .i64 0, .int .i64 1700, .int .i64 1850, .int .i64 0, .bool true, .int .i64 2] (fun k_ => k_ ≠ gb ∧ k_ ≠ gc) (fun _ => False) rfl (by first | (go_simp; done) | (go_simp; rfl)) ?aP (fun k_ hk_ => hk_.elim) ?aF ?aO ?aB ?aS ?aL ?_; (case aP => exact k38_mkM _ _ _ (awB i) (Kd.R_nil _ _ _ _ _)); (case aB => exact HB.out); (case aF => exact (fun k_ hk => ⟨Kd.freshB BKgb.out k_ hk, Kd.freshB BKgc.out k_ hk⟩)); (case aO => exact Kd.S_mono HO.out (fun k hk => ⟨hk, fun e => e⟩)); (case aS => exact pZ HB.out); (case aL => have hl := awL_length i; omega); intro v6 w18 ho hb hg hat; replace BKgo := q_ (blk_grown BKgo.out hg (Kd.S_ne HO.out BKgo.out (by decide))); replace BKgb := q_ (blk_grown BKgb.out hg (Kd.S_away HO.out (fun _ hk => hk.1))); replace BKgc := q_ (blk_grown BKgc.out hg (Kd.S_away HO.out (fun _ hk => hk.2))); replace HO := Aside0.mk ho; replace HB := Aside0.mk hb; clear ho hb hg hat))
    go_roundg k1
    case measure => omega
    case rel => exact ⟨i + 1, awId i, rfl, ⟨by omega, by omega⟩, ⟨by rw [awL_succ]; exact HO.out⟩, BKgo, BKgb, BKgc, HB⟩
   ·skip
    have hlt : decide ((i : Int) < 8) = false := decide_eq_false (by omega)
    obtain rfl : i = 8 := by omega
    clear hi hlt
    have hlt : decide (((8 : Nat) : Int) < 8) = false := rfl
    obtain ⟨gl, c4, rfl, hc4, HC⟩ : ∃ gl c4, u4 = .slice (some ⟨gl, 0, none⟩) 8 c4 ∧ 8 ≤ c4 ∧ Kd.C k38 wr (some ⟨gl, 0, none⟩) 8 (awL 8) := by
     obtain ⟨inner, hown⟩ := Kd.S_own HO.out
     have hS := HO.out
     rcases hown.2 with ⟨e, h0⟩ | ⟨g, cp, cur, e, _⟩
     ·rw [e] at hS
      exact absurd (Kd.S_reads' hS).1 (by decide)
     ·rw [e] at hS
      exact ⟨g, cp, e, (Kd.S_reads' hS).2.1, (Kd.S_reads' hS).2.2⟩
    replace HC := Aside0.mk HC
    have hc41 : (c4 = 1) = False := eq_false (by omega)
    have hc47 : (7 ≤ (c4 : Int)) = True := eq_true (by omega)
    clear HO
    have HWc := q_ (Below.refl wr.heap.size wr)
    go_upto_region 12 with (first | ((with_reducible refine gate_callee (f := 22) rfl ?_); refine goesL_ (some 32) rfl rfl Tryd.func22 (by kernel_rfl) rfl #[.agg #[.string (⟨#[]⟩ : ByteArray), .string (⟨#[]⟩ : ByteArray), .int .i64 0, .int .i64 0, .int .i64 0, .int .i64 0, .int .i64 0, .int .i64 0, .int .i64 0, .int .i64 0, .int .i64 0]] rfl (by first | rfl | (simp only [List.map_toArray, List.map_cons, List.map_nil]; rfl)) ?_; refine (order_Encode.calls 50 (⟨#[]⟩ : ByteArray) (⟨#[]⟩ : ByteArray) 0 0 0 0 0 0 0 0 0 _ _ _ awake_encode).mono ?_; rintro e w15 ⟨rfl, hb⟩; refine ⟨_, rfl, ?_⟩; replace HB := q_ (pT HB.out hb); replace HWc := q_ (pT HWc.out hb); clear hb) | ((with_reducible refine gate_callee (f := 24) rfl ?_); refine goesL_ (some 37) rfl rfl Tryd.func24 (by kernel_rfl) rfl #[.string (⟨#[0, 0, 9, 0, 0, 0, 0, 0, 0, 0, 0, 0]⟩ : ByteArray)] rfl (by first | rfl | (simp only [List.map_toArray, List.map_cons, List.map_nil]; rfl)) ?_; refine (order_Decode.calls 50 (⟨#[0, 0, 9, 0, 0, 0, 0, 0, 0, 0, 0, 0]⟩ : ByteArray) _ _ _ _ _ _ _ _ _ _ _ _ _ awake_decode).mono ?_; rintro e w16 ⟨rfl, hb⟩; refine ⟨_, rfl, ?_⟩; replace HB := q_ (pT HB.out hb); replace HWc := q_ (pT HWc.out hb); clear hb) | ((with_reducible refine gate_dst (N := 8) rfl ?_); refine box_event ?hg (N := 8) ?hd (cs := #[.string (⟨#[]⟩ : ByteArray), .string (⟨#[]⟩ : ByteArray), .int .i64 0, .int .i64 0, .int .i64 0, .int .i64 0, .int .i64 0, .int .i64 0, .int .i64 0, .int .i64 0, .int .i64 0]) (t := 23) ?hr ?_; (case hd => rfl); (case hg => rfl); (case hr => first | (go_simp; done) | (go_simp; rfl)); intro gx hg w17 hbox hb; have GEgx := q_ (show w.heap.size ≤ gx by rw [hg]; exact pZ HB.out); have GWgx := q_ (show wr.heap.size ≤ gx by rw [hg]; exact pZ HWc.out); have BKgx := Aside0.mk hbox; replace HB := q_ (pT HB.out hb); replace HWc := q_ (pT HWc.out hb); clear hb hbox hg) | (refine wpList_store_row rfl 23 (.tmp 8) (.tmp 38) rfl gx rfl #[.string (⟨#[]⟩ : ByteArray), .string (⟨#[]⟩ : ByteArray), .int .i64 0, .int .i64 0, .int .i64 0, .int .i64 0, .int .i64 0, .int .i64 0, .int .i64 0, .int .i64 0, .int .i64 0] rfl BKgx.out rfl rfl (by kernel_rfl) ?_; intro w18 hbox hgr; replace BKgx := Aside0.mk hbox; replace HB := q_ (pw_below_grown HB.out _ (pZ HB.out) hgr (fun k hk => by obtain rfl := Option.some.inj hk; exact GEgx.out)); replace HWc := q_ (pw_below_grown HWc.out _ (pZ HWc.out) hgr (fun k hk => by obtain rfl := Option.some.inj hk; exact GWgx.out)); clear hbox hgr))
    replace HB := q_ (p1 HB.out)
    replace BKgx := q_ (bW BKgx.out)
    replace HWc := q_ (p1 HWc.out)
    try simp only [Act.put, List.setIfInBounds_toArray, List.set_cons_zero, List.set_cons_succ]
    refine start_ (n := 33) (S := fun w' => Below wr.heap.size wr w') (ds := []) #[false, false, false, false, false, false, false, false, false, false, false, false, false, false, false, false, false, false, false, false, false, false, false, false, false, false, false, false, false, false, false, false, false] (by kernel_rfl) rfl rfl HWc.out (fun hHeld => ?_)
    refine with_tabW awake_tab12 awake_bits12 (fun HT_ HW_ => ?_)
    clear hHeld
    generalize w18.drew = w19 at HB BKgx HWc ⊢
    refine take_ (i := 0) (N := some 40) (v := ?_) (a' := ?_) #[true, false, false, false, false, false, false, false, false, false, false, false, false, false, false, false, false, false, false, false, false, false, false, false, false, false, false, false, false, false, false, false, false] rfl rfl (take_ofW HT_.out HW_.out (by kernel_rfl)) (fun _ _ _ h => h) (Or.inl ⟨by rfl, ?_⟩) HWc.out ?_ ?_
    rotate_left
    ·intro w' hw
     refine exec_load_blk 23 (.tmp 1) ?_ go ?_ (bB BKgo.out hw) hu23 rfl ?_
     ·exact rfl
     ·exact rfl
     ·kernel_rfl
    rotate_left
    ·simp only [Act.put, List.setIfInBounds_toArray, List.set_cons_zero, List.set_cons_succ, i64_w, i32_w]
     rfl
    refine take_ (i := 1) (N := some 41) (v := ?_) (a' := ?_) #[true, true, false, false, false, false, false, false, false, false, false, false, false, false, false, false, false, false, false, false, false, false, false, false, false, false, false, false, false, false, false, false, false] rfl rfl (take_ofW HT_.out HW_.out (by kernel_rfl)) (fun _ _ _ h => h) (Or.inl ⟨by rfl, ?_⟩) HWc.out ?_ ?_
    rotate_left
    ·intro w' hw
     refine exec_load_blk 38 (.tmp 2) ?_ gb ?_ (bB BKgb.out hw) hu38 rfl ?_
     ·exact rfl
     ·exact rfl
     ·kernel_rfl
    rotate_left
    ·simp only [Act.put, List.setIfInBounds_toArray, List.set_cons_zero, List.set_cons_succ, i64_w, i32_w]
     rfl
    refine one_ (i := 2) (N := some 42) #[true, true, true, false, false, false, false, false, false, false, false, false, false, false, false, false, false, false, false, false, false, false, false, false, false, false, false, false, false, false, false, false, false] rfl rfl (one_of HT_.out (by kernel_rfl)) (by decide) (fun K hK => ?_)
    refine goes_ Tryd.func14 (by kernel_rfl) rfl #[.agg #[.string (⟨#[]⟩ : ByteArray), .string (⟨#[112, 105, 110, 101]⟩ : ByteArray), .int .i64 0, .int .i64 2000, .int .i64 3, .int .i64 1800, .int .i64 10, .int .i64 2, .int .i64 3, .int .i64 0, .int .i64 0], .agg #[.string s, .string (⟨#[]⟩ : ByteArray), .string (⟨#[112, 105, 110, 101]⟩ : ByteArray), .int .i64 0, .int .i64 0, .int .i64 0, .int .i64 0, .int .i64 0, .int .i64 0, .int .i64 2000, .int .i64 0, .slice none 0 0, .int .i64 0, .int .i64 1700, .int .i64 1850, .int .i64 0, .bool true, .int .i64 2]] (by rfl) rfl rfl (by first | rfl | (simp only [List.map_toArray, List.map_cons, List.map_nil]; rfl)) ?_
    refine (order_Fits.calls 50 (⟨#[]⟩ : ByteArray) (⟨#[112, 105, 110, 101]⟩ : ByteArray) 0 2000 3 1800 10 2 3 0 0 s (⟨#[]⟩ : ByteArray) (⟨#[112, 105, 110, 101]⟩ : ByteArray) 0 0 0 0 0 0 2000 0 _ _ ([] : List S176) 0 1700 1850 0 true 2 0 _ ?_ ?_ (awake_fits _)).mono ?_
    ·exact Kd.C_nil _ _
    ·exact Nat.le_refl _
    rintro e w20 ⟨rfl, hb⟩
    refine ⟨_, rfl, ?_⟩
    replace HB := q_ (pT HB.out hb)
    replace BKgx := q_ (bB BKgx.out hb)
    replace HWc := q_ (pT HWc.out hb)
    clear hb
    refine hK.out _ _ HWc.out (fun hHeld => ?_)
    clear hK K hHeld
    refine norm_ (a' := ?_) ?_ ?_
    rotate_left
    ·show Act.put _ (some 42) _ = _
     simp only [Act.put, List.setIfInBounds_toArray, List.set_cons_zero, List.set_cons_succ, i64_w, i32_w]
     rfl
    refine pure_ (i := 3) (N := some 43) (v := ?_) (a' := ?_) #[true, true, true, true, false, false, false, false, false, false, false, false, false, false, false, false, false, false, false, false, false, false, false, false, false, false, false, false, false, false, false, false, false] rfl rfl (any_of HT_.out (by kernel_rfl)) (fun _ _ _ h => h) (Or.inl ⟨by rfl, ?_⟩) ?_ ?_
    rotate_left
    ·intro w'
     go_simp
     with_reducible rfl
    rotate_left
    ·simp only [Act.put, List.setIfInBounds_toArray, List.set_cons_zero, List.set_cons_succ, i64_w, i32_w]
     rfl
    refine pure_ (i := 4) (N := some 44) (v := ?_) (a' := ?_) #[true, true, true, true, true, false, false, false, false, false, false, false, false, false, false, false, false, false, false, false, false, false, false, false, false, false, false, false, false, false, false, false, false] rfl rfl (any_of HT_.out (by kernel_rfl)) (fun _ _ _ h => h) (Or.inl ⟨by rfl, ?_⟩) ?_ ?_
    rotate_left
    ·intro w'
     go_simp
     with_reducible rfl
    rotate_left
    ·simp only [Act.put, List.setIfInBounds_toArray, List.set_cons_zero, List.set_cons_succ, i64_w, i32_w]
     rfl
    refine take_ (i := 5) (N := some 45) (v := ?_) (a' := ?_) #[true, true, true, true, true, true, false, false, false, false, false, false, false, false, false, false, false, false, false, false, false, false, false, false, false, false, false, false, false, false, false, false, false] rfl rfl (take_ofW HT_.out HW_.out (by kernel_rfl)) (fun _ _ _ h => h) (Or.inl ⟨by rfl, ?_⟩) HWc.out ?_ ?_
    rotate_left
    ·intro w' hw
     refine exec_load_blk 23 (.tmp 1) ?_ go ?_ (bB BKgo.out hw) hu23 rfl ?_
     ·exact rfl
     ·exact rfl
     ·kernel_rfl
    rotate_left
    ·simp only [Act.put, List.setIfInBounds_toArray, List.set_cons_zero, List.set_cons_succ, i64_w, i32_w]
     rfl
    refine take_ (i := 6) (N := some 46) (v := ?_) (a' := ?_) #[true, true, true, true, true, true, true, false, false, false, false, false, false, false, false, false, false, false, false, false, false, false, false, false, false, false, false, false, false, false, false, false, false] rfl rfl (take_ofW HT_.out HW_.out (by kernel_rfl)) (fun _ _ _ h => h) (Or.inl ⟨by rfl, ?_⟩) HWc.out ?_ ?_
    rotate_left
    ·intro w' hw
     refine exec_load_blk 38 (.tmp 3) ?_ gc ?_ (bB BKgc.out hw) hu38 rfl ?_
     ·exact rfl
     ·exact rfl
     ·kernel_rfl
    rotate_left
    ·simp only [Act.put, List.setIfInBounds_toArray, List.set_cons_zero, List.set_cons_succ, i64_w, i32_w]
     rfl
    refine one_ (i := 7) (N := some 47) #[true, true, true, true, true, true, true, true, false, false, false, false, false, false, false, false, false, false, false, false, false, false, false, false, false, false, false, false, false, false, false, false, false] rfl rfl (one_of HT_.out (by kernel_rfl)) (by decide) (fun K hK => ?_)
    refine goes_ Tryd.func14 (by kernel_rfl) rfl #[.agg #[.string (⟨#[]⟩ : ByteArray), .string (⟨#[112, 105, 110, 101]⟩ : ByteArray), .int .i64 0, .int .i64 2000, .int .i64 3, .int .i64 1800, .int .i64 10, .int .i64 2, .int .i64 3, .int .i64 0, .int .i64 0], .agg #[.string (⟨#[]⟩ : ByteArray), .string (⟨#[]⟩ : ByteArray), .string (⟨#[112, 105, 110, 101]⟩ : ByteArray), .int .i64 0, .int .i64 0, .int .i64 0, .int .i64 0, .int .i64 0, .int .i64 0, .int .i64 2000, .int .i64 0, .slice none 0 0, .int .i64 0, .int .i64 1700, .int .i64 1850, .int .i64 0, .bool true, .int .i64 4]] (by rfl) rfl rfl (by first | rfl | (simp only [List.map_toArray, List.map_cons, List.map_nil]; rfl)) ?_
    refine (order_Fits.calls 50 (⟨#[]⟩ : ByteArray) (⟨#[112, 105, 110, 101]⟩ : ByteArray) 0 2000 3 1800 10 2 3 0 0 (⟨#[]⟩ : ByteArray) (⟨#[]⟩ : ByteArray) (⟨#[112, 105, 110, 101]⟩ : ByteArray) 0 0 0 0 0 0 2000 0 _ _ ([] : List S176) 0 1700 1850 0 true 4 26 _ ?_ ?_ (awake_fits4 _)).mono ?_
    ·exact Kd.C_nil _ _
    ·exact Nat.le_refl _
    rintro e w21 ⟨rfl, hb⟩
    refine ⟨_, rfl, ?_⟩
    replace HB := q_ (pT HB.out hb)
    replace BKgx := q_ (bB BKgx.out hb)
    replace HWc := q_ (pT HWc.out hb)
    clear hb
    refine hK.out _ _ HWc.out (fun hHeld => ?_)
    clear hK K hHeld
    refine norm_ (a' := ?_) ?_ ?_
    rotate_left
    ·show Act.put _ (some 47) _ = _
     simp only [Act.put, List.setIfInBounds_toArray, List.set_cons_zero, List.set_cons_succ, i64_w, i32_w]
     rfl
    refine pure_ (i := 8) (N := some 48) (v := ?_) (a' := ?_) #[true, true, true, true, true, true, true, true, true, false, false, false, false, false, false, false, false, false, false, false, false, false, false, false, false, false, false, false, false, false, false, false, false] rfl rfl (any_of HT_.out (by kernel_rfl)) (fun _ _ _ h => h) (Or.inl ⟨by rfl, ?_⟩) ?_ ?_
    rotate_left
    ·intro w'
     go_simp
     with_reducible rfl
    rotate_left
    ·simp only [Act.put, List.setIfInBounds_toArray, List.set_cons_zero, List.set_cons_succ, i64_w, i32_w]
     rfl
    refine pure_ (i := 9) (N := some 49) (v := ?_) (a' := ?_) #[true, true, true, true, true, true, true, true, true, true, false, false, false, false, false, false, false, false, false, false, false, false, false, false, false, false, false, false, false, false, false, false, false] rfl rfl (any_of HT_.out (by kernel_rfl)) (fun _ _ _ h => h) (Or.inl ⟨by rfl, ?_⟩) ?_ ?_
    rotate_left
    ·intro w'
     go_simp
     with_reducible rfl
    rotate_left
    ·simp only [Act.put, List.setIfInBounds_toArray, List.set_cons_zero, List.set_cons_succ, i64_w, i32_w]
     rfl
    refine pure_ (i := 10) (N := some 50) (v := ?_) (a' := ?_) #[true, true, true, true, true, true, true, true, true, true, true, false, false, false, false, false, false, false, false, false, false, false, false, false, false, false, false, false, false, false, false, false, false] rfl rfl (any_of HT_.out (by kernel_rfl)) (fun _ _ _ h => h) (Or.inl ⟨by rfl, ?_⟩) ?_ ?_
    rotate_left
    ·intro w'
     go_simp
     with_reducible rfl
    rotate_left
    ·simp only [Act.put, List.setIfInBounds_toArray, List.set_cons_zero, List.set_cons_succ, i64_w, i32_w]
     rfl
    refine pure_ (i := 12) (N := some 52) (v := ?_) (a' := ?_) #[true, true, true, true, true, true, true, true, true, true, true, false, true, false, false, false, false, false, false, false, false, false, false, false, false, false, false, false, false, false, false, false, false] rfl rfl (any_of HT_.out (by kernel_rfl)) (fun _ _ _ h => h) (Or.inl ⟨by rfl, ?_⟩) ?_ ?_
    rotate_left
    ·intro w'
     go_simp
     with_reducible rfl
    rotate_left
    ·simp only [Act.put, List.setIfInBounds_toArray, List.set_cons_zero, List.set_cons_succ, i64_w, i32_w]
     rfl
    refine take_ (i := 11) (N := some 51) (v := ?_) (a' := ?_) #[true, true, true, true, true, true, true, true, true, true, true, true, true, false, false, false, false, false, false, false, false, false, false, false, false, false, false, false, false, false, false, false, false] rfl rfl (take_ofW HT_.out HW_.out (by kernel_rfl)) (fun _ _ _ h => h) (Or.inl ⟨by rfl, ?_⟩) HWc.out ?_ ?_
    rotate_left
    ·intro w' hw
     refine exec_load_blk 23 (.tmp 1) ?_ go ?_ (bB BKgo.out hw) hu23 rfl ?_
     ·exact rfl
     ·exact rfl
     ·kernel_rfl
    rotate_left
    ·simp only [Act.put, List.setIfInBounds_toArray, List.set_cons_zero, List.set_cons_succ, i64_w, i32_w]
     rfl
    refine one_ (i := 13) (N := some 53) #[true, true, true, true, true, true, true, true, true, true, true, true, true, true, false, false, false, false, false, false, false, false, false, false, false, false, false, false, false, false, false, false, false] rfl rfl (one_of HT_.out (by kernel_rfl)) (by decide) (fun K hK => ?_)
    refine goes_ Tryd.func20 (by kernel_rfl) rfl #[.agg #[.string (⟨#[]⟩ : ByteArray), .string (⟨#[112, 105, 110, 101]⟩ : ByteArray), .int .i64 0, .int .i64 2000, .int .i64 3, .int .i64 1800, .int .i64 10, .int .i64 2, .int .i64 3, .int .i64 0, .int .i64 0], .slice (some ⟨gl, 0, none⟩) (awL 8).length c4] (by rfl) rfl rfl (by first | rfl | (simp only [List.map_toArray, List.map_cons, List.map_nil]; rfl)) ?_
    refine (order_Filled.calls 50 (⟨#[]⟩ : ByteArray) (⟨#[112, 105, 110, 101]⟩ : ByteArray) 0 2000 3 1800 10 2 3 0 0 _ _ (awL 8) true _ ?_ ?_ awake_filled).mono ?_
    ·exact Kd.C_below HC.out HWc.out
    ·exact hc4
    rintro e w22 ⟨rfl, hb⟩
    refine ⟨_, rfl, ?_⟩
    replace HB := q_ (pT HB.out hb)
    replace BKgx := q_ (bB BKgx.out hb)
    replace HWc := q_ (pT HWc.out hb)
    clear hb
    refine hK.out _ _ HWc.out (fun hHeld => ?_)
    clear hK K hHeld
    refine norm_ (a' := ?_) ?_ ?_
    rotate_left
    ·show Act.put _ (some 53) _ = _
     simp only [Act.put, List.setIfInBounds_toArray, List.set_cons_zero, List.set_cons_succ, i64_w, i32_w]
     rfl
    refine pure_ (i := 14) (N := some 54) (v := ?_) (a' := ?_) #[true, true, true, true, true, true, true, true, true, true, true, true, true, true, true, false, false, false, false, false, false, false, false, false, false, false, false, false, false, false, false, false, false] rfl rfl (any_of HT_.out (by kernel_rfl)) (fun _ _ _ h => h) (Or.inl ⟨by rfl, ?_⟩) ?_ ?_
    rotate_left
    ·intro w'
     go_simp
     with_reducible rfl
    rotate_left
    ·simp only [Act.put, List.setIfInBounds_toArray, List.set_cons_zero, List.set_cons_succ, i64_w, i32_w]
     rfl
    refine pure_ (i := 15) (N := some 55) (v := ?_) (a' := ?_) #[true, true, true, true, true, true, true, true, true, true, true, true, true, true, true, true, false, false, false, false, false, false, false, false, false, false, false, false, false, false, false, false, false] rfl rfl (any_of HT_.out (by kernel_rfl)) (fun _ _ _ h => h) (Or.inl ⟨by rfl, ?_⟩) ?_ ?_
    rotate_left
    ·intro w'
     go_simp
     with_reducible rfl
    rotate_left
    ·simp only [Act.put, List.setIfInBounds_toArray, List.set_cons_zero, List.set_cons_succ, i64_w, i32_w]
     rfl
    refine pure_ (i := 16) (N := some 56) (v := ?_) (a' := ?_) #[true, true, true, true, true, true, true, true, true, true, true, true, true, true, true, true, true, false, false, false, false, false, false, false, false, false, false, false, false, false, false, false, false] rfl rfl (any_of HT_.out (by kernel_rfl)) (fun _ _ _ h => h) (Or.inl ⟨by rfl, ?_⟩) ?_ ?_
    rotate_left
    ·intro w'
     go_simp
     with_reducible rfl
    rotate_left
    ·simp only [Act.put, List.setIfInBounds_toArray, List.set_cons_zero, List.set_cons_succ, i64_w, i32_w]
     rfl
    refine pure_ (i := 18) (N := some 58) (v := ?_) (a' := ?_) #[true, true, true, true, true, true, true, true, true, true, true, true, true, true, true, true, true, false, true, false, false, false, false, false, false, false, false, false, false, false, false, false, false] rfl rfl (any_of HT_.out (by kernel_rfl)) (fun _ _ _ h => h) (Or.inl ⟨by rfl, ?_⟩) ?_ ?_
    rotate_left
    ·intro w'
     go_simp
     with_reducible rfl
    rotate_left
    ·simp only [Act.put, List.setIfInBounds_toArray, List.set_cons_zero, List.set_cons_succ, i64_w, i32_w]
     rfl
    refine pure_ (i := 19) (N := some 59) (v := ?_) (a' := ?_) #[true, true, true, true, true, true, true, true, true, true, true, true, true, true, true, true, true, false, true, true, false, false, false, false, false, false, false, false, false, false, false, false, false] rfl rfl (any_of HT_.out (by kernel_rfl)) (fun _ _ _ h => h) (Or.inl ⟨by rfl, ?_⟩) ?_ ?_
    rotate_left
    ·intro w'
     go_simp
     with_reducible rfl
    rotate_left
    ·simp only [Act.put, List.setIfInBounds_toArray, List.set_cons_zero, List.set_cons_succ, i64_w, i32_w]
     rfl
    refine take_ (i := 17) (N := some 57) (v := ?_) (a' := ?_) #[true, true, true, true, true, true, true, true, true, true, true, true, true, true, true, true, true, true, true, true, false, false, false, false, false, false, false, false, false, false, false, false, false] rfl rfl (take_ofW HT_.out HW_.out (by kernel_rfl)) (fun _ _ _ h => h) (Or.inl ⟨by rfl, ?_⟩) HWc.out ?_ ?_
    rotate_left
    ·intro w' hw
     refine exec_load_blk 23 (.tmp 1) ?_ go ?_ (bB BKgo.out hw) hu23 rfl ?_
     ·exact rfl
     ·exact rfl
     ·kernel_rfl
    rotate_left
    ·simp only [Act.put, List.setIfInBounds_toArray, List.set_cons_zero, List.set_cons_succ, i64_w, i32_w]
     rfl
    have hC1 : Kd.C k38 wr (some ⟨gl, 18, none⟩) ((awL 8).drop 1).length ((awL 8).drop 1) := by
     have h_ := Kd.C_drop (m := 1) (c := c4) HC.out (by decide) hc4
     rw [if_neg (by omega)] at h_
     exact h_
    refine one_ (i := 20) (N := some 60) #[true, true, true, true, true, true, true, true, true, true, true, true, true, true, true, true, true, true, true, true, true, false, false, false, false, false, false, false, false, false, false, false, false] rfl rfl (one_of HT_.out (by kernel_rfl)) (by decide) (fun K hK => ?_)
    refine goes_ Tryd.func20 (by kernel_rfl) rfl #[.agg #[.string (⟨#[]⟩ : ByteArray), .string (⟨#[112, 105, 110, 101]⟩ : ByteArray), .int .i64 0, .int .i64 2000, .int .i64 3, .int .i64 1800, .int .i64 10, .int .i64 2, .int .i64 3, .int .i64 0, .int .i64 0], .slice (some ⟨gl, 18, none⟩) ((awL 8).drop 1).length (c4 - 1)] (by rfl) rfl rfl (by first | rfl | (simp only [List.map_toArray, List.map_cons, List.map_nil]; rfl)) ?_
    refine (order_Filled.calls 50 (⟨#[]⟩ : ByteArray) (⟨#[112, 105, 110, 101]⟩ : ByteArray) 0 2000 3 1800 10 2 3 0 0 _ _ ((awL 8).drop 1) false _ ?_ ?_ awake_filled1).mono ?_
    ·exact Kd.C_below hC1 HWc.out
    ·exact (show 7 ≤ c4 - 1 by omega)
    rintro e w23 ⟨rfl, hb⟩
    refine ⟨_, rfl, ?_⟩
    replace HB := q_ (pT HB.out hb)
    replace BKgx := q_ (bB BKgx.out hb)
    replace HWc := q_ (pT HWc.out hb)
    clear hb
    refine hK.out _ _ HWc.out (fun hHeld => ?_)
    clear hK K hHeld
    refine norm_ (a' := ?_) ?_ ?_
    rotate_left
    ·show Act.put _ (some 60) _ = _
     simp only [Act.put, List.setIfInBounds_toArray, List.set_cons_zero, List.set_cons_succ, i64_w, i32_w]
     rfl
    refine pure_ (i := 21) (N := some 61) (v := ?_) (a' := ?_) #[true, true, true, true, true, true, true, true, true, true, true, true, true, true, true, true, true, true, true, true, true, true, false, false, false, false, false, false, false, false, false, false, false] rfl rfl (any_of HT_.out (by kernel_rfl)) (fun _ _ _ h => h) (Or.inl ⟨by rfl, ?_⟩) ?_ ?_
    rotate_left
    ·intro w'
     go_simp
     with_reducible rfl
    rotate_left
    ·simp only [Act.put, List.setIfInBounds_toArray, List.set_cons_zero, List.set_cons_succ, i64_w, i32_w]
     rfl
    refine pure_ (i := 22) (N := some 62) (v := ?_) (a' := ?_) #[true, true, true, true, true, true, true, true, true, true, true, true, true, true, true, true, true, true, true, true, true, true, true, false, false, false, false, false, false, false, false, false, false] rfl rfl (any_of HT_.out (by kernel_rfl)) (fun _ _ _ h => h) (Or.inl ⟨by rfl, ?_⟩) ?_ ?_
    rotate_left
    ·intro w'
     go_simp
     with_reducible rfl
    rotate_left
    ·simp only [Act.put, List.setIfInBounds_toArray, List.set_cons_zero, List.set_cons_succ, i64_w, i32_w]
     rfl
    refine pure_ (i := 24) (N := some 64) (v := ?_) (a' := ?_) #[true, true, true, true, true, true, true, true, true, true, true, true, true, true, true, true, true, true, true, true, true, true, true, false, true, false, false, false, false, false, false, false, false] rfl rfl (any_of HT_.out (by kernel_rfl)) (fun _ _ _ h => h) (Or.inl ⟨by rfl, ?_⟩) ?_ ?_
    rotate_left
    ·intro w'
     go_simp
     with_reducible rfl
    rotate_left
    ·simp only [Act.put, List.setIfInBounds_toArray, List.set_cons_zero, List.set_cons_succ, i64_w, i32_w]
     rfl
    refine pure_ (i := 25) (N := some 65) (v := ?_) (a' := ?_) #[true, true, true, true, true, true, true, true, true, true, true, true, true, true, true, true, true, true, true, true, true, true, true, false, true, true, false, false, false, false, false, false, false] rfl rfl (any_of HT_.out (by kernel_rfl)) (fun _ _ _ h => h) (Or.inl ⟨by rfl, ?_⟩) ?_ ?_
    rotate_left
    ·intro w'
     go_simp
     with_reducible rfl
    rotate_left
    ·simp only [Act.put, List.setIfInBounds_toArray, List.set_cons_zero, List.set_cons_succ, i64_w, i32_w]
     rfl
    refine pure_ (i := 26) (N := some 66) (v := ?_) (a' := ?_) #[true, true, true, true, true, true, true, true, true, true, true, true, true, true, true, true, true, true, true, true, true, true, true, false, true, true, true, false, false, false, false, false, false] rfl rfl (any_of HT_.out (by kernel_rfl)) (fun _ _ _ h => h) (Or.inl ⟨by rfl, ?_⟩) ?_ ?_
    rotate_left
    ·intro w'
     go_simp
     with_reducible rfl
    rotate_left
    ·simp only [Act.put, List.setIfInBounds_toArray, List.set_cons_zero, List.set_cons_succ, i64_w, i32_w]
     rfl
    refine pure_ (i := 27) (N := some 67) (v := ?_) (a' := ?_) #[true, true, true, true, true, true, true, true, true, true, true, true, true, true, true, true, true, true, true, true, true, true, true, false, true, true, true, true, false, false, false, false, false] rfl rfl (any_of HT_.out (by kernel_rfl)) (fun _ _ _ h => h) (Or.inl ⟨by rfl, ?_⟩) ?_ ?_
    rotate_left
    ·intro w'
     go_simp
     with_reducible rfl
    rotate_left
    ·simp only [Act.put, List.setIfInBounds_toArray, List.set_cons_zero, List.set_cons_succ, i64_w, i32_w]
     rfl
    refine take_ (i := 23) (N := some 63) (v := ?_) (a' := ?_) #[true, true, true, true, true, true, true, true, true, true, true, true, true, true, true, true, true, true, true, true, true, true, true, true, true, true, true, true, false, false, false, false, false] rfl rfl (take_ofW HT_.out HW_.out (by kernel_rfl)) (fun _ _ _ h => h) (Or.inl ⟨by rfl, ?_⟩) HWc.out ?_ ?_
    rotate_left
    ·intro w' hw
     refine exec_load_blk 23 (.tmp 1) ?_ go ?_ (bB BKgo.out hw) hu23 rfl ?_
     ·exact rfl
     ·exact rfl
     ·kernel_rfl
    rotate_left
    ·simp only [Act.put, List.setIfInBounds_toArray, List.set_cons_zero, List.set_cons_succ, i64_w, i32_w]
     rfl
    obtain ⟨c0, hc0l, hc0K, hc0⟩ : ∃ c0 : List Value, c0.length = 18 ∧ k38.K wr (awB 0) c0 ∧ ∀ j u, c0[j]? = some u → wr.cell? ((⟨gl, 0, none⟩ : Addr).add j) = some u := by
     obtain ⟨ad, e, h_⟩ := HC.out.2.2 (by decide)
     obtain ⟨c0, hl, hK, hcl⟩ := h_ 0 (awB 0) rfl
     injection e with e
     subst e
     exact ⟨c0, hl, hK, fun j u hj => by simpa using hcl j u hj⟩
    obtain ⟨A11, c11, hce⟩ : ∃ A11 c11, c0 = [.string (awId 0), .string (⟨#[]⟩ : ByteArray), .string (⟨#[112, 105, 110, 101]⟩ : ByteArray), .int .i64 0, .int .i64 0, .int .i64 0, .int .i64 0, .int .i64 0, .int .i64 0, .int .i64 2000, .int .i64 0, .slice A11 0 c11, .int .i64 0, .int .i64 1700, .int .i64 1850, .int .i64 0, .bool true, .int .i64 2] := by
     obtain ⟨A11, c11, e, _⟩ := k38_open hc0K
     exact ⟨A11, c11, e⟩
    subst hce
    replace hc0K := Aside0.mk hc0K
    replace hc0 := Aside0.mk hc0
    refine take_ (i := 28) (N := some 68) (v := ?_) (a' := ?_) #[true, true, true, true, true, true, true, true, true, true, true, true, true, true, true, true, true, true, true, true, true, true, true, true, true, true, true, true, true, false, false, false, false] rfl rfl (take_ofW HT_.out HW_.out (by kernel_rfl)) (fun _ _ _ h => h) (Or.inl ⟨by rfl, ?_⟩) HWc.out ?_ ?_
    rotate_left
    ·intro w' hw
     refine exec_load_at 38 (.tmp 67) ?_ ⟨gl, 0, none⟩ ?_ #[.string (awId 0), .string (⟨#[]⟩ : ByteArray), .string (⟨#[112, 105, 110, 101]⟩ : ByteArray), .int .i64 0, .int .i64 0, .int .i64 0, .int .i64 0, .int .i64 0, .int .i64 0, .int .i64 2000, .int .i64 0, .slice A11 0 c11, .int .i64 0, .int .i64 1700, .int .i64 1850, .int .i64 0, .bool true, .int .i64 2] (fun j v hv => pw_cell_below hw (hc0.out j v hv)) hu38 rfl ?_
     ·exact rfl
     ·exact rfl
     ·kernel_rfl
    rotate_left
    ·simp only [Act.put, List.setIfInBounds_toArray, List.set_cons_zero, List.set_cons_succ, i64_w, i32_w]
     rfl
    refine one_ (i := 29) (N := some 69) #[true, true, true, true, true, true, true, true, true, true, true, true, true, true, true, true, true, true, true, true, true, true, true, true, true, true, true, true, true, true, false, false, false] rfl rfl (one_of HT_.out (by kernel_rfl)) (by decide) (fun K hK => ?_)
    refine step_lit (by rfl) (some 69) rfl 1 #[.string (awId 0), .string (⟨#[]⟩ : ByteArray), .string (⟨#[112, 105, 110, 101]⟩ : ByteArray), .int .i64 0, .int .i64 0, .int .i64 0, .int .i64 0, .int .i64 0, .int .i64 0, .int .i64 2000, .int .i64 0, .slice A11 0 c11, .int .i64 0, .int .i64 1700, .int .i64 1850, .int .i64 0, .bool true, .int .i64 2] 38 ?_ ?_
    ·first
     | (go_simp; done)
     | (go_simp; rfl)
    intro g1 hg w24 hbox hb
    have BKg1 := q_ (C_of_blk1 k38 (x := awB 0) hbox (k38.K_below (pT HWc.out hb) hc0K.out))
    clear hg hbox
    replace HB := q_ (pT HB.out hb)
    replace BKgx := q_ (bB BKgx.out hb)
    replace HWc := q_ (pT HWc.out hb)
    clear hb
    refine hK.out _ _ HWc.out (fun hHeld => ?_)
    clear hK K hHeld
    refine norm_ (a' := ?_) ?_ ?_
    rotate_left
    ·show Act.put _ (some 69) _ = _
     simp only [Act.put, List.setIfInBounds_toArray, List.set_cons_zero, List.set_cons_succ, i64_w, i32_w]
     rfl
    refine one_ (i := 30) (N := some 70) #[true, true, true, true, true, true, true, true, true, true, true, true, true, true, true, true, true, true, true, true, true, true, true, true, true, true, true, true, true, true, true, false, false] rfl rfl (one_of HT_.out (by kernel_rfl)) (by decide) (fun K hK => ?_)
    have hC7 : Kd.C k38 wr (some ⟨gl, 0, none⟩) 7 ((awL 8).take 7) := Kd.C_take HC.out (by decide)
    obtain ⟨i38, hi38, hz38, hs38, hb38⟩ : ∃ i, Tryd.prog.info? 38 = some i ∧ i.zero = some (.agg #[.string (⟨#[]⟩ : ByteArray), .string (⟨#[]⟩ : ByteArray), .string (⟨#[]⟩ : ByteArray), .int .i64 0, .int .i64 0, .int .i64 0, .int .i64 0, .int .i64 0, .int .i64 0, .int .i64 0, .int .i64 0, .slice none 0 0, .int .i64 0, .int .i64 0, .int .i64 0, .int .i64 0, .bool false, .int .i64 0]) ∧ i.size = 18 ∧ i.bytes = 184 := by
     have h_ := awInfo38
     cases hq : Tryd.prog.info? 38 with
     | none => simp [hq] at h_
     | some i => rw [hq] at h_; simp only [Option.map_some, Option.some.injEq, Prod.mk.injEq] at h_; exact ⟨i, rfl, h_.1, h_.2.1, h_.2.2⟩
    refine step_append_grows k38 (by rfl) (.tmp 65) (.tmp 69) 42 38 (some 70) rfl rfl i38 (.agg #[.string (⟨#[]⟩ : ByteArray), .string (⟨#[]⟩ : ByteArray), .string (⟨#[]⟩ : ByteArray), .int .i64 0, .int .i64 0, .int .i64 0, .int .i64 0, .int .i64 0, .int .i64 0, .int .i64 0, .int .i64 0, .slice none 0 0, .int .i64 0, .int .i64 0, .int .i64 0, .int .i64 0, .bool false, .int .i64 0]) 184 Tryd.underlying42 hi38 hz38 hs38 hb38 rfl (by decide) ⟨gl, 0, none⟩ ⟨g1, 0, none⟩ 7 7 1 1 ((awL 8).take 7) [awB 0] (by rfl) (by rfl) (Kd.C_below hC7 HWc.out) BKg1.out (by decide) (by decide) (by decide) 8 rfl ?_
    intro w25 A8 c8 hC8 hc8 hb
    clear hi38 hz38 hs38 hb38 BKg1
    replace hC8 := Aside0.mk hC8
    replace HB := q_ (pT HB.out hb)
    replace BKgx := q_ (bB BKgx.out hb)
    replace HWc := q_ (pT HWc.out hb)
    clear hb
    refine hK.out _ _ HWc.out (fun hHeld => ?_)
    clear hK K hHeld
    refine norm_ (a' := ?_) ?_ ?_
    rotate_left
    ·show Act.put _ (some 70) _ = _
     simp only [Act.put, List.setIfInBounds_toArray, List.set_cons_zero, List.set_cons_succ, i64_w, i32_w]
     rfl
    have hC8b : Kd.C k38 w25 A8 ((awL 8).take 7 ++ [awB 0]).length ((awL 8).take 7 ++ [awB 0]) := hC8.out
    refine one_ (i := 31) (N := some 71) #[true, true, true, true, true, true, true, true, true, true, true, true, true, true, true, true, true, true, true, true, true, true, true, true, true, true, true, true, true, true, true, true, false] rfl rfl (one_of HT_.out (by kernel_rfl)) (by decide) (fun K hK => ?_)
    refine goes_ Tryd.func20 (by kernel_rfl) rfl #[.agg #[.string (⟨#[]⟩ : ByteArray), .string (⟨#[112, 105, 110, 101]⟩ : ByteArray), .int .i64 0, .int .i64 2000, .int .i64 3, .int .i64 1800, .int .i64 10, .int .i64 2, .int .i64 3, .int .i64 0, .int .i64 0], .slice A8 ((awL 8).take 7 ++ [awB 0]).length c8] (by rfl) rfl rfl (by first | rfl | (simp only [List.map_toArray, List.map_cons, List.map_nil]; rfl)) ?_
    refine (order_Filled.calls 50 (⟨#[]⟩ : ByteArray) (⟨#[112, 105, 110, 101]⟩ : ByteArray) 0 2000 3 1800 10 2 3 0 0 _ _ ((awL 8).take 7 ++ [awB 0]) false _ ?_ ?_ awake_filled2).mono ?_
    ·exact hC8b
    ·exact hc8
    rintro e w26 ⟨rfl, hb⟩
    refine ⟨_, rfl, ?_⟩
    replace HB := q_ (pT HB.out hb)
    replace BKgx := q_ (bB BKgx.out hb)
    replace HWc := q_ (pT HWc.out hb)
    clear hb
    refine hK.out _ _ HWc.out (fun hHeld => ?_)
    clear hK K hHeld
    refine norm_ (a' := ?_) ?_ ?_
    rotate_left
    ·show Act.put _ (some 71) _ = _
     simp only [Act.put, List.setIfInBounds_toArray, List.set_cons_zero, List.set_cons_succ, i64_w, i32_w]
     rfl
    clear hC8b hC8 hc8
    refine pure_ (i := 32) (N := some 72) (v := ?_) (a' := ?_) #[true, true, true, true, true, true, true, true, true, true, true, true, true, true, true, true, true, true, true, true, true, true, true, true, true, true, true, true, true, true, true, true, true] rfl rfl (any_of HT_.out (by kernel_rfl)) (fun _ _ _ h => h) (Or.inl ⟨by rfl, ?_⟩) ?_ ?_
    rotate_left
    ·intro w'
     go_simp
     with_reducible rfl
    rotate_left
    ·simp only [Act.put, List.setIfInBounds_toArray, List.set_cons_zero, List.set_cons_succ, i64_w, i32_w]
     rfl
    refine done_ (done_of HT_.out (by kernel_rfl)) ?_

    go_wp2_with (first | (refine wpList_load_cells (by rfl) 23 (.tmp 1) rfl ⟨go, 0, none⟩ (by rfl) _ _ (cells_of_blk (bB BKgo.out HWc.out)) Tryd.underlying23 rfl (by kernel_rfl) ?_) | (refine wpList_load_cells (by rfl) 23 (.tmp 8) rfl ⟨gx, 0, none⟩ (by rfl) _ _ (cells_of_blk BKgx.out) Tryd.underlying23 rfl (by kernel_rfl) ?_) | ((with_reducible refine gate_callee (f := 16) rfl ?_); (try (refine gate_guard (by rfl) ?_; dsimp only)); refine goesL_ (some 74) rfl rfl Tryd.func16 (by kernel_rfl) rfl #[.agg #[.string (⟨#[]⟩ : ByteArray), .string (⟨#[112, 105, 110, 101]⟩ : ByteArray), .int .i64 0, .int .i64 2000, .int .i64 3, .int .i64 1800, .int .i64 10, .int .i64 2, .int .i64 3, .int .i64 0, .int .i64 0]] rfl (by first | rfl | (simp only [List.map_toArray, List.map_cons, List.map_nil]; rfl)) ?_; refine (order_Least.calls (⟨#[]⟩ : ByteArray) (⟨#[112, 105, 110, 101]⟩ : ByteArray) 0 2000 3 1800 10 2 3 0 0 8 _ awake_least).mono ?_; rintro e w30 ⟨rfl, hb⟩; refine ⟨_, rfl, ?_⟩; replace HB := q_ (pT HB.out hb); replace HWc := q_ (pT HWc.out hb); replace BKgx := q_ (bB BKgx.out hb); clear hb) | ((with_reducible refine gate_callee (f := 18) rfl ?_); (try (refine gate_guard (by rfl) ?_; dsimp only)); refine goesL_ (some 78) rfl rfl Tryd.func18 (by kernel_rfl) rfl #[.agg #[.string (⟨#[]⟩ : ByteArray), .string (⟨#[112, 105, 110, 101]⟩ : ByteArray), .int .i64 0, .int .i64 2000, .int .i64 3, .int .i64 1800, .int .i64 10, .int .i64 2, .int .i64 3, .int .i64 0, .int .i64 0]] rfl (by first | rfl | (simp only [List.map_toArray, List.map_cons, List.map_nil]; rfl)) ?_; refine (order_Most.calls (⟨#[]⟩ : ByteArray) (⟨#[112, 105, 110, 101]⟩ : ByteArray) 0 2000 3 1800 10 2 3 0 0 13 _ awake_most).mono ?_; rintro e w31 ⟨rfl, hb⟩; refine ⟨_, rfl, ?_⟩; replace HB := q_ (pT HB.out hb); replace HWc := q_ (pT HWc.out hb); replace BKgx := q_ (bB BKgx.out hb); clear hb) | ((with_reducible refine gate_callee (f := 12) rfl ?_); (try (refine gate_guard (by rfl) ?_; dsimp only)); refine goesL_ (some 106) rfl rfl Tryd.func12 (by kernel_rfl) rfl #[.agg #[.string (⟨#[]⟩ : ByteArray), .string (⟨#[112, 105, 110, 101]⟩ : ByteArray), .int .i64 0, .int .i64 2000, .int .i64 3, .int .i64 1800, .int .i64 10, .int .i64 2, .int .i64 3, .int .i64 0, .int .i64 0], .slice none 0 0] rfl (by first | rfl | (simp only [List.map_toArray, List.map_cons, List.map_nil]; rfl)) ?_; refine (order_Check.calls 50 (⟨#[]⟩ : ByteArray) (⟨#[112, 105, 110, 101]⟩ : ByteArray) 0 2000 3 1800 10 2 3 0 0 none 0 [] 6 _ (Kd.C_nil _ _) (Nat.le_refl _) awake_check).mono ?_; rintro e w32 ⟨rfl, hb⟩; refine ⟨_, rfl, ?_⟩; replace HB := q_ (pT HB.out hb); replace HWc := q_ (pT HWc.out hb); replace BKgx := q_ (bB BKgx.out hb); clear hb))
    go_ret
    exact ⟨rfl, HB.out⟩
def sawmilllaw46_awake.f : Option Bool := some true
theorem sawmilllaw46_awake.calls (r : Bool) (w : World) (h : sawmilllaw46_awake.f = some r) :
  Calls Tryd.prog 11 #[] w fun e w' => e = .returned (.bool r) ∧ Below w.heap.size w w' := by
 obtain rfl := Option.some.inj h
 exact awake_calls w
end Go.Proofs.YtblmgmhjlbkncaaDoor.PA
namespace Go.Proofs.YtblmgmhjlbkncaaDoor.PA
open Go.RowKit Go.Proofs.YtblmgmhjlbkncaaDoorW.PrintWords Go.Proofs.YtblmgmhjlbkncaaDoorW.PrintLast Go.Proofs.YtblmgmhjlbkncaaDoorW.PrintMore
attribute [local go_sem] max2_int min2_int max_two min_two max_three min_three max_four min_four
set_option linter.unusedVariables false
set_option linter.unusedSimpArgs false
end Go.Proofs.YtblmgmhjlbkncaaDoor.PA
namespace Go.Proofs.YtblmgmhjlbkncaaDoor.PA
open Go.RowKit Go.Proofs.YtblmgmhjlbkncaaDoorW.PrintWords Go.Proofs.YtblmgmhjlbkncaaDoorW.PrintLast Go.Proofs.YtblmgmhjlbkncaaDoorW.PrintMore
attribute [local go_sem] max2_int min2_int max_two min_two max_three min_three max_four min_four
set_option linter.unusedVariables false
set_option linter.unusedSimpArgs false
end Go.Proofs.YtblmgmhjlbkncaaDoor.PA
namespace Go.Proofs.YtblmgmhjlbkncaaDoor.PA
open Go.RowKit Go.Proofs.YtblmgmhjlbkncaaDoorW.PrintWords Go.Proofs.YtblmgmhjlbkncaaDoorW.PrintLast Go.Proofs.YtblmgmhjlbkncaaDoorW.PrintMore
attribute [local go_sem] max2_int min2_int max_two min_two max_three min_three max_four min_four
set_option linter.unusedVariables false
set_option linter.unusedSimpArgs false
end Go.Proofs.YtblmgmhjlbkncaaDoor.PA
namespace Go.Proofs.YtblmgmhjlbkncaaDoor.PA
open Go.RowKit Go.Proofs.YtblmgmhjlbkncaaDoorW.PrintWords Go.Proofs.YtblmgmhjlbkncaaDoorW.PrintLast Go.Proofs.YtblmgmhjlbkncaaDoorW.PrintMore
attribute [local go_sem] max2_int min2_int max_two min_two max_three min_three max_four min_four
set_option linter.unusedVariables false
set_option linter.unusedSimpArgs false
end Go.Proofs.YtblmgmhjlbkncaaDoor.PA
namespace Go.Proofs.YtblmgmhjlbkncaaDoor.PA
open Go.RowKit Go.Proofs.YtblmgmhjlbkncaaDoorW.PrintWords Go.Proofs.YtblmgmhjlbkncaaDoorW.PrintLast Go.Proofs.YtblmgmhjlbkncaaDoorW.PrintMore
attribute [local go_sem] max2_int min2_int max_two min_two max_three min_three max_four min_four
set_option linter.unusedVariables false
set_option linter.unusedSimpArgs false
end Go.Proofs.YtblmgmhjlbkncaaDoor.PA
namespace Go.Proofs.YtblmgmhjlbkncaaDoor.PA
open Go.RowKit Go.Proofs.YtblmgmhjlbkncaaDoorW.PrintWords Go.Proofs.YtblmgmhjlbkncaaDoorW.PrintLast Go.Proofs.YtblmgmhjlbkncaaDoorW.PrintMore
attribute [local go_sem] max2_int min2_int max_two min_two max_three min_three max_four min_four
set_option linter.unusedVariables false
set_option linter.unusedSimpArgs false
end Go.Proofs.YtblmgmhjlbkncaaDoor.PA
namespace Go.Proofs.YtblmgmhjlbkncaaDoor.PA
open Go.RowKit Go.Proofs.YtblmgmhjlbkncaaDoorW.PrintWords Go.Proofs.YtblmgmhjlbkncaaDoorW.PrintLast Go.Proofs.YtblmgmhjlbkncaaDoorW.PrintMore
attribute [local go_sem] max2_int min2_int max_two min_two max_three min_three max_four min_four
set_option linter.unusedVariables false
set_option linter.unusedSimpArgs false
end Go.Proofs.YtblmgmhjlbkncaaDoor.PA
namespace Go.Proofs.YtblmgmhjlbkncaaDoor.PA
open Go.RowKit Go.Proofs.YtblmgmhjlbkncaaDoorW.PrintWords Go.Proofs.YtblmgmhjlbkncaaDoorW.PrintLast Go.Proofs.YtblmgmhjlbkncaaDoorW.PrintMore
attribute [local go_sem] max2_int min2_int max_two min_two max_three min_three max_four min_four
set_option linter.unusedVariables false
set_option linter.unusedSimpArgs false
end Go.Proofs.YtblmgmhjlbkncaaDoor.PA
namespace Go.Proofs.YtblmgmhjlbkncaaDoor.PA
open Go.RowKit Go.Proofs.YtblmgmhjlbkncaaDoorW.PrintWords Go.Proofs.YtblmgmhjlbkncaaDoorW.PrintLast Go.Proofs.YtblmgmhjlbkncaaDoorW.PrintMore
attribute [local go_sem] max2_int min2_int max_two min_two max_three min_three max_four min_four
set_option linter.unusedVariables false
set_option linter.unusedSimpArgs false
end Go.Proofs.YtblmgmhjlbkncaaDoor.PA
