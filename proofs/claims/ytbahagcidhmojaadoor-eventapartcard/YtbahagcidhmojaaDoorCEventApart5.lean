/- Each Go function that the law reaches as a Lean function, and that its call comes to that function's answer. -/
import Derived.Test.YtbahagcidhmojaaDoorCEventApart4
import Derived.Test.YtbahagcidhmojaaDoorVEventApart
import Derived.Test.YtbahagcidhmojaaDoorProg
import Derived.Test.YtbahagcidhmojaaDoorShelf
import Derived.Below
import Derived.Deep.Draws
import Derived.Deep.AppendLies
import Derived.Maps.AppendAt
import Derived.OwnWalk
import Derived.Laws.BytesArg
import Derived.Laws.MakeOwn
import Derived.Laws.OwnMore
import Derived.Deep.OwnRows
import Derived.Tactics
import Derived.Lib.ConvBytes
import Derived.Laws.Slices
import Derived.WalkKit
import Derived.KernelRfl
import Derived.RowKit3
import Derived.Deep.LoopGhost
import Derived.Deep.QuietTactic
import Derived.BigQuiet
import Derived.WideLaws
import Derived.Deep.DeepCutAuto
import Derived.Deep.CutBlock
import Derived.Deep.RegionHeld3
import Derived.Laws.Rows
import Derived.Lib.AppendStr
import Derived.ArgAppend
import Derived.Laws.IdiomCopy
import Derived.OrdersHeld
import Derived.Laws.BitsLemmas
import Derived.RowKit
import Derived.LoopN
import Derived.Laws.EntriesVeiled
import Derived.LaidSub
import Derived.MakeChecks
import Derived.Lib.LaidTab
namespace Go.Proofs.YtbahagcidhmojaaDoor.PA
open Go.RowKit Go.Proofs.YtbahagcidhmojaaDoorW.PrintWords Go.Proofs.YtbahagcidhmojaaDoorW.PrintLast Go.Proofs.YtbahagcidhmojaaDoorW.PrintMore
attribute [local go_sem] max2_int min2_int max_two min_two max_three min_three max_four min_four
set_option linter.unusedVariables false
set_option linter.unusedSimpArgs false
mutual
def sawmilllaw58_EventApart.j0 : Nat → Bool → Int → Int → ByteArray → ByteArray → List Int → ByteArray → Int → Int → ByteArray → ByteArray → List Int → ByteArray → Option (Bool)
  | 0, _, _, _, _, _, _, _, _, _, _, _, _, _ => none
  | k + 1, x29, x546000, x546001, x546002, x546003, x546004, x546005, x547000, x547001, x547002, x547003, x547004, x547005 => if x29 = true then ((sawmilllaw58_awake.f k).bind fun t551 => (some t551)) else ((event_Encode.f k x546000 x546001 x546002 x546003 x546004 x546005).bind fun bt552 => ((event_Encode.f k x547000 x547001 x547002 x547003 x547004 x547005).bind fun bt554 => (if bt552.2 = 0 then (if bt554.2 = 0 then ((event_Same.f k x546000 x546001 x546002 x546003 x546004 x546005 x547000 x547001 x547002 x547003 x547004 x547005).bind fun t556 => (sawmilllaw58_EventApart.j1 k ((bt552.1.toList == bt554.1.toList) != t556) x546000 x546001 x546002 x546003 x546004 x546005 x547000 x547001 x547002 x547003 x547004 x547005)) else (sawmilllaw58_EventApart.j1 k true x546000 x546001 x546002 x546003 x546004 x546005 x547000 x547001 x547002 x547003 x547004 x547005)) else (sawmilllaw58_EventApart.j1 k true x546000 x546001 x546002 x546003 x546004 x546005 x547000 x547001 x547002 x547003 x547004 x547005))))
def sawmilllaw58_EventApart.j1 : Nat → Bool → Int → Int → ByteArray → ByteArray → List Int → ByteArray → Int → Int → ByteArray → ByteArray → List Int → ByteArray → Option (Bool)
  | 0, _, _, _, _, _, _, _, _, _, _, _, _, _ => none
  | k + 1, x55, x546000, x546001, x546002, x546003, x546004, x546005, x547000, x547001, x547002, x547003, x547004, x547005 => if x55 = true then (none) else ((event_Line.f k x546000 x546001 x546002 x546003 x546004 x546005).bind fun t558 => ((event_Line.f k x547000 x547001 x547002 x547003 x547004 x547005).bind fun t559 => (if t558.toList = ([] : List UInt8) then (sawmilllaw58_EventApart.j2 k t558 t559 true x547000 x547001 x547002 x547003 x547004 x547005 x546000 x546001 x546002 x546003 x546004 x547005) else (if 0 ≤ (wrap64 ((t558.size : Int) - 1)) then (if (wrap64 ((t558.size : Int) - 1)) < (t558.size : Int) then (if (bt t558 (wrap64 ((t558.size : Int) - 1))) = 10 then ((event_Line.f k x546000 x546001 x546002 x546003 x546004 x547005).bind fun t560 => (sawmilllaw58_EventApart.j2 k t558 t559 (t560.toList != t558.toList) x547000 x547001 x547002 x547003 x547004 x547005 x546000 x546001 x546002 x546003 x546004 x547005)) else (sawmilllaw58_EventApart.j2 k t558 t559 true x547000 x547001 x547002 x547003 x547004 x547005 x546000 x546001 x546002 x546003 x546004 x547005)) else (none)) else (none)))))
def sawmilllaw58_EventApart.j2 : Nat → ByteArray → ByteArray → Bool → Int → Int → ByteArray → ByteArray → List Int → ByteArray → Int → Int → ByteArray → ByteArray → List Int → ByteArray → Option (Bool)
  | 0, _, _, _, _, _, _, _, _, _, _, _, _, _, _, _ => none
  | k + 1, x10, x11, x79, x547000, x547001, x547002, x547003, x547004, x547005, x558000, x558001, x558002, x558003, x558004, x558005 => if x79 = true then (none) else ((event_Same.f k x558000 x558001 x558002 x558003 x558004 x558005 x547000 x547001 x547002 x547003 x547004 x547005).bind fun t561 => (if ((x10.toList == x11.toList) == t561) = true then ((sawmilllaw58_awake.f k).bind fun t562 => (some t562)) else (none)))
end
def sawmilllaw58_EventApart.f (k : Nat) (a0_0 : Int) (a0_1 : Int) (a0_2 : ByteArray) (a0_3 : ByteArray) (l0_4 : List Int) (a0_5 : ByteArray) (a1_0 : Int) (a1_1 : Int) (a1_2 : ByteArray) (a1_3 : ByteArray) (l1_4 : List Int) (a1_5 : ByteArray) : Option (Bool) := (sawmilllaw58_few.f a0_0 a0_1 a0_2 a0_3 l0_4 a0_5).bind fun t547 => (if t547 = true then ((sawmilllaw58_few.f a1_0 a1_1 a1_2 a1_3 l1_4 a1_5).bind fun t548 => (if t548 = true then ((event_Check.f k a0_0 a0_1 a0_2 a0_3 l0_4 a0_5).bind fun t549 => (if t549 = 0 then ((event_Check.f k a1_0 a1_1 a1_2 a1_3 l1_4 a1_5).bind fun t550 => (sawmilllaw58_EventApart.j0 k (t550 != 0) a0_0 a0_1 a0_2 a0_3 l0_4 a0_5 a1_0 a1_1 a1_2 a1_3 l1_4 a1_5)) else (sawmilllaw58_EventApart.j0 k true a0_0 a0_1 a0_2 a0_3 l0_4 a0_5 a1_0 a1_1 a1_2 a1_3 l1_4 a1_5))) else (sawmilllaw58_EventApart.j0 k true a0_0 a0_1 a0_2 a0_3 l0_4 a0_5 a1_0 a1_1 a1_2 a1_3 l1_4 a1_5))) else (sawmilllaw58_EventApart.j0 k true a0_0 a0_1 a0_2 a0_3 l0_4 a0_5 a1_0 a1_1 a1_2 a1_3 l1_4 a1_5))
set_option maxHeartbeats 8000000 in
set_option maxRecDepth 100000 in
theorem sawmilllaw58_EventApart.calls (k : Nat) (a0_0 : Int) (a0_1 : Int) (a0_2 : ByteArray) (a0_3 : ByteArray) (A0_4 : Option Addr) (c0_4 : Nat) (l0_4 : List Int) (a0_5 : ByteArray) (a1_0 : Int) (a1_1 : Int) (a1_2 : ByteArray) (a1_3 : ByteArray) (A1_4 : Option Addr) (c1_4 : Nat) (l1_4 : List Int) (a1_5 : ByteArray) (r : Bool) (w : World) (hr0_4 : Kd.C (Kd.int .i64) w A0_4 l0_4.length l0_4) (hc0_4 : l0_4.length ≤ c0_4) (hr1_4 : Kd.C (Kd.int .i64) w A1_4 l1_4.length l1_4) (hc1_4 : l1_4.length ≤ c1_4) (h : sawmilllaw58_EventApart.f k a0_0 a0_1 a0_2 a0_3 l0_4 a0_5 a1_0 a1_1 a1_2 a1_3 l1_4 a1_5 = some r) (ht : TabW w) :
    Calls Tryd.prog 7 #[.agg #[.int .i64 a0_0, .int .i64 a0_1, .string a0_2, .string a0_3, .slice A0_4 l0_4.length c0_4, .string a0_5], .agg #[.int .i64 a1_0, .int .i64 a1_1, .string a1_2, .string a1_3, .slice A1_4 l1_4.length c1_4, .string a1_5]] w fun e w' => e = .returned (.bool r) ∧ Below w.heap.size w w' := by
  have HTB := Aside0.mk ht
  clear ht
  have hu24 := Tryd.underlying24
  have HR0_4 := Aside0.mk hr0_4
  have HC0_4 := Aside0.mk hc0_4
  clear hr0_4 hc0_4
  have HR1_4 := Aside0.mk hr1_4
  have HC1_4 := Aside0.mk hc1_4
  clear hr1_4 hc1_4
  have HB := Aside0.mk (Below.refl w.heap.size w)
  have H : ((sawmilllaw58_few.f a0_0 a0_1 a0_2 a0_3 l0_4 a0_5).bind fun t547 => (if t547 = true then ((sawmilllaw58_few.f a1_0 a1_1 a1_2 a1_3 l1_4 a1_5).bind fun t548 => (if t548 = true then ((event_Check.f k a0_0 a0_1 a0_2 a0_3 l0_4 a0_5).bind fun t549 => (if t549 = 0 then ((event_Check.f k a1_0 a1_1 a1_2 a1_3 l1_4 a1_5).bind fun t550 => (sawmilllaw58_EventApart.j0 k (t550 != 0) a0_0 a0_1 a0_2 a0_3 l0_4 a0_5 a1_0 a1_1 a1_2 a1_3 l1_4 a1_5)) else (sawmilllaw58_EventApart.j0 k true a0_0 a0_1 a0_2 a0_3 l0_4 a0_5 a1_0 a1_1 a1_2 a1_3 l1_4 a1_5))) else (sawmilllaw58_EventApart.j0 k true a0_0 a0_1 a0_2 a0_3 l0_4 a0_5 a1_0 a1_1 a1_2 a1_3 l1_4 a1_5))) else (sawmilllaw58_EventApart.j0 k true a0_0 a0_1 a0_2 a0_3 l0_4 a0_5 a1_0 a1_1 a1_2 a1_3 l1_4 a1_5))) = some r := h
  clear h
  have HC3 := Aside0.mk H
  clear H
  go_enter Tryd.func7, Tryd.ntmps7
  go_upto_region 1 with (first | ((with_reducible refine gate_dst (N := 2) rfl ?_); (try (refine gate_guard (by rfl) ?_; dsimp only)); refine box_event ?hg (N := 2) ?hd (cs := #[.int .i64 a0_0, .int .i64 a0_1, .string a0_2, .string a0_3, .slice A0_4 l0_4.length c0_4, .string a0_5]) (t := 24) ?hr ?_; (case hd => rfl); (case hg => rfl); (case hr => first | (go_simp; done) | (go_simp; rfl)); intro gb545 hg w4 hbox hb; have n0_ := Aside0.mk (below_step (by repeat (first | (with_reducible first | exact HB.out | apply below_alloc | apply pw_below_drewN | apply below_drew1) | exact HB.out)) hb); have n1_ := Aside0.mk (hbox); have n2_ := Aside0.mk ((by rw [hg]; exact (below_size (by repeat (first | (with_reducible first | exact HB.out | apply below_alloc | apply pw_below_drewN | apply below_drew1) | exact HB.out))) : w.heap.size ≤ gb545)); have n3_ := Aside0.mk ((by rw [hg]; exact (below_size (by repeat (first | (with_reducible first | exact HB.out | apply below_alloc | apply pw_below_drewN | apply below_drew1) | exact HB.out))) : w.heap.size ≤ gb545)); clear HB; have HB := n0_; have BK545 := n1_; have GW545 := n2_; have GE545 := n3_; clear n0_ n1_ n2_ n3_; clear hb hbox hg) | ((with_reducible refine gate_dst (N := 3) rfl ?_); (try (refine gate_guard (by rfl) ?_; dsimp only)); refine box_event ?hg (N := 3) ?hd (cs := #[.int .i64 a1_0, .int .i64 a1_1, .string a1_2, .string a1_3, .slice A1_4 l1_4.length c1_4, .string a1_5]) (t := 24) ?hr ?_; (case hd => rfl); (case hg => rfl); (case hr => first | (go_simp; done) | (go_simp; rfl)); intro gb546 hg w5 hbox hb; have n0_ := Aside0.mk (blk_below (g := gb545) (o := .cells #[.int .i64 a0_0, .int .i64 a0_1, .string a0_2, .string a0_3, .slice A0_4 l0_4.length c0_4, .string a0_5] 24 (0, 0)) (by (with_reducible repeat (first | refine blk_drewN ?_ _ | refine blk_drew ?_ | refine blk_alloc ?_ _)); exact BK545.out) hb); have n1_ := Aside0.mk (below_step (by repeat (first | (with_reducible first | exact HB.out | apply below_alloc | apply pw_below_drewN | apply below_drew1 | refine below_set ?_ GE545.out) | exact HB.out)) hb); have n2_ := Aside0.mk (hbox); have n3_ := Aside0.mk ((by rw [hg]; exact (below_size (by repeat (first | (with_reducible first | exact HB.out | apply below_alloc | apply pw_below_drewN | apply below_drew1 | refine below_set ?_ GE545.out) | exact HB.out))) : w.heap.size ≤ gb546)); have n4_ := Aside0.mk ((by rw [hg]; exact (below_size (by repeat (first | (with_reducible first | exact HB.out | apply below_alloc | apply pw_below_drewN | apply below_drew1 | refine below_set ?_ GE545.out) | exact HB.out))) : w.heap.size ≤ gb546)); have n5_ := Aside0.mk ((by rw [hg]; exact Nat.ne_of_lt (blk_lt (g := gb545) (o := .cells #[.int .i64 a0_0, .int .i64 a0_1, .string a0_2, .string a0_3, .slice A0_4 l0_4.length c0_4, .string a0_5] 24 (0, 0)) (by (with_reducible repeat (first | refine blk_drewN ?_ _ | refine blk_drew ?_ | refine blk_alloc ?_ _)); exact BK545.out)) : gb545 ≠ gb546)); have n6_ := Aside0.mk ((by rw [hg]; exact Nat.ne_of_gt (blk_lt (g := gb545) (o := .cells #[.int .i64 a0_0, .int .i64 a0_1, .string a0_2, .string a0_3, .slice A0_4 l0_4.length c0_4, .string a0_5] 24 (0, 0)) (by (with_reducible repeat (first | refine blk_drewN ?_ _ | refine blk_drew ?_ | refine blk_alloc ?_ _)); exact BK545.out)) : gb546 ≠ gb545)); clear BK545; clear HB; have BK545 := n0_; have HB := n1_; have BK546 := n2_; have GW546 := n3_; have GE546 := n4_; have NB545_546 := n5_; have NB546_545 := n6_; clear n0_ n1_ n2_ n3_ n4_ n5_ n6_; clear hb hbox hg))
  (try simp only [Act.put, List.setIfInBounds_toArray, List.set_cons_zero, List.set_cons_succ])
  go_cut [29] (fun v29 wc => ∃ (kq : Nat) (x29_2 : Bool), v29 = .bool x29_2 ∧ Aside0 (sawmilllaw58_EventApart.j0 kq x29_2 a0_0 a0_1 a0_2 a0_3 l0_4 a0_5 a1_0 a1_1 a1_2 a1_3 l1_4 a1_5 = some r) ∧ Aside0 (kq ≤ k) ∧ Aside0 (wc.heap[gb545]? = some (.cells #[.int .i64 a0_0, .int .i64 a0_1, .string a0_2, .string a0_3, (.slice A0_4 l0_4.length c0_4), .string a0_5] 24 (0, 0))) ∧ Aside0 (wc.heap[gb546]? = some (.cells #[.int .i64 a1_0, .int .i64 a1_1, .string a1_2, .string a1_3, (.slice A1_4 l1_4.length c1_4), .string a1_5] 24 (0, 0))) ∧ Aside0 (Below w.heap.size w wc))
  case first =>
    have H := HC3.out
    clear HC3
    replace H := Option.bind_eq_some_iff.mp H
    obtain ⟨t547, A60, H⟩ := H
    replace H : (if t547 = true then ((sawmilllaw58_few.f a1_0 a1_1 a1_2 a1_3 l1_4 a1_5).bind fun t548 => (if t548 = true then ((event_Check.f k a0_0 a0_1 a0_2 a0_3 l0_4 a0_5).bind fun t549 => (if t549 = 0 then ((event_Check.f k a1_0 a1_1 a1_2 a1_3 l1_4 a1_5).bind fun t550 => (sawmilllaw58_EventApart.j0 k (t550 != 0) a0_0 a0_1 a0_2 a0_3 l0_4 a0_5 a1_0 a1_1 a1_2 a1_3 l1_4 a1_5)) else (sawmilllaw58_EventApart.j0 k true a0_0 a0_1 a0_2 a0_3 l0_4 a0_5 a1_0 a1_1 a1_2 a1_3 l1_4 a1_5))) else (sawmilllaw58_EventApart.j0 k true a0_0 a0_1 a0_2 a0_3 l0_4 a0_5 a1_0 a1_1 a1_2 a1_3 l1_4 a1_5))) else (sawmilllaw58_EventApart.j0 k true a0_0 a0_1 a0_2 a0_3 l0_4 a0_5 a1_0 a1_1 a1_2 a1_3 l1_4 a1_5)) = some r := H
    have A6 := Aside0.mk A60
    clear A60
    by_cases c7 : t547 = true
    · subst c7
      have H1 : ((sawmilllaw58_few.f a1_0 a1_1 a1_2 a1_3 l1_4 a1_5).bind fun t548 => (if t548 = true then ((event_Check.f k a0_0 a0_1 a0_2 a0_3 l0_4 a0_5).bind fun t549 => (if t549 = 0 then ((event_Check.f k a1_0 a1_1 a1_2 a1_3 l1_4 a1_5).bind fun t550 => (sawmilllaw58_EventApart.j0 k (t550 != 0) a0_0 a0_1 a0_2 a0_3 l0_4 a0_5 a1_0 a1_1 a1_2 a1_3 l1_4 a1_5)) else (sawmilllaw58_EventApart.j0 k true a0_0 a0_1 a0_2 a0_3 l0_4 a0_5 a1_0 a1_1 a1_2 a1_3 l1_4 a1_5))) else (sawmilllaw58_EventApart.j0 k true a0_0 a0_1 a0_2 a0_3 l0_4 a0_5 a1_0 a1_1 a1_2 a1_3 l1_4 a1_5))) = some r := by rw [if_pos rfl] at H; exact H
      clear H
      have H := H1
      clear H1
      replace H := Option.bind_eq_some_iff.mp H
      obtain ⟨t548, A80, H⟩ := H
      replace H : (if t548 = true then ((event_Check.f k a0_0 a0_1 a0_2 a0_3 l0_4 a0_5).bind fun t549 => (if t549 = 0 then ((event_Check.f k a1_0 a1_1 a1_2 a1_3 l1_4 a1_5).bind fun t550 => (sawmilllaw58_EventApart.j0 k (t550 != 0) a0_0 a0_1 a0_2 a0_3 l0_4 a0_5 a1_0 a1_1 a1_2 a1_3 l1_4 a1_5)) else (sawmilllaw58_EventApart.j0 k true a0_0 a0_1 a0_2 a0_3 l0_4 a0_5 a1_0 a1_1 a1_2 a1_3 l1_4 a1_5))) else (sawmilllaw58_EventApart.j0 k true a0_0 a0_1 a0_2 a0_3 l0_4 a0_5 a1_0 a1_1 a1_2 a1_3 l1_4 a1_5)) = some r := H
      have A8 := Aside0.mk A80
      clear A80
      by_cases c9 : t548 = true
      · subst c9
        have H1 : ((event_Check.f k a0_0 a0_1 a0_2 a0_3 l0_4 a0_5).bind fun t549 => (if t549 = 0 then ((event_Check.f k a1_0 a1_1 a1_2 a1_3 l1_4 a1_5).bind fun t550 => (sawmilllaw58_EventApart.j0 k (t550 != 0) a0_0 a0_1 a0_2 a0_3 l0_4 a0_5 a1_0 a1_1 a1_2 a1_3 l1_4 a1_5)) else (sawmilllaw58_EventApart.j0 k true a0_0 a0_1 a0_2 a0_3 l0_4 a0_5 a1_0 a1_1 a1_2 a1_3 l1_4 a1_5))) = some r := by rw [if_pos rfl] at H; exact H
        clear H
        have H := H1
        clear H1
        replace H := Option.bind_eq_some_iff.mp H
        obtain ⟨t549, A100, H⟩ := H
        replace H : (if t549 = 0 then ((event_Check.f k a1_0 a1_1 a1_2 a1_3 l1_4 a1_5).bind fun t550 => (sawmilllaw58_EventApart.j0 k (t550 != 0) a0_0 a0_1 a0_2 a0_3 l0_4 a0_5 a1_0 a1_1 a1_2 a1_3 l1_4 a1_5)) else (sawmilllaw58_EventApart.j0 k true a0_0 a0_1 a0_2 a0_3 l0_4 a0_5 a1_0 a1_1 a1_2 a1_3 l1_4 a1_5)) = some r := H
        have A10 := Aside0.mk A100
        clear A100
        by_cases c11 : t549 = 0
        · rw [if_pos c11] at H
          have c11b0 : (t549 == 0) = true := beq_iff_eq.mpr c11
          have c11b1 : (t549 != 0) = false := bne_eq_false_iff_eq.mpr c11
          clear c11
          (first | rw [c11b0] | (simp only [i64_w, i32_w]; rw [c11b0]) | skip)
          replace H := Option.bind_eq_some_iff.mp H
          obtain ⟨t550, A120, H⟩ := H
          replace H : (sawmilllaw58_EventApart.j0 k (t550 != 0) a0_0 a0_1 a0_2 a0_3 l0_4 a0_5 a1_0 a1_1 a1_2 a1_3 l1_4 a1_5) = some r := H
          have A12 := Aside0.mk A120
          clear A120
          have H' := Aside0.mk H
          clear H
          have hnb13 := NB545_546.out
          have hnc13 := NB546_545.out
          have hcz14_0 : w5.cell? ⟨gb545, 0, none⟩ = some (.int .i64 a0_0) := (blk_cell BK545.out 0).trans rfl
          have hcz14_1 : w5.cell? ⟨gb545, 1, none⟩ = some (.int .i64 a0_1) := (blk_cell BK545.out 1).trans rfl
          have hcz14_2 : w5.cell? ⟨gb545, 2, none⟩ = some (.string a0_2) := (blk_cell BK545.out 2).trans rfl
          have hcz14_3 : w5.cell? ⟨gb545, 3, none⟩ = some (.string a0_3) := (blk_cell BK545.out 3).trans rfl
          have hcz14_4 : w5.cell? ⟨gb545, 4, none⟩ = some (.slice A0_4 l0_4.length c0_4) := (blk_cell BK545.out 4).trans rfl
          have hcz14_5 : w5.cell? ⟨gb545, 5, none⟩ = some (.string a0_5) := (blk_cell BK545.out 5).trans rfl
          have hfz14_0 := blk_frozen BK545.out 0
          have hfz14_1 := blk_frozen BK545.out 1
          have hfz14_2 := blk_frozen BK545.out 2
          have hfz14_3 := blk_frozen BK545.out 3
          have hfz14_4 := blk_frozen BK545.out 4
          have hfz14_5 := blk_frozen BK545.out 5
          go_wp2_with (first | ((with_reducible refine gate_callee (f := 9) rfl ?_); refine goesL_ (some 13) rfl rfl Tryd.func9 (by kernel_rfl) rfl #[.agg #[.int .i64 a0_0, .int .i64 a0_1, .string a0_2, .string a0_3, .slice A0_4 l0_4.length c0_4, .string a0_5]] rfl (by (try simp only [List.map_toArray, List.map_cons, List.map_nil]); first | done | rfl | (simp only [List.length_drop, List.length_take]; rfl)) ?_; (with_reducible refine (sawmilllaw58_few.calls a0_0 a0_1 a0_2 a0_3 _ _ l0_4 a0_5 true _ ?side1 ?side2 A6.out).mono ?_); (case side1 => repeat (first | exact (Kd.C_below HR0_4.out HB.out) | (with_reducible refine Kd.C_alloc ?_ _) | (with_reducible refine Kd.C_drewN ?_ _) | (with_reducible refine Kd.C_drew ?_))); (case side2 => exact HC0_4.out); rintro e w15 ⟨rfl, hb⟩; refine ⟨_, rfl, ?_⟩; have n0_ := Aside0.mk (blk_below (g := gb545) (o := .cells #[.int .i64 a0_0, .int .i64 a0_1, .string a0_2, .string a0_3, .slice A0_4 l0_4.length c0_4, .string a0_5] 24 (0, 0)) (by (with_reducible repeat (first | refine blk_drewN ?_ _ | refine blk_drew ?_ | refine blk_alloc ?_ _)); exact BK545.out) hb); have n1_ := Aside0.mk (blk_below (g := gb546) (o := .cells #[.int .i64 a1_0, .int .i64 a1_1, .string a1_2, .string a1_3, .slice A1_4 l1_4.length c1_4, .string a1_5] 24 (0, 0)) (by (with_reducible repeat (first | refine blk_drewN ?_ _ | refine blk_drew ?_ | refine blk_alloc ?_ _)); exact BK546.out) hb); have n2_ := Aside0.mk (below_step (by repeat (first | (with_reducible first | exact HB.out | apply below_alloc | apply pw_below_drewN | apply below_drew1 | refine below_set ?_ GE545.out | refine below_set ?_ GE546.out) | exact HB.out)) hb); clear BK545; clear BK546; clear HB; have BK545 := n0_; have BK546 := n1_; have HB := n2_; clear n0_ n1_ n2_; (try clear hb); (try clear hb2); (try clear hk); (try clear hi); have hcz16_0 : w15.cell? ⟨gb546, 0, none⟩ = some (.int .i64 a1_0) := (blk_cell BK546.out 0).trans rfl; have hcz16_1 : w15.cell? ⟨gb546, 1, none⟩ = some (.int .i64 a1_1) := (blk_cell BK546.out 1).trans rfl; have hcz16_2 : w15.cell? ⟨gb546, 2, none⟩ = some (.string a1_2) := (blk_cell BK546.out 2).trans rfl; have hcz16_3 : w15.cell? ⟨gb546, 3, none⟩ = some (.string a1_3) := (blk_cell BK546.out 3).trans rfl; have hcz16_4 : w15.cell? ⟨gb546, 4, none⟩ = some (.slice A1_4 l1_4.length c1_4) := (blk_cell BK546.out 4).trans rfl; have hcz16_5 : w15.cell? ⟨gb546, 5, none⟩ = some (.string a1_5) := (blk_cell BK546.out 5).trans rfl; have hfz16_0 := blk_frozen BK546.out 0; have hfz16_1 := blk_frozen BK546.out 1; have hfz16_2 := blk_frozen BK546.out 2; have hfz16_3 := blk_frozen BK546.out 3; have hfz16_4 := blk_frozen BK546.out 4; have hfz16_5 := blk_frozen BK546.out 5) | (go_at_call 9; (with_reducible refine (sawmilllaw58_few.calls a1_0 a1_1 a1_2 a1_3 _ _ l1_4 a1_5 true _ ?side1 ?side2 A8.out).mono ?_); (case side1 => repeat (first | exact (Kd.C_below HR1_4.out HB.out) | (with_reducible refine Kd.C_alloc ?_ _) | (with_reducible refine Kd.C_drewN ?_ _) | (with_reducible refine Kd.C_drew ?_))); (case side2 => exact HC1_4.out); rintro e w17 ⟨rfl, hb⟩; have n0_ := Aside0.mk (blk_below (g := gb545) (o := .cells #[.int .i64 a0_0, .int .i64 a0_1, .string a0_2, .string a0_3, .slice A0_4 l0_4.length c0_4, .string a0_5] 24 (0, 0)) (by (with_reducible repeat (first | refine blk_drewN ?_ _ | refine blk_drew ?_ | refine blk_alloc ?_ _)); exact BK545.out) hb); have n1_ := Aside0.mk (blk_below (g := gb546) (o := .cells #[.int .i64 a1_0, .int .i64 a1_1, .string a1_2, .string a1_3, .slice A1_4 l1_4.length c1_4, .string a1_5] 24 (0, 0)) (by (with_reducible repeat (first | refine blk_drewN ?_ _ | refine blk_drew ?_ | refine blk_alloc ?_ _)); exact BK546.out) hb); have n2_ := Aside0.mk (below_step (by repeat (first | (with_reducible first | exact HB.out | apply below_alloc | apply pw_below_drewN | apply below_drew1 | refine below_set ?_ GE545.out | refine below_set ?_ GE546.out) | exact HB.out)) hb); clear BK545; clear BK546; clear HB; have BK545 := n0_; have BK546 := n1_; have HB := n2_; clear n0_ n1_ n2_; (try clear hb); (try clear hb2); (try clear hk); (try clear hi); have hcz18_0 : w17.cell? ⟨gb545, 0, none⟩ = some (.int .i64 a0_0) := (blk_cell BK545.out 0).trans rfl; have hcz18_1 : w17.cell? ⟨gb545, 1, none⟩ = some (.int .i64 a0_1) := (blk_cell BK545.out 1).trans rfl; have hcz18_2 : w17.cell? ⟨gb545, 2, none⟩ = some (.string a0_2) := (blk_cell BK545.out 2).trans rfl; have hcz18_3 : w17.cell? ⟨gb545, 3, none⟩ = some (.string a0_3) := (blk_cell BK545.out 3).trans rfl; have hcz18_4 : w17.cell? ⟨gb545, 4, none⟩ = some (.slice A0_4 l0_4.length c0_4) := (blk_cell BK545.out 4).trans rfl; have hcz18_5 : w17.cell? ⟨gb545, 5, none⟩ = some (.string a0_5) := (blk_cell BK545.out 5).trans rfl; have hfz18_0 := blk_frozen BK545.out 0; have hfz18_1 := blk_frozen BK545.out 1; have hfz18_2 := blk_frozen BK545.out 2; have hfz18_3 := blk_frozen BK545.out 3; have hfz18_4 := blk_frozen BK545.out 4; have hfz18_5 := blk_frozen BK545.out 5) | (go_at_call 11; (with_reducible refine (event_Check.calls k a0_0 a0_1 a0_2 a0_3 _ _ l0_4 a0_5 t549 _ ?side1 ?side2 A10.out).mono ?_); (case side1 => repeat (first | exact (Kd.C_below HR0_4.out HB.out) | (with_reducible refine Kd.C_alloc ?_ _) | (with_reducible refine Kd.C_drewN ?_ _) | (with_reducible refine Kd.C_drew ?_))); (case side2 => exact HC0_4.out); rintro e w19 ⟨rfl, hb⟩; have n0_ := Aside0.mk (blk_below (g := gb545) (o := .cells #[.int .i64 a0_0, .int .i64 a0_1, .string a0_2, .string a0_3, .slice A0_4 l0_4.length c0_4, .string a0_5] 24 (0, 0)) (by (with_reducible repeat (first | refine blk_drewN ?_ _ | refine blk_drew ?_ | refine blk_alloc ?_ _)); exact BK545.out) hb); have n1_ := Aside0.mk (blk_below (g := gb546) (o := .cells #[.int .i64 a1_0, .int .i64 a1_1, .string a1_2, .string a1_3, .slice A1_4 l1_4.length c1_4, .string a1_5] 24 (0, 0)) (by (with_reducible repeat (first | refine blk_drewN ?_ _ | refine blk_drew ?_ | refine blk_alloc ?_ _)); exact BK546.out) hb); have n2_ := Aside0.mk (below_step (by repeat (first | (with_reducible first | exact HB.out | apply below_alloc | apply pw_below_drewN | apply below_drew1 | refine below_set ?_ GE545.out | refine below_set ?_ GE546.out) | exact HB.out)) hb); clear BK545; clear BK546; clear HB; have BK545 := n0_; have BK546 := n1_; have HB := n2_; clear n0_ n1_ n2_; (try clear hb); (try clear hb2); (try clear hk); (try clear hi); have hcz20_0 : w19.cell? ⟨gb546, 0, none⟩ = some (.int .i64 a1_0) := (blk_cell BK546.out 0).trans rfl; have hcz20_1 : w19.cell? ⟨gb546, 1, none⟩ = some (.int .i64 a1_1) := (blk_cell BK546.out 1).trans rfl; have hcz20_2 : w19.cell? ⟨gb546, 2, none⟩ = some (.string a1_2) := (blk_cell BK546.out 2).trans rfl; have hcz20_3 : w19.cell? ⟨gb546, 3, none⟩ = some (.string a1_3) := (blk_cell BK546.out 3).trans rfl; have hcz20_4 : w19.cell? ⟨gb546, 4, none⟩ = some (.slice A1_4 l1_4.length c1_4) := (blk_cell BK546.out 4).trans rfl; have hcz20_5 : w19.cell? ⟨gb546, 5, none⟩ = some (.string a1_5) := (blk_cell BK546.out 5).trans rfl; have hfz20_0 := blk_frozen BK546.out 0; have hfz20_1 := blk_frozen BK546.out 1; have hfz20_2 := blk_frozen BK546.out 2; have hfz20_3 := blk_frozen BK546.out 3; have hfz20_4 := blk_frozen BK546.out 4; have hfz20_5 := blk_frozen BK546.out 5) | (go_at_call 11; (with_reducible refine (event_Check.calls k a1_0 a1_1 a1_2 a1_3 _ _ l1_4 a1_5 t550 _ ?side1 ?side2 A12.out).mono ?_); (case side1 => repeat (first | exact (Kd.C_below HR1_4.out HB.out) | (with_reducible refine Kd.C_alloc ?_ _) | (with_reducible refine Kd.C_drewN ?_ _) | (with_reducible refine Kd.C_drew ?_))); (case side2 => exact HC1_4.out); rintro e w21 ⟨rfl, hb⟩; have n0_ := Aside0.mk (blk_below (g := gb545) (o := .cells #[.int .i64 a0_0, .int .i64 a0_1, .string a0_2, .string a0_3, .slice A0_4 l0_4.length c0_4, .string a0_5] 24 (0, 0)) (by (with_reducible repeat (first | refine blk_drewN ?_ _ | refine blk_drew ?_ | refine blk_alloc ?_ _)); exact BK545.out) hb); have n1_ := Aside0.mk (blk_below (g := gb546) (o := .cells #[.int .i64 a1_0, .int .i64 a1_1, .string a1_2, .string a1_3, .slice A1_4 l1_4.length c1_4, .string a1_5] 24 (0, 0)) (by (with_reducible repeat (first | refine blk_drewN ?_ _ | refine blk_drew ?_ | refine blk_alloc ?_ _)); exact BK546.out) hb); have n2_ := Aside0.mk (below_step (by repeat (first | (with_reducible first | exact HB.out | apply below_alloc | apply pw_below_drewN | apply below_drew1 | refine below_set ?_ GE545.out | refine below_set ?_ GE546.out) | exact HB.out)) hb); clear BK545; clear BK546; clear HB; have BK545 := n0_; have BK546 := n1_; have HB := n2_; clear n0_ n1_ n2_; (try clear hb); (try clear hb2); (try clear hk); (try clear hi)))
          go_meet
          case rel => exact ⟨_, ((t550 != 0)), (by first | rfl | (simp; done) | (simp [*]; done)), H', ⟨by first | omega | exact Nat.le_refl _⟩, ⟨by (with_reducible repeat (first | refine blk_drewN ?_ _ | refine blk_drew ?_ | refine blk_alloc ?_ _)); exact BK545.out⟩, ⟨by (with_reducible repeat (first | refine blk_drewN ?_ _ | refine blk_drew ?_ | refine blk_alloc ?_ _)); exact BK546.out⟩, ⟨by repeat (first | (with_reducible first | exact HB.out | apply below_alloc | apply pw_below_drewN | apply below_drew1 | refine below_set ?_ GE545.out | refine below_set ?_ GE546.out) | exact HB.out)⟩⟩
        · rw [if_neg c11] at H
          have c11b0 : (t549 == 0) = false := beq_eq_false_iff_ne.mpr c11
          have c11b1 : (t549 != 0) = true := bne_iff_ne.mpr c11
          (first | rw [c11b0] | (simp only [i64_w, i32_w]; rw [c11b0]) | skip)
          have H' := Aside0.mk H
          clear H
          have hnb22 := NB545_546.out
          have hnc22 := NB546_545.out
          have hcz23_0 : w5.cell? ⟨gb545, 0, none⟩ = some (.int .i64 a0_0) := (blk_cell BK545.out 0).trans rfl
          have hcz23_1 : w5.cell? ⟨gb545, 1, none⟩ = some (.int .i64 a0_1) := (blk_cell BK545.out 1).trans rfl
          have hcz23_2 : w5.cell? ⟨gb545, 2, none⟩ = some (.string a0_2) := (blk_cell BK545.out 2).trans rfl
          have hcz23_3 : w5.cell? ⟨gb545, 3, none⟩ = some (.string a0_3) := (blk_cell BK545.out 3).trans rfl
          have hcz23_4 : w5.cell? ⟨gb545, 4, none⟩ = some (.slice A0_4 l0_4.length c0_4) := (blk_cell BK545.out 4).trans rfl
          have hcz23_5 : w5.cell? ⟨gb545, 5, none⟩ = some (.string a0_5) := (blk_cell BK545.out 5).trans rfl
          have hfz23_0 := blk_frozen BK545.out 0
          have hfz23_1 := blk_frozen BK545.out 1
          have hfz23_2 := blk_frozen BK545.out 2
          have hfz23_3 := blk_frozen BK545.out 3
          have hfz23_4 := blk_frozen BK545.out 4
          have hfz23_5 := blk_frozen BK545.out 5
          go_wp2_with (first | ((with_reducible refine gate_callee (f := 9) rfl ?_); refine goesL_ (some 13) rfl rfl Tryd.func9 (by kernel_rfl) rfl #[.agg #[.int .i64 a0_0, .int .i64 a0_1, .string a0_2, .string a0_3, .slice A0_4 l0_4.length c0_4, .string a0_5]] rfl (by (try simp only [List.map_toArray, List.map_cons, List.map_nil]); first | done | rfl | (simp only [List.length_drop, List.length_take]; rfl)) ?_; (with_reducible refine (sawmilllaw58_few.calls a0_0 a0_1 a0_2 a0_3 _ _ l0_4 a0_5 true _ ?side1 ?side2 A6.out).mono ?_); (case side1 => repeat (first | exact (Kd.C_below HR0_4.out HB.out) | (with_reducible refine Kd.C_alloc ?_ _) | (with_reducible refine Kd.C_drewN ?_ _) | (with_reducible refine Kd.C_drew ?_))); (case side2 => exact HC0_4.out); rintro e w24 ⟨rfl, hb⟩; refine ⟨_, rfl, ?_⟩; have n0_ := Aside0.mk (blk_below (g := gb545) (o := .cells #[.int .i64 a0_0, .int .i64 a0_1, .string a0_2, .string a0_3, .slice A0_4 l0_4.length c0_4, .string a0_5] 24 (0, 0)) (by (with_reducible repeat (first | refine blk_drewN ?_ _ | refine blk_drew ?_ | refine blk_alloc ?_ _)); exact BK545.out) hb); have n1_ := Aside0.mk (blk_below (g := gb546) (o := .cells #[.int .i64 a1_0, .int .i64 a1_1, .string a1_2, .string a1_3, .slice A1_4 l1_4.length c1_4, .string a1_5] 24 (0, 0)) (by (with_reducible repeat (first | refine blk_drewN ?_ _ | refine blk_drew ?_ | refine blk_alloc ?_ _)); exact BK546.out) hb); have n2_ := Aside0.mk (below_step (by repeat (first | (with_reducible first | exact HB.out | apply below_alloc | apply pw_below_drewN | apply below_drew1 | refine below_set ?_ GE545.out | refine below_set ?_ GE546.out) | exact HB.out)) hb); clear BK545; clear BK546; clear HB; have BK545 := n0_; have BK546 := n1_; have HB := n2_; clear n0_ n1_ n2_; (try clear hb); (try clear hb2); (try clear hk); (try clear hi); have hcz25_0 : w24.cell? ⟨gb546, 0, none⟩ = some (.int .i64 a1_0) := (blk_cell BK546.out 0).trans rfl; have hcz25_1 : w24.cell? ⟨gb546, 1, none⟩ = some (.int .i64 a1_1) := (blk_cell BK546.out 1).trans rfl; have hcz25_2 : w24.cell? ⟨gb546, 2, none⟩ = some (.string a1_2) := (blk_cell BK546.out 2).trans rfl; have hcz25_3 : w24.cell? ⟨gb546, 3, none⟩ = some (.string a1_3) := (blk_cell BK546.out 3).trans rfl; have hcz25_4 : w24.cell? ⟨gb546, 4, none⟩ = some (.slice A1_4 l1_4.length c1_4) := (blk_cell BK546.out 4).trans rfl; have hcz25_5 : w24.cell? ⟨gb546, 5, none⟩ = some (.string a1_5) := (blk_cell BK546.out 5).trans rfl; have hfz25_0 := blk_frozen BK546.out 0; have hfz25_1 := blk_frozen BK546.out 1; have hfz25_2 := blk_frozen BK546.out 2; have hfz25_3 := blk_frozen BK546.out 3; have hfz25_4 := blk_frozen BK546.out 4; have hfz25_5 := blk_frozen BK546.out 5) | (go_at_call 9; (with_reducible refine (sawmilllaw58_few.calls a1_0 a1_1 a1_2 a1_3 _ _ l1_4 a1_5 true _ ?side1 ?side2 A8.out).mono ?_); (case side1 => repeat (first | exact (Kd.C_below HR1_4.out HB.out) | (with_reducible refine Kd.C_alloc ?_ _) | (with_reducible refine Kd.C_drewN ?_ _) | (with_reducible refine Kd.C_drew ?_))); (case side2 => exact HC1_4.out); rintro e w26 ⟨rfl, hb⟩; have n0_ := Aside0.mk (blk_below (g := gb545) (o := .cells #[.int .i64 a0_0, .int .i64 a0_1, .string a0_2, .string a0_3, .slice A0_4 l0_4.length c0_4, .string a0_5] 24 (0, 0)) (by (with_reducible repeat (first | refine blk_drewN ?_ _ | refine blk_drew ?_ | refine blk_alloc ?_ _)); exact BK545.out) hb); have n1_ := Aside0.mk (blk_below (g := gb546) (o := .cells #[.int .i64 a1_0, .int .i64 a1_1, .string a1_2, .string a1_3, .slice A1_4 l1_4.length c1_4, .string a1_5] 24 (0, 0)) (by (with_reducible repeat (first | refine blk_drewN ?_ _ | refine blk_drew ?_ | refine blk_alloc ?_ _)); exact BK546.out) hb); have n2_ := Aside0.mk (below_step (by repeat (first | (with_reducible first | exact HB.out | apply below_alloc | apply pw_below_drewN | apply below_drew1 | refine below_set ?_ GE545.out | refine below_set ?_ GE546.out) | exact HB.out)) hb); clear BK545; clear BK546; clear HB; have BK545 := n0_; have BK546 := n1_; have HB := n2_; clear n0_ n1_ n2_; (try clear hb); (try clear hb2); (try clear hk); (try clear hi); have hcz27_0 : w26.cell? ⟨gb545, 0, none⟩ = some (.int .i64 a0_0) := (blk_cell BK545.out 0).trans rfl; have hcz27_1 : w26.cell? ⟨gb545, 1, none⟩ = some (.int .i64 a0_1) := (blk_cell BK545.out 1).trans rfl; have hcz27_2 : w26.cell? ⟨gb545, 2, none⟩ = some (.string a0_2) := (blk_cell BK545.out 2).trans rfl; have hcz27_3 : w26.cell? ⟨gb545, 3, none⟩ = some (.string a0_3) := (blk_cell BK545.out 3).trans rfl; have hcz27_4 : w26.cell? ⟨gb545, 4, none⟩ = some (.slice A0_4 l0_4.length c0_4) := (blk_cell BK545.out 4).trans rfl; have hcz27_5 : w26.cell? ⟨gb545, 5, none⟩ = some (.string a0_5) := (blk_cell BK545.out 5).trans rfl; have hfz27_0 := blk_frozen BK545.out 0; have hfz27_1 := blk_frozen BK545.out 1; have hfz27_2 := blk_frozen BK545.out 2; have hfz27_3 := blk_frozen BK545.out 3; have hfz27_4 := blk_frozen BK545.out 4; have hfz27_5 := blk_frozen BK545.out 5) | (go_at_call 11; (with_reducible refine (event_Check.calls k a0_0 a0_1 a0_2 a0_3 _ _ l0_4 a0_5 t549 _ ?side1 ?side2 A10.out).mono ?_); (case side1 => repeat (first | exact (Kd.C_below HR0_4.out HB.out) | (with_reducible refine Kd.C_alloc ?_ _) | (with_reducible refine Kd.C_drewN ?_ _) | (with_reducible refine Kd.C_drew ?_))); (case side2 => exact HC0_4.out); rintro e w28 ⟨rfl, hb⟩; have n0_ := Aside0.mk (blk_below (g := gb545) (o := .cells #[.int .i64 a0_0, .int .i64 a0_1, .string a0_2, .string a0_3, .slice A0_4 l0_4.length c0_4, .string a0_5] 24 (0, 0)) (by (with_reducible repeat (first | refine blk_drewN ?_ _ | refine blk_drew ?_ | refine blk_alloc ?_ _)); exact BK545.out) hb); have n1_ := Aside0.mk (blk_below (g := gb546) (o := .cells #[.int .i64 a1_0, .int .i64 a1_1, .string a1_2, .string a1_3, .slice A1_4 l1_4.length c1_4, .string a1_5] 24 (0, 0)) (by (with_reducible repeat (first | refine blk_drewN ?_ _ | refine blk_drew ?_ | refine blk_alloc ?_ _)); exact BK546.out) hb); have n2_ := Aside0.mk (below_step (by repeat (first | (with_reducible first | exact HB.out | apply below_alloc | apply pw_below_drewN | apply below_drew1 | refine below_set ?_ GE545.out | refine below_set ?_ GE546.out) | exact HB.out)) hb); clear BK545; clear BK546; clear HB; have BK545 := n0_; have BK546 := n1_; have HB := n2_; clear n0_ n1_ n2_; (try clear hb); (try clear hb2); (try clear hk); (try clear hi)))
          go_meet
          case rel => exact ⟨_, (true), (by first | rfl | (simp; done) | (simp [*]; done)), H', ⟨by first | omega | exact Nat.le_refl _⟩, ⟨by (with_reducible repeat (first | refine blk_drewN ?_ _ | refine blk_drew ?_ | refine blk_alloc ?_ _)); exact BK545.out⟩, ⟨by (with_reducible repeat (first | refine blk_drewN ?_ _ | refine blk_drew ?_ | refine blk_alloc ?_ _)); exact BK546.out⟩, ⟨by repeat (first | (with_reducible first | exact HB.out | apply below_alloc | apply pw_below_drewN | apply below_drew1 | refine below_set ?_ GE545.out | refine below_set ?_ GE546.out) | exact HB.out)⟩⟩
      · replace c9 := Bool.eq_false_iff.mpr c9
        subst c9
        have H1 : (sawmilllaw58_EventApart.j0 k true a0_0 a0_1 a0_2 a0_3 l0_4 a0_5 a1_0 a1_1 a1_2 a1_3 l1_4 a1_5) = some r := by rw [if_neg (show ¬ (false = true) by decide)] at H; exact H
        clear H
        have H := H1
        clear H1
        have H' := Aside0.mk H
        clear H
        have hnb29 := NB545_546.out
        have hnc29 := NB546_545.out
        have hcz30_0 : w5.cell? ⟨gb545, 0, none⟩ = some (.int .i64 a0_0) := (blk_cell BK545.out 0).trans rfl
        have hcz30_1 : w5.cell? ⟨gb545, 1, none⟩ = some (.int .i64 a0_1) := (blk_cell BK545.out 1).trans rfl
        have hcz30_2 : w5.cell? ⟨gb545, 2, none⟩ = some (.string a0_2) := (blk_cell BK545.out 2).trans rfl
        have hcz30_3 : w5.cell? ⟨gb545, 3, none⟩ = some (.string a0_3) := (blk_cell BK545.out 3).trans rfl
        have hcz30_4 : w5.cell? ⟨gb545, 4, none⟩ = some (.slice A0_4 l0_4.length c0_4) := (blk_cell BK545.out 4).trans rfl
        have hcz30_5 : w5.cell? ⟨gb545, 5, none⟩ = some (.string a0_5) := (blk_cell BK545.out 5).trans rfl
        have hfz30_0 := blk_frozen BK545.out 0
        have hfz30_1 := blk_frozen BK545.out 1
        have hfz30_2 := blk_frozen BK545.out 2
        have hfz30_3 := blk_frozen BK545.out 3
        have hfz30_4 := blk_frozen BK545.out 4
        have hfz30_5 := blk_frozen BK545.out 5
        go_wp2_with (first | ((with_reducible refine gate_callee (f := 9) rfl ?_); refine goesL_ (some 13) rfl rfl Tryd.func9 (by kernel_rfl) rfl #[.agg #[.int .i64 a0_0, .int .i64 a0_1, .string a0_2, .string a0_3, .slice A0_4 l0_4.length c0_4, .string a0_5]] rfl (by (try simp only [List.map_toArray, List.map_cons, List.map_nil]); first | done | rfl | (simp only [List.length_drop, List.length_take]; rfl)) ?_; (with_reducible refine (sawmilllaw58_few.calls a0_0 a0_1 a0_2 a0_3 _ _ l0_4 a0_5 true _ ?side1 ?side2 A6.out).mono ?_); (case side1 => repeat (first | exact (Kd.C_below HR0_4.out HB.out) | (with_reducible refine Kd.C_alloc ?_ _) | (with_reducible refine Kd.C_drewN ?_ _) | (with_reducible refine Kd.C_drew ?_))); (case side2 => exact HC0_4.out); rintro e w31 ⟨rfl, hb⟩; refine ⟨_, rfl, ?_⟩; have n0_ := Aside0.mk (blk_below (g := gb545) (o := .cells #[.int .i64 a0_0, .int .i64 a0_1, .string a0_2, .string a0_3, .slice A0_4 l0_4.length c0_4, .string a0_5] 24 (0, 0)) (by (with_reducible repeat (first | refine blk_drewN ?_ _ | refine blk_drew ?_ | refine blk_alloc ?_ _)); exact BK545.out) hb); have n1_ := Aside0.mk (blk_below (g := gb546) (o := .cells #[.int .i64 a1_0, .int .i64 a1_1, .string a1_2, .string a1_3, .slice A1_4 l1_4.length c1_4, .string a1_5] 24 (0, 0)) (by (with_reducible repeat (first | refine blk_drewN ?_ _ | refine blk_drew ?_ | refine blk_alloc ?_ _)); exact BK546.out) hb); have n2_ := Aside0.mk (below_step (by repeat (first | (with_reducible first | exact HB.out | apply below_alloc | apply pw_below_drewN | apply below_drew1 | refine below_set ?_ GE545.out | refine below_set ?_ GE546.out) | exact HB.out)) hb); clear BK545; clear BK546; clear HB; have BK545 := n0_; have BK546 := n1_; have HB := n2_; clear n0_ n1_ n2_; (try clear hb); (try clear hb2); (try clear hk); (try clear hi); have hcz32_0 : w31.cell? ⟨gb546, 0, none⟩ = some (.int .i64 a1_0) := (blk_cell BK546.out 0).trans rfl; have hcz32_1 : w31.cell? ⟨gb546, 1, none⟩ = some (.int .i64 a1_1) := (blk_cell BK546.out 1).trans rfl; have hcz32_2 : w31.cell? ⟨gb546, 2, none⟩ = some (.string a1_2) := (blk_cell BK546.out 2).trans rfl; have hcz32_3 : w31.cell? ⟨gb546, 3, none⟩ = some (.string a1_3) := (blk_cell BK546.out 3).trans rfl; have hcz32_4 : w31.cell? ⟨gb546, 4, none⟩ = some (.slice A1_4 l1_4.length c1_4) := (blk_cell BK546.out 4).trans rfl; have hcz32_5 : w31.cell? ⟨gb546, 5, none⟩ = some (.string a1_5) := (blk_cell BK546.out 5).trans rfl; have hfz32_0 := blk_frozen BK546.out 0; have hfz32_1 := blk_frozen BK546.out 1; have hfz32_2 := blk_frozen BK546.out 2; have hfz32_3 := blk_frozen BK546.out 3; have hfz32_4 := blk_frozen BK546.out 4; have hfz32_5 := blk_frozen BK546.out 5) | (go_at_call 9; (with_reducible refine (sawmilllaw58_few.calls a1_0 a1_1 a1_2 a1_3 _ _ l1_4 a1_5 false _ ?side1 ?side2 A8.out).mono ?_); (case side1 => repeat (first | exact (Kd.C_below HR1_4.out HB.out) | (with_reducible refine Kd.C_alloc ?_ _) | (with_reducible refine Kd.C_drewN ?_ _) | (with_reducible refine Kd.C_drew ?_))); (case side2 => exact HC1_4.out); rintro e w33 ⟨rfl, hb⟩; have n0_ := Aside0.mk (blk_below (g := gb545) (o := .cells #[.int .i64 a0_0, .int .i64 a0_1, .string a0_2, .string a0_3, .slice A0_4 l0_4.length c0_4, .string a0_5] 24 (0, 0)) (by (with_reducible repeat (first | refine blk_drewN ?_ _ | refine blk_drew ?_ | refine blk_alloc ?_ _)); exact BK545.out) hb); have n1_ := Aside0.mk (blk_below (g := gb546) (o := .cells #[.int .i64 a1_0, .int .i64 a1_1, .string a1_2, .string a1_3, .slice A1_4 l1_4.length c1_4, .string a1_5] 24 (0, 0)) (by (with_reducible repeat (first | refine blk_drewN ?_ _ | refine blk_drew ?_ | refine blk_alloc ?_ _)); exact BK546.out) hb); have n2_ := Aside0.mk (below_step (by repeat (first | (with_reducible first | exact HB.out | apply below_alloc | apply pw_below_drewN | apply below_drew1 | refine below_set ?_ GE545.out | refine below_set ?_ GE546.out) | exact HB.out)) hb); clear BK545; clear BK546; clear HB; have BK545 := n0_; have BK546 := n1_; have HB := n2_; clear n0_ n1_ n2_; (try clear hb); (try clear hb2); (try clear hk); (try clear hi)))
        go_meet
        case rel => exact ⟨_, (true), (by first | rfl | (simp; done) | (simp [*]; done)), H', ⟨by first | omega | exact Nat.le_refl _⟩, ⟨by (with_reducible repeat (first | refine blk_drewN ?_ _ | refine blk_drew ?_ | refine blk_alloc ?_ _)); exact BK545.out⟩, ⟨by (with_reducible repeat (first | refine blk_drewN ?_ _ | refine blk_drew ?_ | refine blk_alloc ?_ _)); exact BK546.out⟩, ⟨by repeat (first | (with_reducible first | exact HB.out | apply below_alloc | apply pw_below_drewN | apply below_drew1 | refine below_set ?_ GE545.out | refine below_set ?_ GE546.out) | exact HB.out)⟩⟩
    · replace c7 := Bool.eq_false_iff.mpr c7
      subst c7
      have H1 : (sawmilllaw58_EventApart.j0 k true a0_0 a0_1 a0_2 a0_3 l0_4 a0_5 a1_0 a1_1 a1_2 a1_3 l1_4 a1_5) = some r := by rw [if_neg (show ¬ (false = true) by decide)] at H; exact H
      clear H
      have H := H1
      clear H1
      have H' := Aside0.mk H
      clear H
      have hnb34 := NB545_546.out
      have hnc34 := NB546_545.out
      have hcz35_0 : w5.cell? ⟨gb545, 0, none⟩ = some (.int .i64 a0_0) := (blk_cell BK545.out 0).trans rfl
      have hcz35_1 : w5.cell? ⟨gb545, 1, none⟩ = some (.int .i64 a0_1) := (blk_cell BK545.out 1).trans rfl
      have hcz35_2 : w5.cell? ⟨gb545, 2, none⟩ = some (.string a0_2) := (blk_cell BK545.out 2).trans rfl
      have hcz35_3 : w5.cell? ⟨gb545, 3, none⟩ = some (.string a0_3) := (blk_cell BK545.out 3).trans rfl
      have hcz35_4 : w5.cell? ⟨gb545, 4, none⟩ = some (.slice A0_4 l0_4.length c0_4) := (blk_cell BK545.out 4).trans rfl
      have hcz35_5 : w5.cell? ⟨gb545, 5, none⟩ = some (.string a0_5) := (blk_cell BK545.out 5).trans rfl
      have hfz35_0 := blk_frozen BK545.out 0
      have hfz35_1 := blk_frozen BK545.out 1
      have hfz35_2 := blk_frozen BK545.out 2
      have hfz35_3 := blk_frozen BK545.out 3
      have hfz35_4 := blk_frozen BK545.out 4
      have hfz35_5 := blk_frozen BK545.out 5
      go_wp2_with (first | ((with_reducible refine gate_callee (f := 9) rfl ?_); refine goesL_ (some 13) rfl rfl Tryd.func9 (by kernel_rfl) rfl #[.agg #[.int .i64 a0_0, .int .i64 a0_1, .string a0_2, .string a0_3, .slice A0_4 l0_4.length c0_4, .string a0_5]] rfl (by (try simp only [List.map_toArray, List.map_cons, List.map_nil]); first | done | rfl | (simp only [List.length_drop, List.length_take]; rfl)) ?_; (with_reducible refine (sawmilllaw58_few.calls a0_0 a0_1 a0_2 a0_3 _ _ l0_4 a0_5 false _ ?side1 ?side2 A6.out).mono ?_); (case side1 => repeat (first | exact (Kd.C_below HR0_4.out HB.out) | (with_reducible refine Kd.C_alloc ?_ _) | (with_reducible refine Kd.C_drewN ?_ _) | (with_reducible refine Kd.C_drew ?_))); (case side2 => exact HC0_4.out); rintro e w36 ⟨rfl, hb⟩; refine ⟨_, rfl, ?_⟩; have n0_ := Aside0.mk (blk_below (g := gb545) (o := .cells #[.int .i64 a0_0, .int .i64 a0_1, .string a0_2, .string a0_3, .slice A0_4 l0_4.length c0_4, .string a0_5] 24 (0, 0)) (by (with_reducible repeat (first | refine blk_drewN ?_ _ | refine blk_drew ?_ | refine blk_alloc ?_ _)); exact BK545.out) hb); have n1_ := Aside0.mk (blk_below (g := gb546) (o := .cells #[.int .i64 a1_0, .int .i64 a1_1, .string a1_2, .string a1_3, .slice A1_4 l1_4.length c1_4, .string a1_5] 24 (0, 0)) (by (with_reducible repeat (first | refine blk_drewN ?_ _ | refine blk_drew ?_ | refine blk_alloc ?_ _)); exact BK546.out) hb); have n2_ := Aside0.mk (below_step (by repeat (first | (with_reducible first | exact HB.out | apply below_alloc | apply pw_below_drewN | apply below_drew1 | refine below_set ?_ GE545.out | refine below_set ?_ GE546.out) | exact HB.out)) hb); clear BK545; clear BK546; clear HB; have BK545 := n0_; have BK546 := n1_; have HB := n2_; clear n0_ n1_ n2_; (try clear hb); (try clear hb2); (try clear hk); (try clear hi)))
      go_meet
      case rel => exact ⟨_, (true), (by first | rfl | (simp; done) | (simp [*]; done)), H', ⟨by first | omega | exact Nat.le_refl _⟩, ⟨by (with_reducible repeat (first | refine blk_drewN ?_ _ | refine blk_drew ?_ | refine blk_alloc ?_ _)); exact BK545.out⟩, ⟨by (with_reducible repeat (first | refine blk_drewN ?_ _ | refine blk_drew ?_ | refine blk_alloc ?_ _)); exact BK546.out⟩, ⟨by repeat (first | (with_reducible first | exact HB.out | apply below_alloc | apply pw_below_drewN | apply below_drew1 | refine below_set ?_ GE545.out | refine below_set ?_ GE546.out) | exact HB.out)⟩⟩
  case rest =>
    clear HC3
    try clear c1
    try clear c2
    try clear p2
    try clear c3
    try clear c7
    try clear c9
    try clear c11
    try clear c11b0
    try clear c11b1
    try clear c13
    try clear c22
    try clear c29
    try clear c34
    try clear hcz14_0
    try clear hcz14_1
    try clear hcz14_2
    try clear hcz14_3
    try clear hcz14_4
    try clear hcz14_5
    try clear hcz16_0
    try clear hcz16_1
    try clear hcz16_2
    try clear hcz16_3
    try clear hcz16_4
    try clear hcz16_5
    try clear hcz18_0
    try clear hcz18_1
    try clear hcz18_2
    try clear hcz18_3
    try clear hcz18_4
    try clear hcz18_5
    try clear hcz20_0
    try clear hcz20_1
    try clear hcz20_2
    try clear hcz20_3
    try clear hcz20_4
    try clear hcz20_5
    try clear hcz23_0
    try clear hcz23_1
    try clear hcz23_2
    try clear hcz23_3
    try clear hcz23_4
    try clear hcz23_5
    try clear hcz25_0
    try clear hcz25_1
    try clear hcz25_2
    try clear hcz25_3
    try clear hcz25_4
    try clear hcz25_5
    try clear hcz27_0
    try clear hcz27_1
    try clear hcz27_2
    try clear hcz27_3
    try clear hcz27_4
    try clear hcz27_5
    try clear hcz30_0
    try clear hcz30_1
    try clear hcz30_2
    try clear hcz30_3
    try clear hcz30_4
    try clear hcz30_5
    try clear hcz32_0
    try clear hcz32_1
    try clear hcz32_2
    try clear hcz32_3
    try clear hcz32_4
    try clear hcz32_5
    try clear hcz35_0
    try clear hcz35_1
    try clear hcz35_2
    try clear hcz35_3
    try clear hcz35_4
    try clear hcz35_5
    try clear hfz14_0
    try clear hfz14_1
    try clear hfz14_2
    try clear hfz14_3
    try clear hfz14_4
    try clear hfz14_5
    try clear hfz16_0
    try clear hfz16_1
    try clear hfz16_2
    try clear hfz16_3
    try clear hfz16_4
    try clear hfz16_5
    try clear hfz18_0
    try clear hfz18_1
    try clear hfz18_2
    try clear hfz18_3
    try clear hfz18_4
    try clear hfz18_5
    try clear hfz20_0
    try clear hfz20_1
    try clear hfz20_2
    try clear hfz20_3
    try clear hfz20_4
    try clear hfz20_5
    try clear hfz23_0
    try clear hfz23_1
    try clear hfz23_2
    try clear hfz23_3
    try clear hfz23_4
    try clear hfz23_5
    try clear hfz25_0
    try clear hfz25_1
    try clear hfz25_2
    try clear hfz25_3
    try clear hfz25_4
    try clear hfz25_5
    try clear hfz27_0
    try clear hfz27_1
    try clear hfz27_2
    try clear hfz27_3
    try clear hfz27_4
    try clear hfz27_5
    try clear hfz30_0
    try clear hfz30_1
    try clear hfz30_2
    try clear hfz30_3
    try clear hfz30_4
    try clear hfz30_5
    try clear hfz32_0
    try clear hfz32_1
    try clear hfz32_2
    try clear hfz32_3
    try clear hfz32_4
    try clear hfz32_5
    try clear hfz35_0
    try clear hfz35_1
    try clear hfz35_2
    try clear hfz35_3
    try clear hfz35_4
    try clear hfz35_5
    obtain ⟨kq, x29_2, rfl, HA, HJ2, BK545, BK546, HB⟩ := hcut
    cases kq with
    | zero => exact absurd HA.out (by simp [sawmilllaw58_EventApart.j0])
    | succ kj2 =>
      have H := HA.out
      clear HA
      simp only [sawmilllaw58_EventApart.j0] at H
      by_cases c37 : x29_2 = true
      · subst c37
        have H1 : ((sawmilllaw58_awake.f kj2).bind fun t551 => (some t551)) = some r := by rw [if_pos rfl] at H; exact H
        clear H
        have H := H1
        clear H1
        replace H := Option.bind_eq_some_iff.mp H
        obtain ⟨t551, A380, H⟩ := H
        replace H : (some t551) = some r := H
        have A38 := Aside0.mk A380
        clear A380
        obtain rfl := Option.some.inj H
        go_wp2_with (first | ((with_reducible refine gate_callee (f := 10) rfl ?_); refine goesL_ (some 30) rfl rfl Tryd.func10 (by kernel_rfl) rfl #[] rfl (by (try simp only [List.map_toArray, List.map_cons, List.map_nil]); first | done | rfl | (simp only [List.length_drop, List.length_take]; rfl)) ?_; (with_reducible refine (sawmilllaw58_awake.calls kj2  t551 _ A38.out ?htab_).mono ?_); (case htab_ => exact TabW.below HTB.out (by repeat (first | (with_reducible first | exact HB.out | apply below_alloc | apply pw_below_drewN | apply below_drew1 | refine below_set ?_ GE545.out | refine below_set ?_ GE546.out) | exact HB.out))); rintro e w39 ⟨rfl, hb⟩; refine ⟨_, rfl, ?_⟩; have n0_ := Aside0.mk (blk_below (g := gb545) (o := .cells #[.int .i64 a0_0, .int .i64 a0_1, .string a0_2, .string a0_3, .slice A0_4 l0_4.length c0_4, .string a0_5] 24 (0, 0)) (by (with_reducible repeat (first | refine blk_drewN ?_ _ | refine blk_drew ?_ | refine blk_alloc ?_ _)); exact BK545.out) hb); have n1_ := Aside0.mk (blk_below (g := gb546) (o := .cells #[.int .i64 a1_0, .int .i64 a1_1, .string a1_2, .string a1_3, .slice A1_4 l1_4.length c1_4, .string a1_5] 24 (0, 0)) (by (with_reducible repeat (first | refine blk_drewN ?_ _ | refine blk_drew ?_ | refine blk_alloc ?_ _)); exact BK546.out) hb); have n2_ := Aside0.mk (below_step (by repeat (first | (with_reducible first | exact HB.out | apply below_alloc | apply pw_below_drewN | apply below_drew1 | refine below_set ?_ GE545.out | refine below_set ?_ GE546.out) | exact HB.out)) hb); clear BK545; clear BK546; clear HB; have BK545 := n0_; have BK546 := n1_; have HB := n2_; clear n0_ n1_ n2_; (try clear hb); (try clear hb2); (try clear hk); (try clear hi)))
        go_ret
        exact ⟨by first | rfl | (simp [errW_none, errW_some] <;> rfl) | (simp [*, errW_none, errW_some] <;> rfl), by repeat (first | (with_reducible first | exact HB.out | apply below_alloc | apply pw_below_drewN | apply below_drew1 | refine below_set ?_ GE545.out | refine below_set ?_ GE546.out) | exact HB.out)⟩
      · replace c37 := Bool.eq_false_iff.mpr c37
        subst c37
        have H1 : ((event_Encode.f kj2 a0_0 a0_1 a0_2 a0_3 l0_4 a0_5).bind fun bt552 => ((event_Encode.f kj2 a1_0 a1_1 a1_2 a1_3 l1_4 a1_5).bind fun bt554 => (if bt552.2 = 0 then (if bt554.2 = 0 then ((event_Same.f kj2 a0_0 a0_1 a0_2 a0_3 l0_4 a0_5 a1_0 a1_1 a1_2 a1_3 l1_4 a1_5).bind fun t556 => (sawmilllaw58_EventApart.j1 kj2 ((bt552.1.toList == bt554.1.toList) != t556) a0_0 a0_1 a0_2 a0_3 l0_4 a0_5 a1_0 a1_1 a1_2 a1_3 l1_4 a1_5)) else (sawmilllaw58_EventApart.j1 kj2 true a0_0 a0_1 a0_2 a0_3 l0_4 a0_5 a1_0 a1_1 a1_2 a1_3 l1_4 a1_5)) else (sawmilllaw58_EventApart.j1 kj2 true a0_0 a0_1 a0_2 a0_3 l0_4 a0_5 a1_0 a1_1 a1_2 a1_3 l1_4 a1_5)))) = some r := by rw [if_neg (show ¬ (false = true) by decide)] at H; exact H
        clear H
        have H := H1
        clear H1
        replace H := Option.bind_eq_some_iff.mp H
        obtain ⟨⟨t552, t553⟩, A400, H⟩ := H
        replace H : ((event_Encode.f kj2 a1_0 a1_1 a1_2 a1_3 l1_4 a1_5).bind fun bt554 => (if t553 = 0 then (if bt554.2 = 0 then ((event_Same.f kj2 a0_0 a0_1 a0_2 a0_3 l0_4 a0_5 a1_0 a1_1 a1_2 a1_3 l1_4 a1_5).bind fun t556 => (sawmilllaw58_EventApart.j1 kj2 ((t552.toList == bt554.1.toList) != t556) a0_0 a0_1 a0_2 a0_3 l0_4 a0_5 a1_0 a1_1 a1_2 a1_3 l1_4 a1_5)) else (sawmilllaw58_EventApart.j1 kj2 true a0_0 a0_1 a0_2 a0_3 l0_4 a0_5 a1_0 a1_1 a1_2 a1_3 l1_4 a1_5)) else (sawmilllaw58_EventApart.j1 kj2 true a0_0 a0_1 a0_2 a0_3 l0_4 a0_5 a1_0 a1_1 a1_2 a1_3 l1_4 a1_5))) = some r := H
        have A40 := Aside0.mk A400
        clear A400
        replace H := Option.bind_eq_some_iff.mp H
        obtain ⟨⟨t554, t555⟩, A410, H⟩ := H
        replace H : (if t553 = 0 then (if t555 = 0 then ((event_Same.f kj2 a0_0 a0_1 a0_2 a0_3 l0_4 a0_5 a1_0 a1_1 a1_2 a1_3 l1_4 a1_5).bind fun t556 => (sawmilllaw58_EventApart.j1 kj2 ((t552.toList == t554.toList) != t556) a0_0 a0_1 a0_2 a0_3 l0_4 a0_5 a1_0 a1_1 a1_2 a1_3 l1_4 a1_5)) else (sawmilllaw58_EventApart.j1 kj2 true a0_0 a0_1 a0_2 a0_3 l0_4 a0_5 a1_0 a1_1 a1_2 a1_3 l1_4 a1_5)) else (sawmilllaw58_EventApart.j1 kj2 true a0_0 a0_1 a0_2 a0_3 l0_4 a0_5 a1_0 a1_1 a1_2 a1_3 l1_4 a1_5)) = some r := H
        have A41 := Aside0.mk A410
        clear A410
        have HC42 := Aside0.mk H
        clear H
        have hnb43 := NB545_546.out
        have hnc43 := NB546_545.out
        have hcz44_0 : wc.cell? ⟨gb545, 0, none⟩ = some (.int .i64 a0_0) := (blk_cell BK545.out 0).trans rfl
        have hcz44_1 : wc.cell? ⟨gb545, 1, none⟩ = some (.int .i64 a0_1) := (blk_cell BK545.out 1).trans rfl
        have hcz44_2 : wc.cell? ⟨gb545, 2, none⟩ = some (.string a0_2) := (blk_cell BK545.out 2).trans rfl
        have hcz44_3 : wc.cell? ⟨gb545, 3, none⟩ = some (.string a0_3) := (blk_cell BK545.out 3).trans rfl
        have hcz44_4 : wc.cell? ⟨gb545, 4, none⟩ = some (.slice A0_4 l0_4.length c0_4) := (blk_cell BK545.out 4).trans rfl
        have hcz44_5 : wc.cell? ⟨gb545, 5, none⟩ = some (.string a0_5) := (blk_cell BK545.out 5).trans rfl
        have hfz44_0 := blk_frozen BK545.out 0
        have hfz44_1 := blk_frozen BK545.out 1
        have hfz44_2 := blk_frozen BK545.out 2
        have hfz44_3 := blk_frozen BK545.out 3
        have hfz44_4 := blk_frozen BK545.out 4
        have hfz44_5 := blk_frozen BK545.out 5
        go_upto_region 5 with (first | ((with_reducible refine gate_callee (f := 15) rfl ?_); refine goesL_ (some 33) rfl rfl Tryd.func15 (by kernel_rfl) rfl #[.agg #[.int .i64 a0_0, .int .i64 a0_1, .string a0_2, .string a0_3, .slice A0_4 l0_4.length c0_4, .string a0_5]] rfl (by (try simp only [List.map_toArray, List.map_cons, List.map_nil]); first | done | rfl | (simp only [List.length_drop, List.length_take]; rfl)) ?_; (with_reducible refine (event_Encode.calls kj2 a0_0 a0_1 a0_2 a0_3 _ _ l0_4 a0_5 t552 t553 _ ?side1 ?side2 A40.out).mono ?_); (case side1 => repeat (first | exact (Kd.C_below HR0_4.out HB.out) | (with_reducible refine Kd.C_alloc ?_ _) | (with_reducible refine Kd.C_drewN ?_ _) | (with_reducible refine Kd.C_drew ?_))); (case side2 => exact HC0_4.out); rintro e w45 ⟨rfl, hb⟩; refine ⟨_, rfl, ?_⟩; have n0_ := Aside0.mk (blk_below (g := gb545) (o := .cells #[.int .i64 a0_0, .int .i64 a0_1, .string a0_2, .string a0_3, .slice A0_4 l0_4.length c0_4, .string a0_5] 24 (0, 0)) (by (with_reducible repeat (first | refine blk_drewN ?_ _ | refine blk_drew ?_ | refine blk_alloc ?_ _)); exact BK545.out) hb); have n1_ := Aside0.mk (blk_below (g := gb546) (o := .cells #[.int .i64 a1_0, .int .i64 a1_1, .string a1_2, .string a1_3, .slice A1_4 l1_4.length c1_4, .string a1_5] 24 (0, 0)) (by (with_reducible repeat (first | refine blk_drewN ?_ _ | refine blk_drew ?_ | refine blk_alloc ?_ _)); exact BK546.out) hb); have n2_ := Aside0.mk (below_step (by repeat (first | (with_reducible first | exact HB.out | apply below_alloc | apply pw_below_drewN | apply below_drew1 | refine below_set ?_ GE545.out | refine below_set ?_ GE546.out) | exact HB.out)) hb); clear BK545; clear BK546; clear HB; have BK545 := n0_; have BK546 := n1_; have HB := n2_; clear n0_ n1_ n2_; (try clear hb); (try clear hb2); (try clear hk); (try clear hi); have hcz46_0 : w45.cell? ⟨gb546, 0, none⟩ = some (.int .i64 a1_0) := (blk_cell BK546.out 0).trans rfl; have hcz46_1 : w45.cell? ⟨gb546, 1, none⟩ = some (.int .i64 a1_1) := (blk_cell BK546.out 1).trans rfl; have hcz46_2 : w45.cell? ⟨gb546, 2, none⟩ = some (.string a1_2) := (blk_cell BK546.out 2).trans rfl; have hcz46_3 : w45.cell? ⟨gb546, 3, none⟩ = some (.string a1_3) := (blk_cell BK546.out 3).trans rfl; have hcz46_4 : w45.cell? ⟨gb546, 4, none⟩ = some (.slice A1_4 l1_4.length c1_4) := (blk_cell BK546.out 4).trans rfl; have hcz46_5 : w45.cell? ⟨gb546, 5, none⟩ = some (.string a1_5) := (blk_cell BK546.out 5).trans rfl; have hfz46_0 := blk_frozen BK546.out 0; have hfz46_1 := blk_frozen BK546.out 1; have hfz46_2 := blk_frozen BK546.out 2; have hfz46_3 := blk_frozen BK546.out 3; have hfz46_4 := blk_frozen BK546.out 4; have hfz46_5 := blk_frozen BK546.out 5) | ((with_reducible refine gate_callee (f := 15) rfl ?_); refine goesL_ (some 38) rfl rfl Tryd.func15 (by kernel_rfl) rfl #[.agg #[.int .i64 a1_0, .int .i64 a1_1, .string a1_2, .string a1_3, .slice A1_4 l1_4.length c1_4, .string a1_5]] rfl (by (try simp only [List.map_toArray, List.map_cons, List.map_nil]); first | done | rfl | (simp only [List.length_drop, List.length_take]; rfl)) ?_; (with_reducible refine (event_Encode.calls kj2 a1_0 a1_1 a1_2 a1_3 _ _ l1_4 a1_5 t554 t555 _ ?side1 ?side2 A41.out).mono ?_); (case side1 => repeat (first | exact (Kd.C_below HR1_4.out HB.out) | (with_reducible refine Kd.C_alloc ?_ _) | (with_reducible refine Kd.C_drewN ?_ _) | (with_reducible refine Kd.C_drew ?_))); (case side2 => exact HC1_4.out); rintro e w47 ⟨rfl, hb⟩; refine ⟨_, rfl, ?_⟩; have n0_ := Aside0.mk (blk_below (g := gb545) (o := .cells #[.int .i64 a0_0, .int .i64 a0_1, .string a0_2, .string a0_3, .slice A0_4 l0_4.length c0_4, .string a0_5] 24 (0, 0)) (by (with_reducible repeat (first | refine blk_drewN ?_ _ | refine blk_drew ?_ | refine blk_alloc ?_ _)); exact BK545.out) hb); have n1_ := Aside0.mk (blk_below (g := gb546) (o := .cells #[.int .i64 a1_0, .int .i64 a1_1, .string a1_2, .string a1_3, .slice A1_4 l1_4.length c1_4, .string a1_5] 24 (0, 0)) (by (with_reducible repeat (first | refine blk_drewN ?_ _ | refine blk_drew ?_ | refine blk_alloc ?_ _)); exact BK546.out) hb); have n2_ := Aside0.mk (below_step (by repeat (first | (with_reducible first | exact HB.out | apply below_alloc | apply pw_below_drewN | apply below_drew1 | refine below_set ?_ GE545.out | refine below_set ?_ GE546.out) | exact HB.out)) hb); clear BK545; clear BK546; clear HB; have BK545 := n0_; have BK546 := n1_; have HB := n2_; clear n0_ n1_ n2_; (try clear hb); (try clear hb2); (try clear hk); (try clear hi)))
        (try simp only [Act.put, List.setIfInBounds_toArray, List.set_cons_zero, List.set_cons_succ])
        go_cut [55] (fun v55 wc => ∃ (kq : Nat) (x55_41 : Bool), v55 = .bool x55_41 ∧ Aside0 (sawmilllaw58_EventApart.j1 kq x55_41 a0_0 a0_1 a0_2 a0_3 l0_4 a0_5 a1_0 a1_1 a1_2 a1_3 l1_4 a1_5 = some r) ∧ Aside0 (kq ≤ kj2) ∧ Aside0 (wc.heap[gb545]? = some (.cells #[.int .i64 a0_0, .int .i64 a0_1, .string a0_2, .string a0_3, (.slice A0_4 l0_4.length c0_4), .string a0_5] 24 (0, 0))) ∧ Aside0 (wc.heap[gb546]? = some (.cells #[.int .i64 a1_0, .int .i64 a1_1, .string a1_2, .string a1_3, (.slice A1_4 l1_4.length c1_4), .string a1_5] 24 (0, 0))) ∧ Aside0 (Below w.heap.size w wc))
        case first =>
          have H := HC42.out
          clear HC42
          by_cases c48 : t553 = 0
          · rw [if_pos c48] at H
            have c48b0 : (t553 == 0) = true := beq_iff_eq.mpr c48
            have c48b1 : (t553 != 0) = false := bne_eq_false_iff_eq.mpr c48
            clear c48
            (first | rw [c48b0] | (simp only [i64_w, i32_w]; rw [c48b0]) | skip)
            by_cases c49 : t555 = 0
            · rw [if_pos c49] at H
              have c49b0 : (t555 == 0) = true := beq_iff_eq.mpr c49
              have c49b1 : (t555 != 0) = false := bne_eq_false_iff_eq.mpr c49
              clear c49
              replace H := Option.bind_eq_some_iff.mp H
              obtain ⟨t556, A500, H⟩ := H
              replace H : (sawmilllaw58_EventApart.j1 kj2 ((t552.toList == t554.toList) != t556) a0_0 a0_1 a0_2 a0_3 l0_4 a0_5 a1_0 a1_1 a1_2 a1_3 l1_4 a1_5) = some r := H
              have A50 := Aside0.mk A500
              clear A500
              have H' := Aside0.mk H
              clear H
              have hnb51 := NB545_546.out
              have hnc51 := NB546_545.out
              have hcz52_0 : w47.cell? ⟨gb545, 0, none⟩ = some (.int .i64 a0_0) := (blk_cell BK545.out 0).trans rfl
              have hcz52_1 : w47.cell? ⟨gb545, 1, none⟩ = some (.int .i64 a0_1) := (blk_cell BK545.out 1).trans rfl
              have hcz52_2 : w47.cell? ⟨gb545, 2, none⟩ = some (.string a0_2) := (blk_cell BK545.out 2).trans rfl
              have hcz52_3 : w47.cell? ⟨gb545, 3, none⟩ = some (.string a0_3) := (blk_cell BK545.out 3).trans rfl
              have hcz52_4 : w47.cell? ⟨gb545, 4, none⟩ = some (.slice A0_4 l0_4.length c0_4) := (blk_cell BK545.out 4).trans rfl
              have hcz52_5 : w47.cell? ⟨gb545, 5, none⟩ = some (.string a0_5) := (blk_cell BK545.out 5).trans rfl
              have hfz52_0 := blk_frozen BK545.out 0
              have hfz52_1 := blk_frozen BK545.out 1
              have hfz52_2 := blk_frozen BK545.out 2
              have hfz52_3 := blk_frozen BK545.out 3
              have hfz52_4 := blk_frozen BK545.out 4
              have hfz52_5 := blk_frozen BK545.out 5
              have hcz53_0 : w47.cell? ⟨gb546, 0, none⟩ = some (.int .i64 a1_0) := (blk_cell BK546.out 0).trans rfl
              have hcz53_1 : w47.cell? ⟨gb546, 1, none⟩ = some (.int .i64 a1_1) := (blk_cell BK546.out 1).trans rfl
              have hcz53_2 : w47.cell? ⟨gb546, 2, none⟩ = some (.string a1_2) := (blk_cell BK546.out 2).trans rfl
              have hcz53_3 : w47.cell? ⟨gb546, 3, none⟩ = some (.string a1_3) := (blk_cell BK546.out 3).trans rfl
              have hcz53_4 : w47.cell? ⟨gb546, 4, none⟩ = some (.slice A1_4 l1_4.length c1_4) := (blk_cell BK546.out 4).trans rfl
              have hcz53_5 : w47.cell? ⟨gb546, 5, none⟩ = some (.string a1_5) := (blk_cell BK546.out 5).trans rfl
              have hfz53_0 := blk_frozen BK546.out 0
              have hfz53_1 := blk_frozen BK546.out 1
              have hfz53_2 := blk_frozen BK546.out 2
              have hfz53_3 := blk_frozen BK546.out 3
              have hfz53_4 := blk_frozen BK546.out 4
              have hfz53_5 := blk_frozen BK546.out 5
              go_wp2_with (first | (go_at_call 22; (with_reducible refine (event_Same.calls kj2 a0_0 a0_1 a0_2 a0_3 _ _ l0_4 a0_5 a1_0 a1_1 a1_2 a1_3 _ _ l1_4 a1_5 t556 _ ?side1 ?side2 ?side3 ?side4 A50.out).mono ?_); (case side1 => repeat (first | exact (Kd.C_below HR0_4.out HB.out) | (with_reducible refine Kd.C_alloc ?_ _) | (with_reducible refine Kd.C_drewN ?_ _) | (with_reducible refine Kd.C_drew ?_))); (case side2 => exact HC0_4.out); (case side3 => repeat (first | exact (Kd.C_below HR1_4.out HB.out) | (with_reducible refine Kd.C_alloc ?_ _) | (with_reducible refine Kd.C_drewN ?_ _) | (with_reducible refine Kd.C_drew ?_))); (case side4 => exact HC1_4.out); rintro e w54 ⟨rfl, hb⟩; have n0_ := Aside0.mk (blk_below (g := gb545) (o := .cells #[.int .i64 a0_0, .int .i64 a0_1, .string a0_2, .string a0_3, .slice A0_4 l0_4.length c0_4, .string a0_5] 24 (0, 0)) (by (with_reducible repeat (first | refine blk_drewN ?_ _ | refine blk_drew ?_ | refine blk_alloc ?_ _)); exact BK545.out) hb); have n1_ := Aside0.mk (blk_below (g := gb546) (o := .cells #[.int .i64 a1_0, .int .i64 a1_1, .string a1_2, .string a1_3, .slice A1_4 l1_4.length c1_4, .string a1_5] 24 (0, 0)) (by (with_reducible repeat (first | refine blk_drewN ?_ _ | refine blk_drew ?_ | refine blk_alloc ?_ _)); exact BK546.out) hb); have n2_ := Aside0.mk (below_step (by repeat (first | (with_reducible first | exact HB.out | apply below_alloc | apply pw_below_drewN | apply below_drew1 | refine below_set ?_ GE545.out | refine below_set ?_ GE546.out) | exact HB.out)) hb); clear BK545; clear BK546; clear HB; have BK545 := n0_; have BK546 := n1_; have HB := n2_; clear n0_ n1_ n2_; (try clear hb); (try clear hb2); (try clear hk); (try clear hi)))
              go_meet
              case rel => exact ⟨_, (((t552.toList == t554.toList) != t556)), (by first | rfl | (simp; done) | (simp [*]; done)), H', ⟨by have := HJ2.out; first | omega | exact Nat.le_refl _⟩, ⟨by (with_reducible repeat (first | refine blk_drewN ?_ _ | refine blk_drew ?_ | refine blk_alloc ?_ _)); exact BK545.out⟩, ⟨by (with_reducible repeat (first | refine blk_drewN ?_ _ | refine blk_drew ?_ | refine blk_alloc ?_ _)); exact BK546.out⟩, ⟨by repeat (first | (with_reducible first | exact HB.out | apply below_alloc | apply pw_below_drewN | apply below_drew1 | refine below_set ?_ GE545.out | refine below_set ?_ GE546.out) | exact HB.out)⟩⟩
            · rw [if_neg c49] at H
              have c49b0 : (t555 == 0) = false := beq_eq_false_iff_ne.mpr c49
              have c49b1 : (t555 != 0) = true := bne_iff_ne.mpr c49
              have H' := Aside0.mk H
              clear H
              go_wp2
              go_meet
              case rel => exact ⟨_, (true), (by first | rfl | (simp; done) | (simp [*]; done)), H', ⟨by have := HJ2.out; first | omega | exact Nat.le_refl _⟩, ⟨by (with_reducible repeat (first | refine blk_drewN ?_ _ | refine blk_drew ?_ | refine blk_alloc ?_ _)); exact BK545.out⟩, ⟨by (with_reducible repeat (first | refine blk_drewN ?_ _ | refine blk_drew ?_ | refine blk_alloc ?_ _)); exact BK546.out⟩, ⟨by repeat (first | (with_reducible first | exact HB.out | apply below_alloc | apply pw_below_drewN | apply below_drew1 | refine below_set ?_ GE545.out | refine below_set ?_ GE546.out) | exact HB.out)⟩⟩
          · rw [if_neg c48] at H
            have c48b0 : (t553 == 0) = false := beq_eq_false_iff_ne.mpr c48
            have c48b1 : (t553 != 0) = true := bne_iff_ne.mpr c48
            (first | rw [c48b0] | (simp only [i64_w, i32_w]; rw [c48b0]) | skip)
            have H' := Aside0.mk H
            clear H
            go_wp2
            go_meet
            case rel => exact ⟨_, (true), (by first | rfl | (simp; done) | (simp [*]; done)), H', ⟨by have := HJ2.out; first | omega | exact Nat.le_refl _⟩, ⟨by (with_reducible repeat (first | refine blk_drewN ?_ _ | refine blk_drew ?_ | refine blk_alloc ?_ _)); exact BK545.out⟩, ⟨by (with_reducible repeat (first | refine blk_drewN ?_ _ | refine blk_drew ?_ | refine blk_alloc ?_ _)); exact BK546.out⟩, ⟨by repeat (first | (with_reducible first | exact HB.out | apply below_alloc | apply pw_below_drewN | apply below_drew1 | refine below_set ?_ GE545.out | refine below_set ?_ GE546.out) | exact HB.out)⟩⟩
        case rest =>
          clear HC42
          try clear c1
          try clear c2
          try clear p2
          try clear c3
          try clear c4
          try clear c5
          try clear c7
          try clear c9
          try clear c10
          try clear c11
          try clear c11b0
          try clear c11b1
          try clear c13
          try clear c15
          try clear c22
          try clear c29
          try clear c34
          try clear c37
          try clear c43
          try clear c48
          try clear c48b0
          try clear c48b1
          try clear c49
          try clear c49b0
          try clear c49b1
          try clear c51
          try clear hcz14_0
          try clear hcz14_1
          try clear hcz14_2
          try clear hcz14_3
          try clear hcz14_4
          try clear hcz14_5
          try clear hcz16_0
          try clear hcz16_1
          try clear hcz16_2
          try clear hcz16_3
          try clear hcz16_4
          try clear hcz16_5
          try clear hcz18_0
          try clear hcz18_1
          try clear hcz18_2
          try clear hcz18_3
          try clear hcz18_4
          try clear hcz18_5
          try clear hcz20_0
          try clear hcz20_1
          try clear hcz20_2
          try clear hcz20_3
          try clear hcz20_4
          try clear hcz20_5
          try clear hcz23_0
          try clear hcz23_1
          try clear hcz23_2
          try clear hcz23_3
          try clear hcz23_4
          try clear hcz23_5
          try clear hcz25_0
          try clear hcz25_1
          try clear hcz25_2
          try clear hcz25_3
          try clear hcz25_4
          try clear hcz25_5
          try clear hcz27_0
          try clear hcz27_1
          try clear hcz27_2
          try clear hcz27_3
          try clear hcz27_4
          try clear hcz27_5
          try clear hcz30_0
          try clear hcz30_1
          try clear hcz30_2
          try clear hcz30_3
          try clear hcz30_4
          try clear hcz30_5
          try clear hcz32_0
          try clear hcz32_1
          try clear hcz32_2
          try clear hcz32_3
          try clear hcz32_4
          try clear hcz32_5
          try clear hcz35_0
          try clear hcz35_1
          try clear hcz35_2
          try clear hcz35_3
          try clear hcz35_4
          try clear hcz35_5
          try clear hcz44_0
          try clear hcz44_1
          try clear hcz44_2
          try clear hcz44_3
          try clear hcz44_4
          try clear hcz44_5
          try clear hcz46_0
          try clear hcz46_1
          try clear hcz46_2
          try clear hcz46_3
          try clear hcz46_4
          try clear hcz46_5
          try clear hcz52_0
          try clear hcz52_1
          try clear hcz52_2
          try clear hcz52_3
          try clear hcz52_4
          try clear hcz52_5
          try clear hcz53_0
          try clear hcz53_1
          try clear hcz53_2
          try clear hcz53_3
          try clear hcz53_4
          try clear hcz53_5
          try clear hfz14_0
          try clear hfz14_1
          try clear hfz14_2
          try clear hfz14_3
          try clear hfz14_4
          try clear hfz14_5
          try clear hfz16_0
          try clear hfz16_1
          try clear hfz16_2
          try clear hfz16_3
          try clear hfz16_4
          try clear hfz16_5
          try clear hfz18_0
          try clear hfz18_1
          try clear hfz18_2
          try clear hfz18_3
          try clear hfz18_4
          try clear hfz18_5
          try clear hfz20_0
          try clear hfz20_1
          try clear hfz20_2
          try clear hfz20_3
          try clear hfz20_4
          try clear hfz20_5
          try clear hfz23_0
          try clear hfz23_1
          try clear hfz23_2
          try clear hfz23_3
          try clear hfz23_4
          try clear hfz23_5
          try clear hfz25_0
          try clear hfz25_1
          try clear hfz25_2
          try clear hfz25_3
          try clear hfz25_4
          try clear hfz25_5
          try clear hfz27_0
          try clear hfz27_1
          try clear hfz27_2
          try clear hfz27_3
          try clear hfz27_4
          try clear hfz27_5
          try clear hfz30_0
          try clear hfz30_1
          try clear hfz30_2
          try clear hfz30_3
          try clear hfz30_4
          try clear hfz30_5
          try clear hfz32_0
          try clear hfz32_1
          try clear hfz32_2
          try clear hfz32_3
          try clear hfz32_4
          try clear hfz32_5
          try clear hfz35_0
          try clear hfz35_1
          try clear hfz35_2
          try clear hfz35_3
          try clear hfz35_4
          try clear hfz35_5
          try clear hfz44_0
          try clear hfz44_1
          try clear hfz44_2
          try clear hfz44_3
          try clear hfz44_4
          try clear hfz44_5
          try clear hfz46_0
          try clear hfz46_1
          try clear hfz46_2
          try clear hfz46_3
          try clear hfz46_4
          try clear hfz46_5
          try clear hfz52_0
          try clear hfz52_1
          try clear hfz52_2
          try clear hfz52_3
          try clear hfz52_4
          try clear hfz52_5
          try clear hfz53_0
          try clear hfz53_1
          try clear hfz53_2
          try clear hfz53_3
          try clear hfz53_4
          try clear hfz53_5
          try clear p2
          obtain ⟨kq, x55_41, rfl, HA, HJ41, BK545, BK546, HB⟩ := hcut
          cases kq with
          | zero => exact absurd HA.out (by simp [sawmilllaw58_EventApart.j1])
          | succ kj41 =>
            have H := HA.out
            clear HA
            simp only [sawmilllaw58_EventApart.j1] at H
            by_cases c55 : x55_41 = true
            · subst c55
              have H1 : (none) = some r := by rw [if_pos rfl] at H; exact H
              clear H
              have H := H1
              clear H1
              exact absurd H (by simp)
            · replace c55 := Bool.eq_false_iff.mpr c55
              subst c55
              have H1 : ((event_Line.f kj41 a0_0 a0_1 a0_2 a0_3 l0_4 a0_5).bind fun t558 => ((event_Line.f kj41 a1_0 a1_1 a1_2 a1_3 l1_4 a1_5).bind fun t559 => (if t558.toList = ([] : List UInt8) then (sawmilllaw58_EventApart.j2 kj41 t558 t559 true a1_0 a1_1 a1_2 a1_3 l1_4 a1_5 a0_0 a0_1 a0_2 a0_3 l0_4 a1_5) else (if 0 ≤ (wrap64 ((t558.size : Int) - 1)) then (if (wrap64 ((t558.size : Int) - 1)) < (t558.size : Int) then (if (bt t558 (wrap64 ((t558.size : Int) - 1))) = 10 then ((event_Line.f kj41 a0_0 a0_1 a0_2 a0_3 l0_4 a1_5).bind fun t560 => (sawmilllaw58_EventApart.j2 kj41 t558 t559 (t560.toList != t558.toList) a1_0 a1_1 a1_2 a1_3 l1_4 a1_5 a0_0 a0_1 a0_2 a0_3 l0_4 a1_5)) else (sawmilllaw58_EventApart.j2 kj41 t558 t559 true a1_0 a1_1 a1_2 a1_3 l1_4 a1_5 a0_0 a0_1 a0_2 a0_3 l0_4 a1_5)) else (none)) else (none))))) = some r := by rw [if_neg (show ¬ (false = true) by decide)] at H; exact H
              clear H
              have H := H1
              clear H1
              replace H := Option.bind_eq_some_iff.mp H
              obtain ⟨t558, A560, H⟩ := H
              replace H : ((event_Line.f kj41 a1_0 a1_1 a1_2 a1_3 l1_4 a1_5).bind fun t559 => (if t558.toList = ([] : List UInt8) then (sawmilllaw58_EventApart.j2 kj41 t558 t559 true a1_0 a1_1 a1_2 a1_3 l1_4 a1_5 a0_0 a0_1 a0_2 a0_3 l0_4 a1_5) else (if 0 ≤ (wrap64 ((t558.size : Int) - 1)) then (if (wrap64 ((t558.size : Int) - 1)) < (t558.size : Int) then (if (bt t558 (wrap64 ((t558.size : Int) - 1))) = 10 then ((event_Line.f kj41 a0_0 a0_1 a0_2 a0_3 l0_4 a1_5).bind fun t560 => (sawmilllaw58_EventApart.j2 kj41 t558 t559 (t560.toList != t558.toList) a1_0 a1_1 a1_2 a1_3 l1_4 a1_5 a0_0 a0_1 a0_2 a0_3 l0_4 a1_5)) else (sawmilllaw58_EventApart.j2 kj41 t558 t559 true a1_0 a1_1 a1_2 a1_3 l1_4 a1_5 a0_0 a0_1 a0_2 a0_3 l0_4 a1_5)) else (none)) else (none)))) = some r := H
              have A56 := Aside0.mk A560
              clear A560
              replace H := Option.bind_eq_some_iff.mp H
              obtain ⟨t559, A570, H⟩ := H
              replace H : (if t558.toList = ([] : List UInt8) then (sawmilllaw58_EventApart.j2 kj41 t558 t559 true a1_0 a1_1 a1_2 a1_3 l1_4 a1_5 a0_0 a0_1 a0_2 a0_3 l0_4 a1_5) else (if 0 ≤ (wrap64 ((t558.size : Int) - 1)) then (if (wrap64 ((t558.size : Int) - 1)) < (t558.size : Int) then (if (bt t558 (wrap64 ((t558.size : Int) - 1))) = 10 then ((event_Line.f kj41 a0_0 a0_1 a0_2 a0_3 l0_4 a1_5).bind fun t560 => (sawmilllaw58_EventApart.j2 kj41 t558 t559 (t560.toList != t558.toList) a1_0 a1_1 a1_2 a1_3 l1_4 a1_5 a0_0 a0_1 a0_2 a0_3 l0_4 a1_5)) else (sawmilllaw58_EventApart.j2 kj41 t558 t559 true a1_0 a1_1 a1_2 a1_3 l1_4 a1_5 a0_0 a0_1 a0_2 a0_3 l0_4 a1_5)) else (none)) else (none))) = some r := H
              have A57 := Aside0.mk A570
              clear A570
              have HC58 := Aside0.mk H
              clear H
              have hnb59 := NB545_546.out
              have hnc59 := NB546_545.out
              have hcz60_0 : wc.cell? ⟨gb545, 0, none⟩ = some (.int .i64 a0_0) := (blk_cell BK545.out 0).trans rfl
              have hcz60_1 : wc.cell? ⟨gb545, 1, none⟩ = some (.int .i64 a0_1) := (blk_cell BK545.out 1).trans rfl
              have hcz60_2 : wc.cell? ⟨gb545, 2, none⟩ = some (.string a0_2) := (blk_cell BK545.out 2).trans rfl
              have hcz60_3 : wc.cell? ⟨gb545, 3, none⟩ = some (.string a0_3) := (blk_cell BK545.out 3).trans rfl
              have hcz60_4 : wc.cell? ⟨gb545, 4, none⟩ = some (.slice A0_4 l0_4.length c0_4) := (blk_cell BK545.out 4).trans rfl
              have hcz60_5 : wc.cell? ⟨gb545, 5, none⟩ = some (.string a0_5) := (blk_cell BK545.out 5).trans rfl
              have hfz60_0 := blk_frozen BK545.out 0
              have hfz60_1 := blk_frozen BK545.out 1
              have hfz60_2 := blk_frozen BK545.out 2
              have hfz60_3 := blk_frozen BK545.out 3
              have hfz60_4 := blk_frozen BK545.out 4
              have hfz60_5 := blk_frozen BK545.out 5
              try go_wp2_with (first | ((with_reducible refine gate_dst (N := 9) rfl ?_); (try (refine gate_guard (by rfl) ?_; dsimp only)); refine box_event ?hg (N := 9) ?hd (cs := #[.int .i64 0, .int .i64 0, .string (⟨#[]⟩ : ByteArray), .string (⟨#[]⟩ : ByteArray), .slice none 0 0, .string (⟨#[]⟩ : ByteArray)]) (t := 24) ?hr ?_; (case hd => rfl); (case hg => rfl); (case hr => first | (go_simp; done) | (go_simp; rfl)); intro gb557 hg w61 hbox hb; have n0_ := Aside0.mk (blk_below (g := gb545) (o := .cells #[.int .i64 a0_0, .int .i64 a0_1, .string a0_2, .string a0_3, .slice A0_4 l0_4.length c0_4, .string a0_5] 24 (0, 0)) (by (with_reducible repeat (first | refine blk_drewN ?_ _ | refine blk_drew ?_ | refine blk_alloc ?_ _)); exact BK545.out) hb); have n1_ := Aside0.mk (blk_below (g := gb546) (o := .cells #[.int .i64 a1_0, .int .i64 a1_1, .string a1_2, .string a1_3, .slice A1_4 l1_4.length c1_4, .string a1_5] 24 (0, 0)) (by (with_reducible repeat (first | refine blk_drewN ?_ _ | refine blk_drew ?_ | refine blk_alloc ?_ _)); exact BK546.out) hb); have n2_ := Aside0.mk (below_step (by repeat (first | (with_reducible first | exact HB.out | apply below_alloc | apply pw_below_drewN | apply below_drew1 | refine below_set ?_ GE545.out | refine below_set ?_ GE546.out) | exact HB.out)) hb); have n3_ := Aside0.mk (hbox); have n4_ := Aside0.mk ((by rw [hg]; exact (below_size (by repeat (first | (with_reducible first | exact HB.out | apply below_alloc | apply pw_below_drewN | apply below_drew1 | refine below_set ?_ GE545.out | refine below_set ?_ GE546.out) | exact HB.out))) : w.heap.size ≤ gb557)); have n5_ := Aside0.mk ((by rw [hg]; exact (below_size (by repeat (first | (with_reducible first | exact HB.out | apply below_alloc | apply pw_below_drewN | apply below_drew1 | refine below_set ?_ GE545.out | refine below_set ?_ GE546.out) | exact HB.out))) : w.heap.size ≤ gb557)); have n6_ := Aside0.mk ((by rw [hg]; exact Nat.ne_of_lt (blk_lt (g := gb545) (o := .cells #[.int .i64 a0_0, .int .i64 a0_1, .string a0_2, .string a0_3, .slice A0_4 l0_4.length c0_4, .string a0_5] 24 (0, 0)) (by (with_reducible repeat (first | refine blk_drewN ?_ _ | refine blk_drew ?_ | refine blk_alloc ?_ _)); exact BK545.out)) : gb545 ≠ gb557)); have n7_ := Aside0.mk ((by rw [hg]; exact Nat.ne_of_gt (blk_lt (g := gb545) (o := .cells #[.int .i64 a0_0, .int .i64 a0_1, .string a0_2, .string a0_3, .slice A0_4 l0_4.length c0_4, .string a0_5] 24 (0, 0)) (by (with_reducible repeat (first | refine blk_drewN ?_ _ | refine blk_drew ?_ | refine blk_alloc ?_ _)); exact BK545.out)) : gb557 ≠ gb545)); have n8_ := Aside0.mk ((by rw [hg]; exact Nat.ne_of_lt (blk_lt (g := gb546) (o := .cells #[.int .i64 a1_0, .int .i64 a1_1, .string a1_2, .string a1_3, .slice A1_4 l1_4.length c1_4, .string a1_5] 24 (0, 0)) (by (with_reducible repeat (first | refine blk_drewN ?_ _ | refine blk_drew ?_ | refine blk_alloc ?_ _)); exact BK546.out)) : gb546 ≠ gb557)); have n9_ := Aside0.mk ((by rw [hg]; exact Nat.ne_of_gt (blk_lt (g := gb546) (o := .cells #[.int .i64 a1_0, .int .i64 a1_1, .string a1_2, .string a1_3, .slice A1_4 l1_4.length c1_4, .string a1_5] 24 (0, 0)) (by (with_reducible repeat (first | refine blk_drewN ?_ _ | refine blk_drew ?_ | refine blk_alloc ?_ _)); exact BK546.out)) : gb557 ≠ gb546)); clear BK545; clear BK546; clear HB; have BK545 := n0_; have BK546 := n1_; have HB := n2_; have BK557 := n3_; have GW557 := n4_; have GE557 := n5_; have NB545_557 := n6_; have NB557_545 := n7_; have NB546_557 := n8_; have NB557_546 := n9_; clear n0_ n1_ n2_ n3_ n4_ n5_ n6_ n7_ n8_ n9_; clear hb hbox hg; have hnb62 := NB557_545.out; have hnc62 := NB545_557.out; have hnb63 := NB557_546.out; have hnc63 := NB546_557.out; have hcz64_0 : w61.cell? ⟨gb557, 0, none⟩ = some (.int .i64 0) := (blk_cell BK557.out 0).trans rfl; have hcz64_1 : w61.cell? ⟨gb557, 1, none⟩ = some (.int .i64 0) := (blk_cell BK557.out 1).trans rfl; have hcz64_2 : w61.cell? ⟨gb557, 2, none⟩ = some (.string (⟨#[]⟩ : ByteArray)) := (blk_cell BK557.out 2).trans rfl; have hcz64_3 : w61.cell? ⟨gb557, 3, none⟩ = some (.string (⟨#[]⟩ : ByteArray)) := (blk_cell BK557.out 3).trans rfl; have hcz64_4 : w61.cell? ⟨gb557, 4, none⟩ = some (.slice none 0 0) := (blk_cell BK557.out 4).trans rfl; have hcz64_5 : w61.cell? ⟨gb557, 5, none⟩ = some (.string (⟨#[]⟩ : ByteArray)) := (blk_cell BK557.out 5).trans rfl; have hfz64_0 := blk_frozen BK557.out 0; have hfz64_1 := blk_frozen BK557.out 1; have hfz64_2 := blk_frozen BK557.out 2; have hfz64_3 := blk_frozen BK557.out 3; have hfz64_4 := blk_frozen BK557.out 4; have hfz64_5 := blk_frozen BK557.out 5; have hcz65_0 : w61.cell? ⟨gb546, 0, none⟩ = some (.int .i64 a1_0) := (blk_cell BK546.out 0).trans rfl; have hcz65_1 : w61.cell? ⟨gb546, 1, none⟩ = some (.int .i64 a1_1) := (blk_cell BK546.out 1).trans rfl; have hcz65_2 : w61.cell? ⟨gb546, 2, none⟩ = some (.string a1_2) := (blk_cell BK546.out 2).trans rfl; have hcz65_3 : w61.cell? ⟨gb546, 3, none⟩ = some (.string a1_3) := (blk_cell BK546.out 3).trans rfl; have hcz65_4 : w61.cell? ⟨gb546, 4, none⟩ = some (.slice A1_4 l1_4.length c1_4) := (blk_cell BK546.out 4).trans rfl; have hcz65_5 : w61.cell? ⟨gb546, 5, none⟩ = some (.string a1_5) := (blk_cell BK546.out 5).trans rfl; have hfz65_0 := blk_frozen BK546.out 0; have hfz65_1 := blk_frozen BK546.out 1; have hfz65_2 := blk_frozen BK546.out 2; have hfz65_3 := blk_frozen BK546.out 3; have hfz65_4 := blk_frozen BK546.out 4; have hfz65_5 := blk_frozen BK546.out 5))
              have n0_ : Aside0 ((((((((w61.setCell ⟨gb557, 0, none⟩ (.int .i64 a0_0)).setCell ⟨gb557, 1, none⟩ (.int .i64 a0_1)).setCell ⟨gb557, 2, none⟩ (.string a0_2)).setCell ⟨gb557, 3, none⟩ (.string a0_3)).setCell ⟨gb557, 4, none⟩ (.slice A0_4 l0_4.length c0_4)).setCell ⟨gb557, 5, none⟩ (.string a0_5)).setCell ⟨gb557, 5, none⟩ (.string a1_5)).heap[gb545]? = some (.cells #[.int .i64 a0_0, .int .i64 a0_1, .string a0_2, .string a0_3, .slice A0_4 l0_4.length c0_4, .string a0_5] 24 (0, 0))) := ⟨by (with_reducible repeat (first | refine blk_drewN ?_ _ | refine blk_drew ?_ | refine blk_alloc ?_ _)); refine blk_far ?_ NB545_557.out _; (with_reducible repeat (first | refine blk_drewN ?_ _ | refine blk_drew ?_ | refine blk_alloc ?_ _)); refine blk_far ?_ NB545_557.out _; (with_reducible repeat (first | refine blk_drewN ?_ _ | refine blk_drew ?_ | refine blk_alloc ?_ _)); refine blk_far ?_ NB545_557.out _; (with_reducible repeat (first | refine blk_drewN ?_ _ | refine blk_drew ?_ | refine blk_alloc ?_ _)); refine blk_far ?_ NB545_557.out _; (with_reducible repeat (first | refine blk_drewN ?_ _ | refine blk_drew ?_ | refine blk_alloc ?_ _)); refine blk_far ?_ NB545_557.out _; (with_reducible repeat (first | refine blk_drewN ?_ _ | refine blk_drew ?_ | refine blk_alloc ?_ _)); refine blk_far ?_ NB545_557.out _; (with_reducible repeat (first | refine blk_drewN ?_ _ | refine blk_drew ?_ | refine blk_alloc ?_ _)); refine blk_far ?_ NB545_557.out _; (with_reducible repeat (first | refine blk_drewN ?_ _ | refine blk_drew ?_ | refine blk_alloc ?_ _)); exact BK545.out⟩
              have n1_ : Aside0 ((((((((w61.setCell ⟨gb557, 0, none⟩ (.int .i64 a0_0)).setCell ⟨gb557, 1, none⟩ (.int .i64 a0_1)).setCell ⟨gb557, 2, none⟩ (.string a0_2)).setCell ⟨gb557, 3, none⟩ (.string a0_3)).setCell ⟨gb557, 4, none⟩ (.slice A0_4 l0_4.length c0_4)).setCell ⟨gb557, 5, none⟩ (.string a0_5)).setCell ⟨gb557, 5, none⟩ (.string a1_5)).heap[gb546]? = some (.cells #[.int .i64 a1_0, .int .i64 a1_1, .string a1_2, .string a1_3, .slice A1_4 l1_4.length c1_4, .string a1_5] 24 (0, 0))) := ⟨by (with_reducible repeat (first | refine blk_drewN ?_ _ | refine blk_drew ?_ | refine blk_alloc ?_ _)); refine blk_far ?_ NB546_557.out _; (with_reducible repeat (first | refine blk_drewN ?_ _ | refine blk_drew ?_ | refine blk_alloc ?_ _)); refine blk_far ?_ NB546_557.out _; (with_reducible repeat (first | refine blk_drewN ?_ _ | refine blk_drew ?_ | refine blk_alloc ?_ _)); refine blk_far ?_ NB546_557.out _; (with_reducible repeat (first | refine blk_drewN ?_ _ | refine blk_drew ?_ | refine blk_alloc ?_ _)); refine blk_far ?_ NB546_557.out _; (with_reducible repeat (first | refine blk_drewN ?_ _ | refine blk_drew ?_ | refine blk_alloc ?_ _)); refine blk_far ?_ NB546_557.out _; (with_reducible repeat (first | refine blk_drewN ?_ _ | refine blk_drew ?_ | refine blk_alloc ?_ _)); refine blk_far ?_ NB546_557.out _; (with_reducible repeat (first | refine blk_drewN ?_ _ | refine blk_drew ?_ | refine blk_alloc ?_ _)); refine blk_far ?_ NB546_557.out _; (with_reducible repeat (first | refine blk_drewN ?_ _ | refine blk_drew ?_ | refine blk_alloc ?_ _)); exact BK546.out⟩
              have n2_ : Aside0 ((((((((w61.setCell ⟨gb557, 0, none⟩ (.int .i64 a0_0)).setCell ⟨gb557, 1, none⟩ (.int .i64 a0_1)).setCell ⟨gb557, 2, none⟩ (.string a0_2)).setCell ⟨gb557, 3, none⟩ (.string a0_3)).setCell ⟨gb557, 4, none⟩ (.slice A0_4 l0_4.length c0_4)).setCell ⟨gb557, 5, none⟩ (.string a0_5)).setCell ⟨gb557, 5, none⟩ (.string a1_5)).heap[gb557]? = some (.cells #[.int .i64 a0_0, .int .i64 a0_1, .string a0_2, .string a0_3, .slice A0_4 l0_4.length c0_4, .string a1_5] 24 (0, 0))) := ⟨by (with_reducible repeat (first | refine blk_drewN ?_ _ | refine blk_drew ?_ | refine blk_alloc ?_ _)); refine blk_put (cs := #[.int .i64 a0_0, .int .i64 a0_1, .string a0_2, .string a0_3, .slice A0_4 l0_4.length c0_4, .string a0_5]) ?_ 5 _ rfl; (with_reducible repeat (first | refine blk_drewN ?_ _ | refine blk_drew ?_ | refine blk_alloc ?_ _)); refine blk_put (cs := #[.int .i64 a0_0, .int .i64 a0_1, .string a0_2, .string a0_3, .slice A0_4 l0_4.length c0_4, .string (⟨#[]⟩ : ByteArray)]) ?_ 5 _ rfl; (with_reducible repeat (first | refine blk_drewN ?_ _ | refine blk_drew ?_ | refine blk_alloc ?_ _)); refine blk_put (cs := #[.int .i64 a0_0, .int .i64 a0_1, .string a0_2, .string a0_3, .slice none 0 0, .string (⟨#[]⟩ : ByteArray)]) ?_ 4 _ rfl; (with_reducible repeat (first | refine blk_drewN ?_ _ | refine blk_drew ?_ | refine blk_alloc ?_ _)); refine blk_put (cs := #[.int .i64 a0_0, .int .i64 a0_1, .string a0_2, .string (⟨#[]⟩ : ByteArray), .slice none 0 0, .string (⟨#[]⟩ : ByteArray)]) ?_ 3 _ rfl; (with_reducible repeat (first | refine blk_drewN ?_ _ | refine blk_drew ?_ | refine blk_alloc ?_ _)); refine blk_put (cs := #[.int .i64 a0_0, .int .i64 a0_1, .string (⟨#[]⟩ : ByteArray), .string (⟨#[]⟩ : ByteArray), .slice none 0 0, .string (⟨#[]⟩ : ByteArray)]) ?_ 2 _ rfl; (with_reducible repeat (first | refine blk_drewN ?_ _ | refine blk_drew ?_ | refine blk_alloc ?_ _)); refine blk_put (cs := #[.int .i64 a0_0, .int .i64 0, .string (⟨#[]⟩ : ByteArray), .string (⟨#[]⟩ : ByteArray), .slice none 0 0, .string (⟨#[]⟩ : ByteArray)]) ?_ 1 _ rfl; (with_reducible repeat (first | refine blk_drewN ?_ _ | refine blk_drew ?_ | refine blk_alloc ?_ _)); refine blk_put (cs := #[.int .i64 0, .int .i64 0, .string (⟨#[]⟩ : ByteArray), .string (⟨#[]⟩ : ByteArray), .slice none 0 0, .string (⟨#[]⟩ : ByteArray)]) ?_ 0 _ rfl; (with_reducible repeat (first | refine blk_drewN ?_ _ | refine blk_drew ?_ | refine blk_alloc ?_ _)); exact BK557.out⟩
              have n3_ : Aside0 (Below w.heap.size w (((((((w61.setCell ⟨gb557, 0, none⟩ (.int .i64 a0_0)).setCell ⟨gb557, 1, none⟩ (.int .i64 a0_1)).setCell ⟨gb557, 2, none⟩ (.string a0_2)).setCell ⟨gb557, 3, none⟩ (.string a0_3)).setCell ⟨gb557, 4, none⟩ (.slice A0_4 l0_4.length c0_4)).setCell ⟨gb557, 5, none⟩ (.string a0_5)).setCell ⟨gb557, 5, none⟩ (.string a1_5))) := ⟨by repeat (first | (with_reducible first | exact HB.out | apply below_alloc | apply pw_below_drewN | apply below_drew1 | refine below_set ?_ GE545.out | refine below_set ?_ GE546.out | refine below_set ?_ GE557.out) | exact HB.out)⟩
              (try clear BK545)
              (try clear BK546)
              (try clear BK557)
              (try clear HB)
              generalize (((((((w61.setCell ⟨gb557, 0, none⟩ (.int .i64 a0_0)).setCell ⟨gb557, 1, none⟩ (.int .i64 a0_1)).setCell ⟨gb557, 2, none⟩ (.string a0_2)).setCell ⟨gb557, 3, none⟩ (.string a0_3)).setCell ⟨gb557, 4, none⟩ (.slice A0_4 l0_4.length c0_4)).setCell ⟨gb557, 5, none⟩ (.string a0_5)).setCell ⟨gb557, 5, none⟩ (.string a1_5)) = w66 at n0_ n1_ n2_ n3_ ⊢
              have BK545 := n0_
              have BK546 := n1_
              have BK557 := n2_
              have HB := n3_
              clear n0_ n1_ n2_ n3_
              have n0_ := Aside0.mk (blk_drew BK545.out)
              have n1_ := Aside0.mk (blk_drew BK546.out)
              have n2_ := Aside0.mk (blk_drew BK557.out)
              have n3_ := Aside0.mk (below_drew1 HB.out)
              clear BK545
              clear BK546
              clear BK557
              clear HB
              have BK545 := n0_
              have BK546 := n1_
              have BK557 := n2_
              have HB := n3_
              clear n0_ n1_ n2_ n3_
              refine start_ (n := 6) (S := fun w' => w'.cell? ⟨gb545, 0, none⟩ = some (.int .i64 a0_0) ∧ w'.cell? ⟨gb545, 1, none⟩ = some (.int .i64 a0_1) ∧ w'.cell? ⟨gb545, 2, none⟩ = some (.string a0_2) ∧ w'.cell? ⟨gb545, 3, none⟩ = some (.string a0_3) ∧ w'.cell? ⟨gb545, 4, none⟩ = some (.slice A0_4 l0_4.length c0_4) ∧ w'.cell? ⟨gb545, 5, none⟩ = some (.string a0_5) ∧ w'.cell? ⟨gb546, 0, none⟩ = some (.int .i64 a1_0) ∧ w'.cell? ⟨gb546, 1, none⟩ = some (.int .i64 a1_1) ∧ w'.cell? ⟨gb546, 2, none⟩ = some (.string a1_2) ∧ w'.cell? ⟨gb546, 3, none⟩ = some (.string a1_3) ∧ w'.cell? ⟨gb546, 4, none⟩ = some (.slice A1_4 l1_4.length c1_4) ∧ w'.cell? ⟨gb546, 5, none⟩ = some (.string a1_5)) (ds := []) #[false, false, false, false, false, false] (by kernel_rfl) rfl rfl ⟨(blk_cell BK545.out 0).trans rfl, (blk_cell BK545.out 1).trans rfl, (blk_cell BK545.out 2).trans rfl, (blk_cell BK545.out 3).trans rfl, (blk_cell BK545.out 4).trans rfl, (blk_cell BK545.out 5).trans rfl, (blk_cell BK546.out 0).trans rfl, (blk_cell BK546.out 1).trans rfl, (blk_cell BK546.out 2).trans rfl, (blk_cell BK546.out 3).trans rfl, (blk_cell BK546.out 4).trans rfl, (blk_cell BK546.out 5).trans rfl⟩ (fun hHeld => ?_)
              generalize w66.drew = w67 at BK545 BK546 BK557 HB hHeld ⊢
              refine take_ (i := 0) (N := some 60) (v := ?_) (a' := ?_) #[true, false, false, false, false, false] rfl rfl (by kernel_rfl) (fun _ _ _ h => h) (Or.inl ⟨by rfl, ?_⟩) hHeld ?_ ?_
              rotate_left
              · rintro w' ⟨s0, s1, s2, s3, s4, s5, s6, s7, s8, s9, s10, s11⟩
                go_simp
                with_reducible rfl
              rotate_left
              · simp only [Act.put, List.setIfInBounds_toArray, List.set_cons_zero, List.set_cons_succ, i64_w, i32_w]
                rfl
              refine take_ (i := 2) (N := some 62) (v := ?_) (a' := ?_) #[true, false, true, false, false, false] rfl rfl (by kernel_rfl) (fun _ _ _ h => h) (Or.inl ⟨by rfl, ?_⟩) hHeld ?_ ?_
              rotate_left
              · rintro w' ⟨s0, s1, s2, s3, s4, s5, s6, s7, s8, s9, s10, s11⟩
                go_simp
                with_reducible rfl
              rotate_left
              · simp only [Act.put, List.setIfInBounds_toArray, List.set_cons_zero, List.set_cons_succ, i64_w, i32_w]
                rfl
              refine one_ (i := 1) (N := some 61) #[true, true, true, false, false, false] rfl rfl (by kernel_rfl) (by decide) (fun K hK => ?_)
              refine goes_ Tryd.func20 (by kernel_rfl) rfl #[.agg #[.int .i64 a0_0, .int .i64 a0_1, .string a0_2, .string a0_3, .slice A0_4 l0_4.length c0_4, .string a0_5]] (by rfl) rfl rfl (by (try simp only [List.map_toArray, List.map_cons, List.map_nil]); first | done | rfl | (simp only [List.length_drop, List.length_take]; rfl)) ?_
              with_reducible refine (event_Line.calls kj41 a0_0 a0_1 a0_2 a0_3 _ _ l0_4 a0_5 t558 _ ?side1 ?side2 A56.out ?htab_).mono ?_; (case htab_ => exact TabW.below HTB.out (by repeat (first | (with_reducible first | exact HB.out | apply below_alloc | apply pw_below_drewN | apply below_drew1) | exact HB.out)))
              (case side1 => repeat (first | exact (Kd.C_below HR0_4.out HB.out) | (with_reducible refine Kd.C_alloc ?_ _) | (with_reducible refine Kd.C_drewN ?_ _) | (with_reducible refine Kd.C_drew ?_)))
              (case side2 => exact HC0_4.out)
              rintro e w68 ⟨rfl, hb⟩
              refine ⟨_, rfl, ?_⟩
              have n0_ := Aside0.mk (blk_below (g := gb545) (o := .cells #[.int .i64 a0_0, .int .i64 a0_1, .string a0_2, .string a0_3, .slice A0_4 l0_4.length c0_4, .string a0_5] 24 (0, 0)) (by (with_reducible repeat (first | refine blk_drewN ?_ _ | refine blk_drew ?_ | refine blk_alloc ?_ _)); exact BK545.out) hb)
              have n1_ := Aside0.mk (blk_below (g := gb546) (o := .cells #[.int .i64 a1_0, .int .i64 a1_1, .string a1_2, .string a1_3, .slice A1_4 l1_4.length c1_4, .string a1_5] 24 (0, 0)) (by (with_reducible repeat (first | refine blk_drewN ?_ _ | refine blk_drew ?_ | refine blk_alloc ?_ _)); exact BK546.out) hb)
              have n2_ := Aside0.mk (blk_below (g := gb557) (o := .cells #[.int .i64 a0_0, .int .i64 a0_1, .string a0_2, .string a0_3, .slice A0_4 l0_4.length c0_4, .string a1_5] 24 (0, 0)) (by (with_reducible repeat (first | refine blk_drewN ?_ _ | refine blk_drew ?_ | refine blk_alloc ?_ _)); exact BK557.out) hb)
              have n3_ := Aside0.mk (below_step (by repeat (first | (with_reducible first | exact HB.out | apply below_alloc | apply pw_below_drewN | apply below_drew1 | refine below_set ?_ GE545.out | refine below_set ?_ GE546.out | refine below_set ?_ GE557.out) | exact HB.out)) hb)
              clear BK545
              clear BK546
              clear BK557
              clear HB
              have BK545 := n0_
              have BK546 := n1_
              have BK557 := n2_
              have HB := n3_
              clear n0_ n1_ n2_ n3_
              (try clear hb)
              (try clear hb2)
              (try clear hk)
              (try clear hi)
              refine hK.out _ _ ⟨(blk_cell BK545.out 0).trans rfl, (blk_cell BK545.out 1).trans rfl, (blk_cell BK545.out 2).trans rfl, (blk_cell BK545.out 3).trans rfl, (blk_cell BK545.out 4).trans rfl, (blk_cell BK545.out 5).trans rfl, (blk_cell BK546.out 0).trans rfl, (blk_cell BK546.out 1).trans rfl, (blk_cell BK546.out 2).trans rfl, (blk_cell BK546.out 3).trans rfl, (blk_cell BK546.out 4).trans rfl, (blk_cell BK546.out 5).trans rfl⟩ (fun hHeld => ?_)
              clear hK K
              refine norm_ (a' := ?_) ?_ ?_
              rotate_left
              · show Act.put _ (some 61) _ = _
                simp only [Act.put, List.setIfInBounds_toArray, List.set_cons_zero, List.set_cons_succ, i64_w, i32_w]
                rfl
              refine one_ (i := 3) (N := some 63) #[true, true, true, true, false, false] rfl rfl (by kernel_rfl) (by decide) (fun K hK => ?_)
              refine goes_ Tryd.func20 (by kernel_rfl) rfl #[.agg #[.int .i64 a1_0, .int .i64 a1_1, .string a1_2, .string a1_3, .slice A1_4 l1_4.length c1_4, .string a1_5]] (by rfl) rfl rfl (by (try simp only [List.map_toArray, List.map_cons, List.map_nil]); first | done | rfl | (simp only [List.length_drop, List.length_take]; rfl)) ?_
              with_reducible refine (event_Line.calls kj41 a1_0 a1_1 a1_2 a1_3 _ _ l1_4 a1_5 t559 _ ?side1 ?side2 A57.out ?htab_).mono ?_; (case htab_ => exact TabW.below HTB.out (by repeat (first | (with_reducible first | exact HB.out | apply below_alloc | apply pw_below_drewN | apply below_drew1) | exact HB.out)))
              (case side1 => repeat (first | exact (Kd.C_below HR1_4.out HB.out) | (with_reducible refine Kd.C_alloc ?_ _) | (with_reducible refine Kd.C_drewN ?_ _) | (with_reducible refine Kd.C_drew ?_)))
              (case side2 => exact HC1_4.out)
              rintro e w69 ⟨rfl, hb⟩
              refine ⟨_, rfl, ?_⟩
              have n0_ := Aside0.mk (blk_below (g := gb545) (o := .cells #[.int .i64 a0_0, .int .i64 a0_1, .string a0_2, .string a0_3, .slice A0_4 l0_4.length c0_4, .string a0_5] 24 (0, 0)) (by (with_reducible repeat (first | refine blk_drewN ?_ _ | refine blk_drew ?_ | refine blk_alloc ?_ _)); exact BK545.out) hb)
              have n1_ := Aside0.mk (blk_below (g := gb546) (o := .cells #[.int .i64 a1_0, .int .i64 a1_1, .string a1_2, .string a1_3, .slice A1_4 l1_4.length c1_4, .string a1_5] 24 (0, 0)) (by (with_reducible repeat (first | refine blk_drewN ?_ _ | refine blk_drew ?_ | refine blk_alloc ?_ _)); exact BK546.out) hb)
              have n2_ := Aside0.mk (blk_below (g := gb557) (o := .cells #[.int .i64 a0_0, .int .i64 a0_1, .string a0_2, .string a0_3, .slice A0_4 l0_4.length c0_4, .string a1_5] 24 (0, 0)) (by (with_reducible repeat (first | refine blk_drewN ?_ _ | refine blk_drew ?_ | refine blk_alloc ?_ _)); exact BK557.out) hb)
              have n3_ := Aside0.mk (below_step (by repeat (first | (with_reducible first | exact HB.out | apply below_alloc | apply pw_below_drewN | apply below_drew1 | refine below_set ?_ GE545.out | refine below_set ?_ GE546.out | refine below_set ?_ GE557.out) | exact HB.out)) hb)
              clear BK545
              clear BK546
              clear BK557
              clear HB
              have BK545 := n0_
              have BK546 := n1_
              have BK557 := n2_
              have HB := n3_
              clear n0_ n1_ n2_ n3_
              (try clear hb)
              (try clear hb2)
              (try clear hk)
              (try clear hi)
              refine hK.out _ _ ⟨(blk_cell BK545.out 0).trans rfl, (blk_cell BK545.out 1).trans rfl, (blk_cell BK545.out 2).trans rfl, (blk_cell BK545.out 3).trans rfl, (blk_cell BK545.out 4).trans rfl, (blk_cell BK545.out 5).trans rfl, (blk_cell BK546.out 0).trans rfl, (blk_cell BK546.out 1).trans rfl, (blk_cell BK546.out 2).trans rfl, (blk_cell BK546.out 3).trans rfl, (blk_cell BK546.out 4).trans rfl, (blk_cell BK546.out 5).trans rfl⟩ (fun hHeld => ?_)
              clear hK K
              refine norm_ (a' := ?_) ?_ ?_
              rotate_left
              · show Act.put _ (some 63) _ = _
                simp only [Act.put, List.setIfInBounds_toArray, List.set_cons_zero, List.set_cons_succ, i64_w, i32_w]
                rfl
              refine pure_ (i := 4) (N := some 10) (v := ?_) (a' := ?_) #[true, true, true, true, true, false] rfl rfl (by kernel_rfl) (fun _ _ _ h => h) (Or.inl ⟨by rfl, ?_⟩) ?_ ?_
              rotate_left
              · intro w'
                go_simp
                with_reducible rfl
              rotate_left
              · simp only [Act.put, List.setIfInBounds_toArray, List.set_cons_zero, List.set_cons_succ, i64_w, i32_w]
                rfl
              refine pure_ (i := 5) (N := some 11) (v := ?_) (a' := ?_) #[true, true, true, true, true, true] rfl rfl (by kernel_rfl) (fun _ _ _ h => h) (Or.inl ⟨by rfl, ?_⟩) ?_ ?_
              rotate_left
              · intro w'
                go_simp
                with_reducible rfl
              rotate_left
              · simp only [Act.put, List.setIfInBounds_toArray, List.set_cons_zero, List.set_cons_succ, i64_w, i32_w]
                rfl
              refine done_ (by kernel_rfl) ?_
              go_upto_region 10 with (fail)
              go_cut [79] (fun v79 wc => ∃ (kq : Nat) (x79_57 : Bool), v79 = .bool x79_57 ∧ Aside0 (sawmilllaw58_EventApart.j2 kq t558 t559 x79_57 a1_0 a1_1 a1_2 a1_3 l1_4 a1_5 a0_0 a0_1 a0_2 a0_3 l0_4 a1_5 = some r) ∧ Aside0 (kq ≤ kj41) ∧ Aside0 (wc.heap[gb545]? = some (.cells #[.int .i64 a0_0, .int .i64 a0_1, .string a0_2, .string a0_3, (.slice A0_4 l0_4.length c0_4), .string a0_5] 24 (0, 0))) ∧ Aside0 (wc.heap[gb546]? = some (.cells #[.int .i64 a1_0, .int .i64 a1_1, .string a1_2, .string a1_3, (.slice A1_4 l1_4.length c1_4), .string a1_5] 24 (0, 0))) ∧ Aside0 (wc.heap[gb557]? = some (.cells #[.int .i64 a0_0, .int .i64 a0_1, .string a0_2, .string a0_3, (.slice A0_4 l0_4.length c0_4), .string a1_5] 24 (0, 0))) ∧ Aside0 (Below w.heap.size w wc))
              case first =>
                have H := HC58.out
                clear HC58
                by_cases c70 : t558.toList = ([] : List UInt8)
                · rw [if_pos c70] at H
                  have c70b0 : (t558.toList == ([] : List UInt8) ) = true := beq_iff_eq.mpr c70
                  have c70b1 : (t558.toList != ([] : List UInt8) ) = false := bne_eq_false_iff_eq.mpr c70
                  have c70b2 : t558.toList.isEmpty = true := List.isEmpty_iff.mpr c70
                  clear c70
                  (first | rw [c70b0] | (simp only [i64_w, i32_w]; rw [c70b0]) | skip)
                  (try (rw [c70b2]; simp only [Bool.not_true, Bool.not_false]))
                  have H' := Aside0.mk H
                  clear H
                  go_wp2
                  go_meet
                  case rel => exact ⟨_, (true), (by first | rfl | (simp; done) | (simp [*]; done)), H', ⟨by have := HJ2.out; have := HJ41.out; first | omega | exact Nat.le_refl _⟩, ⟨by (with_reducible repeat (first | refine blk_drewN ?_ _ | refine blk_drew ?_ | refine blk_alloc ?_ _)); exact BK545.out⟩, ⟨by (with_reducible repeat (first | refine blk_drewN ?_ _ | refine blk_drew ?_ | refine blk_alloc ?_ _)); exact BK546.out⟩, ⟨by (with_reducible repeat (first | refine blk_drewN ?_ _ | refine blk_drew ?_ | refine blk_alloc ?_ _)); exact BK557.out⟩, ⟨by repeat (first | (with_reducible first | exact HB.out | apply below_alloc | apply pw_below_drewN | apply below_drew1 | refine below_set ?_ GE545.out | refine below_set ?_ GE546.out | refine below_set ?_ GE557.out) | exact HB.out)⟩⟩
                · rw [if_neg c70] at H
                  have c70b0 : (t558.toList == ([] : List UInt8) ) = false := beq_eq_false_iff_ne.mpr c70
                  have c70b1 : (t558.toList != ([] : List UInt8) ) = true := bne_iff_ne.mpr c70
                  have c70b2 : t558.toList.isEmpty = false := Bool.eq_false_iff.mpr (fun h_ => c70 (List.isEmpty_iff.mp h_))
                  (first | rw [c70b0] | (simp only [i64_w, i32_w]; rw [c70b0]) | skip)
                  (try (rw [c70b2]; simp only [Bool.not_true, Bool.not_false]))
                  obtain ⟨ji71, hji71⟩ : ∃ j_ : Int, (wrap64 ((t558.size : Int) - 1)) = j_ := ⟨_, rfl⟩
                  replace H : (if 0 ≤ (ji71) then (if (ji71) < (t558.size : Int) then (if (bt t558 (ji71)) = 10 then ((event_Line.f kj41 a0_0 a0_1 a0_2 a0_3 l0_4 a1_5).bind fun t560 => (sawmilllaw58_EventApart.j2 kj41 t558 t559 (t560.toList != t558.toList) a1_0 a1_1 a1_2 a1_3 l1_4 a1_5 a0_0 a0_1 a0_2 a0_3 l0_4 a1_5)) else (sawmilllaw58_EventApart.j2 kj41 t558 t559 true a1_0 a1_1 a1_2 a1_3 l1_4 a1_5 a0_0 a0_1 a0_2 a0_3 l0_4 a1_5)) else (none)) else (none)) = some r := by first | (rw [hji71] at H; exact H) | (simp only [hji71] at H ⊢; exact H)
                  have hji71w : (IntKind.i64.wrap ((t558.size : Int) - 1)) = ji71 := (i64_w _).trans hji71
                  by_cases c72 : 0 ≤ (ji71)
                  · rw [if_pos c72] at H
                    have c72b0 : decide (0 ≤ (ji71)) = true := decide_eq_true c72
                    clear c72
                    by_cases c73 : (ji71) < (t558.size : Int)
                    · rw [if_pos c73] at H
                      have c73b0 : decide ((ji71) < (t558.size : Int)) = true := decide_eq_true c73
                      clear c73
                      by_cases c75 : (bt t558 (ji71)) = 10
                      · rw [if_pos c75] at H
                        have c75b0 : ((bt t558 (ji71)) == 10) = true := beq_iff_eq.mpr c75
                        have c75b1 : ((bt t558 (ji71)) != 10) = false := bne_eq_false_iff_eq.mpr c75
                        clear c75
                        replace H := Option.bind_eq_some_iff.mp H
                        obtain ⟨t560, A760, H⟩ := H
                        replace H : (sawmilllaw58_EventApart.j2 kj41 t558 t559 (t560.toList != t558.toList) a1_0 a1_1 a1_2 a1_3 l1_4 a1_5 a0_0 a0_1 a0_2 a0_3 l0_4 a1_5) = some r := H
                        have A76 := Aside0.mk A760
                        clear A760
                        have H' := Aside0.mk H
                        clear H
                        have p74 : 0 ≤ ((ji71) : Int) := of_decide_eq_true (by first | (with_reducible assumption) | assumption)
                        have q74 : (ji71) < (t558.size : Int) := of_decide_eq_true (by first | (with_reducible assumption) | assumption)
                        have hx74 := bt_at t558 (ji71)
                        replace p74 := eq_true p74
                        replace q74 := eq_true q74
                        have hnb77 := NB557_545.out
                        have hnc77 := NB545_557.out
                        have hnb78 := NB557_546.out
                        have hnc78 := NB546_557.out
                        have hcz79_0 : w69.cell? ⟨gb557, 0, none⟩ = some (.int .i64 a0_0) := (blk_cell BK557.out 0).trans rfl
                        have hcz79_1 : w69.cell? ⟨gb557, 1, none⟩ = some (.int .i64 a0_1) := (blk_cell BK557.out 1).trans rfl
                        have hcz79_2 : w69.cell? ⟨gb557, 2, none⟩ = some (.string a0_2) := (blk_cell BK557.out 2).trans rfl
                        have hcz79_3 : w69.cell? ⟨gb557, 3, none⟩ = some (.string a0_3) := (blk_cell BK557.out 3).trans rfl
                        have hcz79_4 : w69.cell? ⟨gb557, 4, none⟩ = some (.slice A0_4 l0_4.length c0_4) := (blk_cell BK557.out 4).trans rfl
                        have hcz79_5 : w69.cell? ⟨gb557, 5, none⟩ = some (.string a1_5) := (blk_cell BK557.out 5).trans rfl
                        have hfz79_0 := blk_frozen BK557.out 0
                        have hfz79_1 := blk_frozen BK557.out 1
                        have hfz79_2 := blk_frozen BK557.out 2
                        have hfz79_3 := blk_frozen BK557.out 3
                        have hfz79_4 := blk_frozen BK557.out 4
                        have hfz79_5 := blk_frozen BK557.out 5
                        go_wp2_with (first | (go_at_call 20; (with_reducible refine (event_Line.calls kj41 a0_0 a0_1 a0_2 a0_3 _ _ l0_4 a1_5 t560 _ ?side1 ?side2 A76.out ?htab_).mono ?_); (case htab_ => exact TabW.below HTB.out (by repeat (first | (with_reducible first | exact HB.out | apply below_alloc | apply pw_below_drewN | apply below_drew1 | refine below_set ?_ GE545.out | refine below_set ?_ GE546.out | refine below_set ?_ GE557.out) | exact HB.out))); (case side1 => repeat (first | exact (Kd.C_below HR0_4.out HB.out) | (with_reducible refine Kd.C_alloc ?_ _) | (with_reducible refine Kd.C_drewN ?_ _) | (with_reducible refine Kd.C_drew ?_))); (case side2 => exact HC0_4.out); rintro e w80 ⟨rfl, hb⟩; have n0_ := Aside0.mk (blk_below (g := gb545) (o := .cells #[.int .i64 a0_0, .int .i64 a0_1, .string a0_2, .string a0_3, .slice A0_4 l0_4.length c0_4, .string a0_5] 24 (0, 0)) (by (with_reducible repeat (first | refine blk_drewN ?_ _ | refine blk_drew ?_ | refine blk_alloc ?_ _)); exact BK545.out) hb); have n1_ := Aside0.mk (blk_below (g := gb546) (o := .cells #[.int .i64 a1_0, .int .i64 a1_1, .string a1_2, .string a1_3, .slice A1_4 l1_4.length c1_4, .string a1_5] 24 (0, 0)) (by (with_reducible repeat (first | refine blk_drewN ?_ _ | refine blk_drew ?_ | refine blk_alloc ?_ _)); exact BK546.out) hb); have n2_ := Aside0.mk (blk_below (g := gb557) (o := .cells #[.int .i64 a0_0, .int .i64 a0_1, .string a0_2, .string a0_3, .slice A0_4 l0_4.length c0_4, .string a1_5] 24 (0, 0)) (by (with_reducible repeat (first | refine blk_drewN ?_ _ | refine blk_drew ?_ | refine blk_alloc ?_ _)); exact BK557.out) hb); have n3_ := Aside0.mk (below_step (by repeat (first | (with_reducible first | exact HB.out | apply below_alloc | apply pw_below_drewN | apply below_drew1 | refine below_set ?_ GE545.out | refine below_set ?_ GE546.out | refine below_set ?_ GE557.out) | exact HB.out)) hb); clear BK545; clear BK546; clear BK557; clear HB; have BK545 := n0_; have BK546 := n1_; have BK557 := n2_; have HB := n3_; clear n0_ n1_ n2_ n3_; (try clear hb); (try clear hb2); (try clear hk); (try clear hi)))
                        go_meet
                        case rel => exact ⟨_, ((t560.toList != t558.toList)), (by first | rfl | (simp; done) | (simp [*]; done)), H', ⟨by have := HJ2.out; have := HJ41.out; first | omega | exact Nat.le_refl _⟩, ⟨by (with_reducible repeat (first | refine blk_drewN ?_ _ | refine blk_drew ?_ | refine blk_alloc ?_ _)); exact BK545.out⟩, ⟨by (with_reducible repeat (first | refine blk_drewN ?_ _ | refine blk_drew ?_ | refine blk_alloc ?_ _)); exact BK546.out⟩, ⟨by (with_reducible repeat (first | refine blk_drewN ?_ _ | refine blk_drew ?_ | refine blk_alloc ?_ _)); exact BK557.out⟩, ⟨by repeat (first | (with_reducible first | exact HB.out | apply below_alloc | apply pw_below_drewN | apply below_drew1 | refine below_set ?_ GE545.out | refine below_set ?_ GE546.out | refine below_set ?_ GE557.out) | exact HB.out)⟩⟩
                      · rw [if_neg c75] at H
                        have c75b0 : ((bt t558 (ji71)) == 10) = false := beq_eq_false_iff_ne.mpr c75
                        have c75b1 : ((bt t558 (ji71)) != 10) = true := bne_iff_ne.mpr c75
                        have H' := Aside0.mk H
                        clear H
                        have p74 : 0 ≤ ((ji71) : Int) := of_decide_eq_true (by first | (with_reducible assumption) | assumption)
                        have q74 : (ji71) < (t558.size : Int) := of_decide_eq_true (by first | (with_reducible assumption) | assumption)
                        have hx74 := bt_at t558 (ji71)
                        replace p74 := eq_true p74
                        replace q74 := eq_true q74
                        go_wp2
                        go_meet
                        case rel => exact ⟨_, (true), (by first | rfl | (simp; done) | (simp [*]; done)), H', ⟨by have := HJ2.out; have := HJ41.out; first | omega | exact Nat.le_refl _⟩, ⟨by (with_reducible repeat (first | refine blk_drewN ?_ _ | refine blk_drew ?_ | refine blk_alloc ?_ _)); exact BK545.out⟩, ⟨by (with_reducible repeat (first | refine blk_drewN ?_ _ | refine blk_drew ?_ | refine blk_alloc ?_ _)); exact BK546.out⟩, ⟨by (with_reducible repeat (first | refine blk_drewN ?_ _ | refine blk_drew ?_ | refine blk_alloc ?_ _)); exact BK557.out⟩, ⟨by repeat (first | (with_reducible first | exact HB.out | apply below_alloc | apply pw_below_drewN | apply below_drew1 | refine below_set ?_ GE545.out | refine below_set ?_ GE546.out | refine below_set ?_ GE557.out) | exact HB.out)⟩⟩
                    · rw [if_neg c73] at H
                      exact absurd H (by simp)
                  · rw [if_neg c72] at H
                    exact absurd H (by simp)
              case rest =>
                clear HC58
                try clear c1
                try clear c2
                try clear p2
                try clear c3
                try clear c4
                try clear c5
                try clear c6
                try clear p6
                try clear c7
                try clear p7
                try clear q7
                try clear hx7
                try clear c9
                try clear c10
                try clear c11
                try clear c11b0
                try clear c11b1
                try clear c13
                try clear c15
                try clear c20
                try clear c22
                try clear c29
                try clear c34
                try clear c37
                try clear c43
                try clear c48
                try clear c48b0
                try clear c48b1
                try clear c49
                try clear c49b0
                try clear c49b1
                try clear c51
                try clear c55
                try clear c59
                try clear c62
                try clear c63
                try clear p64
                try clear c70
                try clear c70b0
                try clear c70b1
                try clear c70b2
                try clear c72
                try clear c72b0
                try clear c73
                try clear c73b0
                try clear p74
                try clear q74
                try clear hx74
                try clear c75
                try clear c75b0
                try clear c75b1
                try clear c77
                try clear c78
                try clear hcz14_0
                try clear hcz14_1
                try clear hcz14_2
                try clear hcz14_3
                try clear hcz14_4
                try clear hcz14_5
                try clear hcz16_0
                try clear hcz16_1
                try clear hcz16_2
                try clear hcz16_3
                try clear hcz16_4
                try clear hcz16_5
                try clear hcz18_0
                try clear hcz18_1
                try clear hcz18_2
                try clear hcz18_3
                try clear hcz18_4
                try clear hcz18_5
                try clear hcz20_0
                try clear hcz20_1
                try clear hcz20_2
                try clear hcz20_3
                try clear hcz20_4
                try clear hcz20_5
                try clear hcz23_0
                try clear hcz23_1
                try clear hcz23_2
                try clear hcz23_3
                try clear hcz23_4
                try clear hcz23_5
                try clear hcz25_0
                try clear hcz25_1
                try clear hcz25_2
                try clear hcz25_3
                try clear hcz25_4
                try clear hcz25_5
                try clear hcz27_0
                try clear hcz27_1
                try clear hcz27_2
                try clear hcz27_3
                try clear hcz27_4
                try clear hcz27_5
                try clear hcz30_0
                try clear hcz30_1
                try clear hcz30_2
                try clear hcz30_3
                try clear hcz30_4
                try clear hcz30_5
                try clear hcz32_0
                try clear hcz32_1
                try clear hcz32_2
                try clear hcz32_3
                try clear hcz32_4
                try clear hcz32_5
                try clear hcz35_0
                try clear hcz35_1
                try clear hcz35_2
                try clear hcz35_3
                try clear hcz35_4
                try clear hcz35_5
                try clear hcz44_0
                try clear hcz44_1
                try clear hcz44_2
                try clear hcz44_3
                try clear hcz44_4
                try clear hcz44_5
                try clear hcz46_0
                try clear hcz46_1
                try clear hcz46_2
                try clear hcz46_3
                try clear hcz46_4
                try clear hcz46_5
                try clear hcz52_0
                try clear hcz52_1
                try clear hcz52_2
                try clear hcz52_3
                try clear hcz52_4
                try clear hcz52_5
                try clear hcz53_0
                try clear hcz53_1
                try clear hcz53_2
                try clear hcz53_3
                try clear hcz53_4
                try clear hcz53_5
                try clear hcz60_0
                try clear hcz60_1
                try clear hcz60_2
                try clear hcz60_3
                try clear hcz60_4
                try clear hcz60_5
                try clear hcz64_0
                try clear hcz64_1
                try clear hcz64_2
                try clear hcz64_3
                try clear hcz64_4
                try clear hcz64_5
                try clear hcz65_0
                try clear hcz65_1
                try clear hcz65_2
                try clear hcz65_3
                try clear hcz65_4
                try clear hcz65_5
                try clear hcz79_0
                try clear hcz79_1
                try clear hcz79_2
                try clear hcz79_3
                try clear hcz79_4
                try clear hcz79_5
                try clear hfz14_0
                try clear hfz14_1
                try clear hfz14_2
                try clear hfz14_3
                try clear hfz14_4
                try clear hfz14_5
                try clear hfz16_0
                try clear hfz16_1
                try clear hfz16_2
                try clear hfz16_3
                try clear hfz16_4
                try clear hfz16_5
                try clear hfz18_0
                try clear hfz18_1
                try clear hfz18_2
                try clear hfz18_3
                try clear hfz18_4
                try clear hfz18_5
                try clear hfz20_0
                try clear hfz20_1
                try clear hfz20_2
                try clear hfz20_3
                try clear hfz20_4
                try clear hfz20_5
                try clear hfz23_0
                try clear hfz23_1
                try clear hfz23_2
                try clear hfz23_3
                try clear hfz23_4
                try clear hfz23_5
                try clear hfz25_0
                try clear hfz25_1
                try clear hfz25_2
                try clear hfz25_3
                try clear hfz25_4
                try clear hfz25_5
                try clear hfz27_0
                try clear hfz27_1
                try clear hfz27_2
                try clear hfz27_3
                try clear hfz27_4
                try clear hfz27_5
                try clear hfz30_0
                try clear hfz30_1
                try clear hfz30_2
                try clear hfz30_3
                try clear hfz30_4
                try clear hfz30_5
                try clear hfz32_0
                try clear hfz32_1
                try clear hfz32_2
                try clear hfz32_3
                try clear hfz32_4
                try clear hfz32_5
                try clear hfz35_0
                try clear hfz35_1
                try clear hfz35_2
                try clear hfz35_3
                try clear hfz35_4
                try clear hfz35_5
                try clear hfz44_0
                try clear hfz44_1
                try clear hfz44_2
                try clear hfz44_3
                try clear hfz44_4
                try clear hfz44_5
                try clear hfz46_0
                try clear hfz46_1
                try clear hfz46_2
                try clear hfz46_3
                try clear hfz46_4
                try clear hfz46_5
                try clear hfz52_0
                try clear hfz52_1
                try clear hfz52_2
                try clear hfz52_3
                try clear hfz52_4
                try clear hfz52_5
                try clear hfz53_0
                try clear hfz53_1
                try clear hfz53_2
                try clear hfz53_3
                try clear hfz53_4
                try clear hfz53_5
                try clear hfz60_0
                try clear hfz60_1
                try clear hfz60_2
                try clear hfz60_3
                try clear hfz60_4
                try clear hfz60_5
                try clear hfz64_0
                try clear hfz64_1
                try clear hfz64_2
                try clear hfz64_3
                try clear hfz64_4
                try clear hfz64_5
                try clear hfz65_0
                try clear hfz65_1
                try clear hfz65_2
                try clear hfz65_3
                try clear hfz65_4
                try clear hfz65_5
                try clear hfz79_0
                try clear hfz79_1
                try clear hfz79_2
                try clear hfz79_3
                try clear hfz79_4
                try clear hfz79_5
                try clear p2
                try clear p74
                try clear q74
                obtain ⟨kq, x79_57, rfl, HA, HJ57, BK545, BK546, BK557, HB⟩ := hcut
                cases kq with
                | zero => exact absurd HA.out (by simp [sawmilllaw58_EventApart.j2])
                | succ kj57 =>
                  have H := HA.out
                  clear HA
                  simp only [sawmilllaw58_EventApart.j2] at H
                  by_cases c81 : x79_57 = true
                  · subst c81
                    have H1 : (none) = some r := by rw [if_pos rfl] at H; exact H
                    clear H
                    have H := H1
                    clear H1
                    exact absurd H (by simp)
                  · replace c81 := Bool.eq_false_iff.mpr c81
                    subst c81
                    have H1 : ((event_Same.f kj57 a0_0 a0_1 a0_2 a0_3 l0_4 a1_5 a1_0 a1_1 a1_2 a1_3 l1_4 a1_5).bind fun t561 => (if ((t558.toList == t559.toList) == t561) = true then ((sawmilllaw58_awake.f kj57).bind fun t562 => (some t562)) else (none))) = some r := by rw [if_neg (show ¬ (false = true) by decide)] at H; exact H
                    clear H
                    have H := H1
                    clear H1
                    replace H := Option.bind_eq_some_iff.mp H
                    obtain ⟨t561, A820, H⟩ := H
                    replace H : (if ((t558.toList == t559.toList) == t561) = true then ((sawmilllaw58_awake.f kj57).bind fun t562 => (some t562)) else (none)) = some r := H
                    have A82 := Aside0.mk A820
                    clear A820
                    by_cases c83 : ((t558.toList == t559.toList) == t561) = true
                    · rw [if_pos c83] at H
                      have c83b0 : ((t558.toList == t559.toList) == t561) = true := c83
                      (try (have c83b1 : decide ((t558.toList == t559.toList) = t561) = true := by simpa using c83))
                      (try (have c83b2 : ((t558.toList == t559.toList) == t561) = true := by simpa using c83))
                      clear c83
                      replace H := Option.bind_eq_some_iff.mp H
                      obtain ⟨t562, A840, H⟩ := H
                      replace H : (some t562) = some r := H
                      have A84 := Aside0.mk A840
                      clear A840
                      obtain rfl := Option.some.inj H
                      have hnb85 := NB557_545.out
                      have hnc85 := NB545_557.out
                      have hnb86 := NB557_546.out
                      have hnc86 := NB546_557.out
                      have hcz87_0 : wc.cell? ⟨gb557, 0, none⟩ = some (.int .i64 a0_0) := (blk_cell BK557.out 0).trans rfl
                      have hcz87_1 : wc.cell? ⟨gb557, 1, none⟩ = some (.int .i64 a0_1) := (blk_cell BK557.out 1).trans rfl
                      have hcz87_2 : wc.cell? ⟨gb557, 2, none⟩ = some (.string a0_2) := (blk_cell BK557.out 2).trans rfl
                      have hcz87_3 : wc.cell? ⟨gb557, 3, none⟩ = some (.string a0_3) := (blk_cell BK557.out 3).trans rfl
                      have hcz87_4 : wc.cell? ⟨gb557, 4, none⟩ = some (.slice A0_4 l0_4.length c0_4) := (blk_cell BK557.out 4).trans rfl
                      have hcz87_5 : wc.cell? ⟨gb557, 5, none⟩ = some (.string a1_5) := (blk_cell BK557.out 5).trans rfl
                      have hfz87_0 := blk_frozen BK557.out 0
                      have hfz87_1 := blk_frozen BK557.out 1
                      have hfz87_2 := blk_frozen BK557.out 2
                      have hfz87_3 := blk_frozen BK557.out 3
                      have hfz87_4 := blk_frozen BK557.out 4
                      have hfz87_5 := blk_frozen BK557.out 5
                      have hnb88 := NB546_545.out
                      have hnc88 := NB545_546.out
                      have hcz89_0 : wc.cell? ⟨gb546, 0, none⟩ = some (.int .i64 a1_0) := (blk_cell BK546.out 0).trans rfl
                      have hcz89_1 : wc.cell? ⟨gb546, 1, none⟩ = some (.int .i64 a1_1) := (blk_cell BK546.out 1).trans rfl
                      have hcz89_2 : wc.cell? ⟨gb546, 2, none⟩ = some (.string a1_2) := (blk_cell BK546.out 2).trans rfl
                      have hcz89_3 : wc.cell? ⟨gb546, 3, none⟩ = some (.string a1_3) := (blk_cell BK546.out 3).trans rfl
                      have hcz89_4 : wc.cell? ⟨gb546, 4, none⟩ = some (.slice A1_4 l1_4.length c1_4) := (blk_cell BK546.out 4).trans rfl
                      have hcz89_5 : wc.cell? ⟨gb546, 5, none⟩ = some (.string a1_5) := (blk_cell BK546.out 5).trans rfl
                      have hfz89_0 := blk_frozen BK546.out 0
                      have hfz89_1 := blk_frozen BK546.out 1
                      have hfz89_2 := blk_frozen BK546.out 2
                      have hfz89_3 := blk_frozen BK546.out 3
                      have hfz89_4 := blk_frozen BK546.out 4
                      have hfz89_5 := blk_frozen BK546.out 5
                      go_wp2_with (first | ((with_reducible refine gate_callee (f := 22) rfl ?_); refine goesL_ (some 85) rfl rfl Tryd.func22 (by kernel_rfl) rfl #[.agg #[.int .i64 a0_0, .int .i64 a0_1, .string a0_2, .string a0_3, .slice A0_4 l0_4.length c0_4, .string a1_5], .agg #[.int .i64 a1_0, .int .i64 a1_1, .string a1_2, .string a1_3, .slice A1_4 l1_4.length c1_4, .string a1_5]] rfl (by (try simp only [List.map_toArray, List.map_cons, List.map_nil]); first | done | rfl | (simp only [List.length_drop, List.length_take]; rfl)) ?_; (with_reducible refine (event_Same.calls kj57 a0_0 a0_1 a0_2 a0_3 _ _ l0_4 a1_5 a1_0 a1_1 a1_2 a1_3 _ _ l1_4 a1_5 t561 _ ?side1 ?side2 ?side3 ?side4 A82.out).mono ?_); (case side1 => repeat (first | exact (Kd.C_below HR0_4.out HB.out) | (with_reducible refine Kd.C_alloc ?_ _) | (with_reducible refine Kd.C_drewN ?_ _) | (with_reducible refine Kd.C_drew ?_))); (case side2 => exact HC0_4.out); (case side3 => repeat (first | exact (Kd.C_below HR1_4.out HB.out) | (with_reducible refine Kd.C_alloc ?_ _) | (with_reducible refine Kd.C_drewN ?_ _) | (with_reducible refine Kd.C_drew ?_))); (case side4 => exact HC1_4.out); rintro e w90 ⟨rfl, hb⟩; refine ⟨_, rfl, ?_⟩; have n0_ := Aside0.mk (blk_below (g := gb545) (o := .cells #[.int .i64 a0_0, .int .i64 a0_1, .string a0_2, .string a0_3, .slice A0_4 l0_4.length c0_4, .string a0_5] 24 (0, 0)) (by (with_reducible repeat (first | refine blk_drewN ?_ _ | refine blk_drew ?_ | refine blk_alloc ?_ _)); exact BK545.out) hb); have n1_ := Aside0.mk (blk_below (g := gb546) (o := .cells #[.int .i64 a1_0, .int .i64 a1_1, .string a1_2, .string a1_3, .slice A1_4 l1_4.length c1_4, .string a1_5] 24 (0, 0)) (by (with_reducible repeat (first | refine blk_drewN ?_ _ | refine blk_drew ?_ | refine blk_alloc ?_ _)); exact BK546.out) hb); have n2_ := Aside0.mk (blk_below (g := gb557) (o := .cells #[.int .i64 a0_0, .int .i64 a0_1, .string a0_2, .string a0_3, .slice A0_4 l0_4.length c0_4, .string a1_5] 24 (0, 0)) (by (with_reducible repeat (first | refine blk_drewN ?_ _ | refine blk_drew ?_ | refine blk_alloc ?_ _)); exact BK557.out) hb); have n3_ := Aside0.mk (below_step (by repeat (first | (with_reducible first | exact HB.out | apply below_alloc | apply pw_below_drewN | apply below_drew1 | refine below_set ?_ GE545.out | refine below_set ?_ GE546.out | refine below_set ?_ GE557.out) | exact HB.out)) hb); clear BK545; clear BK546; clear BK557; clear HB; have BK545 := n0_; have BK546 := n1_; have BK557 := n2_; have HB := n3_; clear n0_ n1_ n2_ n3_; (try clear hb); (try clear hb2); (try clear hk); (try clear hi)) | (go_at_call 10; (with_reducible refine (sawmilllaw58_awake.calls kj57  t562 _ A84.out ?htab_).mono ?_); (case htab_ => exact TabW.below HTB.out (by repeat (first | (with_reducible first | exact HB.out | apply below_alloc | apply pw_below_drewN | apply below_drew1 | refine below_set ?_ GE545.out | refine below_set ?_ GE546.out | refine below_set ?_ GE557.out) | exact HB.out))); rintro e w91 ⟨rfl, hb⟩; have n0_ := Aside0.mk (blk_below (g := gb545) (o := .cells #[.int .i64 a0_0, .int .i64 a0_1, .string a0_2, .string a0_3, .slice A0_4 l0_4.length c0_4, .string a0_5] 24 (0, 0)) (by (with_reducible repeat (first | refine blk_drewN ?_ _ | refine blk_drew ?_ | refine blk_alloc ?_ _)); exact BK545.out) hb); have n1_ := Aside0.mk (blk_below (g := gb546) (o := .cells #[.int .i64 a1_0, .int .i64 a1_1, .string a1_2, .string a1_3, .slice A1_4 l1_4.length c1_4, .string a1_5] 24 (0, 0)) (by (with_reducible repeat (first | refine blk_drewN ?_ _ | refine blk_drew ?_ | refine blk_alloc ?_ _)); exact BK546.out) hb); have n2_ := Aside0.mk (blk_below (g := gb557) (o := .cells #[.int .i64 a0_0, .int .i64 a0_1, .string a0_2, .string a0_3, .slice A0_4 l0_4.length c0_4, .string a1_5] 24 (0, 0)) (by (with_reducible repeat (first | refine blk_drewN ?_ _ | refine blk_drew ?_ | refine blk_alloc ?_ _)); exact BK557.out) hb); have n3_ := Aside0.mk (below_step (by repeat (first | (with_reducible first | exact HB.out | apply below_alloc | apply pw_below_drewN | apply below_drew1 | refine below_set ?_ GE545.out | refine below_set ?_ GE546.out | refine below_set ?_ GE557.out) | exact HB.out)) hb); clear BK545; clear BK546; clear BK557; clear HB; have BK545 := n0_; have BK546 := n1_; have BK557 := n2_; have HB := n3_; clear n0_ n1_ n2_ n3_; (try clear hb); (try clear hb2); (try clear hk); (try clear hi)))
                      go_ret
                      exact ⟨by first | rfl | (simp [errW_none, errW_some] <;> rfl) | (simp [*, errW_none, errW_some] <;> rfl), by repeat (first | (with_reducible first | exact HB.out | apply below_alloc | apply pw_below_drewN | apply below_drew1 | refine below_set ?_ GE545.out | refine below_set ?_ GE546.out | refine below_set ?_ GE557.out) | exact HB.out)⟩
                    · rw [if_neg c83] at H
                      exact absurd H (by simp)
end Go.Proofs.YtbahagcidhmojaaDoor.PA
namespace Go.Proofs.YtbahagcidhmojaaDoor.PA
open Go.RowKit Go.Proofs.YtbahagcidhmojaaDoorW.PrintWords Go.Proofs.YtbahagcidhmojaaDoorW.PrintLast Go.Proofs.YtbahagcidhmojaaDoorW.PrintMore
attribute [local go_sem] max2_int min2_int max_two min_two max_three min_three max_four min_four
set_option linter.unusedVariables false
set_option linter.unusedSimpArgs false
end Go.Proofs.YtbahagcidhmojaaDoor.PA
namespace Go.Proofs.YtbahagcidhmojaaDoor.PA
open Go.RowKit Go.Proofs.YtbahagcidhmojaaDoorW.PrintWords Go.Proofs.YtbahagcidhmojaaDoorW.PrintLast Go.Proofs.YtbahagcidhmojaaDoorW.PrintMore
attribute [local go_sem] max2_int min2_int max_two min_two max_three min_three max_four min_four
set_option linter.unusedVariables false
set_option linter.unusedSimpArgs false
end Go.Proofs.YtbahagcidhmojaaDoor.PA
namespace Go.Proofs.YtbahagcidhmojaaDoor.PA
open Go.RowKit Go.Proofs.YtbahagcidhmojaaDoorW.PrintWords Go.Proofs.YtbahagcidhmojaaDoorW.PrintLast Go.Proofs.YtbahagcidhmojaaDoorW.PrintMore
attribute [local go_sem] max2_int min2_int max_two min_two max_three min_three max_four min_four
set_option linter.unusedVariables false
set_option linter.unusedSimpArgs false
end Go.Proofs.YtbahagcidhmojaaDoor.PA
namespace Go.Proofs.YtbahagcidhmojaaDoor.PA
open Go.RowKit Go.Proofs.YtbahagcidhmojaaDoorW.PrintWords Go.Proofs.YtbahagcidhmojaaDoorW.PrintLast Go.Proofs.YtbahagcidhmojaaDoorW.PrintMore
attribute [local go_sem] max2_int min2_int max_two min_two max_three min_three max_four min_four
set_option linter.unusedVariables false
set_option linter.unusedSimpArgs false
end Go.Proofs.YtbahagcidhmojaaDoor.PA
namespace Go.Proofs.YtbahagcidhmojaaDoor.PA
open Go.RowKit Go.Proofs.YtbahagcidhmojaaDoorW.PrintWords Go.Proofs.YtbahagcidhmojaaDoorW.PrintLast Go.Proofs.YtbahagcidhmojaaDoorW.PrintMore
attribute [local go_sem] max2_int min2_int max_two min_two max_three min_three max_four min_four
set_option linter.unusedVariables false
set_option linter.unusedSimpArgs false
end Go.Proofs.YtbahagcidhmojaaDoor.PA
namespace Go.Proofs.YtbahagcidhmojaaDoor.PA
open Go.RowKit Go.Proofs.YtbahagcidhmojaaDoorW.PrintWords Go.Proofs.YtbahagcidhmojaaDoorW.PrintLast Go.Proofs.YtbahagcidhmojaaDoorW.PrintMore
attribute [local go_sem] max2_int min2_int max_two min_two max_three min_three max_four min_four
set_option linter.unusedVariables false
set_option linter.unusedSimpArgs false
end Go.Proofs.YtbahagcidhmojaaDoor.PA
namespace Go.Proofs.YtbahagcidhmojaaDoor.PA
open Go.RowKit Go.Proofs.YtbahagcidhmojaaDoorW.PrintWords Go.Proofs.YtbahagcidhmojaaDoorW.PrintLast Go.Proofs.YtbahagcidhmojaaDoorW.PrintMore
attribute [local go_sem] max2_int min2_int max_two min_two max_three min_three max_four min_four
set_option linter.unusedVariables false
set_option linter.unusedSimpArgs false
end Go.Proofs.YtbahagcidhmojaaDoor.PA
namespace Go.Proofs.YtbahagcidhmojaaDoor.PA
open Go.RowKit Go.Proofs.YtbahagcidhmojaaDoorW.PrintWords Go.Proofs.YtbahagcidhmojaaDoorW.PrintLast Go.Proofs.YtbahagcidhmojaaDoorW.PrintMore
attribute [local go_sem] max2_int min2_int max_two min_two max_three min_three max_four min_four
set_option linter.unusedVariables false
set_option linter.unusedSimpArgs false
end Go.Proofs.YtbahagcidhmojaaDoor.PA
namespace Go.Proofs.YtbahagcidhmojaaDoor.PA
open Go.RowKit Go.Proofs.YtbahagcidhmojaaDoorW.PrintWords Go.Proofs.YtbahagcidhmojaaDoorW.PrintLast Go.Proofs.YtbahagcidhmojaaDoorW.PrintMore
attribute [local go_sem] max2_int min2_int max_two min_two max_three min_three max_four min_four
set_option linter.unusedVariables false
set_option linter.unusedSimpArgs false
end Go.Proofs.YtbahagcidhmojaaDoor.PA
