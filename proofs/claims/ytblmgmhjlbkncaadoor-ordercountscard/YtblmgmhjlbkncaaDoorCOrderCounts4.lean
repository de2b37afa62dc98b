/- Each Go function that the law reaches as a Lean function, and that its call comes to that function's answer. -/
import Derived.Test.YtblmgmhjlbkncaaDoorCOrderCounts3
import Derived.Test.YtblmgmhjlbkncaaDoorVOrderCounts
import Derived.Test.YtblmgmhjlbkncaaDoorProg
import Derived.Test.YtblmgmhjlbkncaaDoorShelf
import Derived.Below
import Derived.Deep.Draws
import Derived.Deep.AppendLies
import Derived.Maps.AppendAt
import Derived.OwnWalk
import Derived.Laws.BytesArg
import Derived.Laws.MakeOwn
import Derived.Laws.OwnMore
import Derived.Deep.OwnRows
import Derived.Tactics
import Derived.Lib.ConvBytes
import Derived.Laws.Slices
import Derived.WalkKit
import Derived.KernelRfl
import Derived.RowKit3
import Derived.Deep.LoopGhost
import Derived.Deep.QuietTactic
import Derived.BigQuiet
import Derived.WideLaws
import Derived.Deep.DeepCutAuto
import Derived.Deep.CutBlock
import Derived.Deep.RegionHeld3
import Derived.Laws.Rows
import Derived.Lib.AppendStr
import Derived.ArgAppend
import Derived.Laws.IdiomCopy
import Derived.OrdersHeld
import Derived.Laws.BitsLemmas
import Derived.RowKit
import Derived.LoopN
import Derived.Laws.EntriesVeiled
import Derived.LaidSub
import Derived.MakeChecks
import Derived.Lib.LaidTab
import Derived.Maps.OwnOps
import Derived.Maps.Views
import Derived.Maps.Keyed
import Derived.Shelf.SlicesQ.Load
import Derived.Laws.Tables
namespace Go.Proofs.YtblmgmhjlbkncaaDoor.PA
open Go.RowKit Go.Proofs.YtblmgmhjlbkncaaDoorW.PrintWords Go.Proofs.YtblmgmhjlbkncaaDoorW.PrintLast Go.Proofs.YtblmgmhjlbkncaaDoorW.PrintMore
attribute [local go_sem] max2_int min2_int max_two min_two max_three min_three max_four min_four
set_option linter.unusedVariables false
set_option linter.unusedSimpArgs false
def wire_Reader_Err.f (s0_0 : ByteArray) (s0_1 : Int) (s0_2 : Int) : Option (Int × ByteArray × Int × Int) := some (s0_2, s0_0, s0_1, s0_2)
set_option maxHeartbeats 8000000 in
set_option maxRecDepth 100000 in
theorem wire_Reader_Err.calls (g : Nat) (s0_0 : ByteArray) (s0_1 : Int) (s0_2 : Int) (r1 : Int) (r2 : ByteArray) (r3 : Int) (r4 : Int) (w0 w : World) (hI : IsS104 w0 w g s0_0 s0_1 s0_2) (hB : Below w0.heap.size w0 w) (h : wire_Reader_Err.f s0_0 s0_1 s0_2 = some (r1, r2, r3, r4)) :
  Calls Tryd.prog 82 #[.pointer (some ⟨g, 0, none⟩)] w fun e w' => e = .returned (.int .i64 r1) ∧ IsS104 w0 w' g r2 r3 r4 ∧ Below w0.heap.size w0 w' ∧ KeepBut w w' g none := by
 have HI0 := Aside0.mk hI
 have HK := q_ (KeepBut.refl w g none)
 have HL := Aside0.mk hB.size
 clear hI
 have HW0 := Aside0.mk hB.size
 have HB := Aside0.mk hB
 clear hB
 have H : (some (s0_2, s0_0, s0_1, s0_2)) = some (r1, r2, r3, r4) := h
 clear h
 simp only [Option.some.injEq, Prod.mk.injEq] at H
 obtain ⟨rfl, rfl, rfl, rfl⟩ := H
 obtain ⟨HGz2, hgz2⟩ := HI0.out
 have hcz2_0 := cellS104_0 HGz2
 have hcz2_1 := cellS104_1 HGz2
 have hcz2_2 := cellS104_2 HGz2
 have hfz2_0 := bF HGz2 0
 have hfz2_1 := bF HGz2 1
 have hfz2_2 := bF HGz2 2
 clear HGz2 hgz2
 go_enter Tryd.func82, Tryd.ntmps82
 go_wp2
 go_ret
 exact ⟨by first | rfl | (simp [*] <;> rfl), by repeat (first | (with_reducible first | exact HI0.out | apply IsS104.alloc | apply IsS104.drewN | apply IsS104.drew | apply IsS104.set_0 | apply IsS104.set_1 | apply IsS104.set_2) | exact HI0.out), by repeat (first | (with_reducible first | exact HB.out | apply pA | apply pN | apply pd_ | refine pS ?_ (IsS104.ge HI0.out)) | exact HB.out), by repeat (first | (with_reducible first | exact HK.out | apply KeepBut.set_ | apply keep_drewN | apply keep_drew | apply keep_alloc) | exact HK.out)⟩
def wire_Reader_Left.f (s0_0 : ByteArray) (s0_1 : Int) (s0_2 : Int) : Option (Int × ByteArray × Int × Int) := some (wrap64 ((s0_0.size : Int) - s0_1), s0_0, s0_1, s0_2)
set_option maxHeartbeats 8000000 in
set_option maxRecDepth 100000 in
theorem wire_Reader_Left.calls (g : Nat) (s0_0 : ByteArray) (s0_1 : Int) (s0_2 : Int) (r1 : Int) (r2 : ByteArray) (r3 : Int) (r4 : Int) (w0 w : World) (hI : IsS104 w0 w g s0_0 s0_1 s0_2) (hB : Below w0.heap.size w0 w) (h : wire_Reader_Left.f s0_0 s0_1 s0_2 = some (r1, r2, r3, r4)) :
  Calls Tryd.prog 83 #[.pointer (some ⟨g, 0, none⟩)] w fun e w' => e = .returned (.int .i64 r1) ∧ IsS104 w0 w' g r2 r3 r4 ∧ Below w0.heap.size w0 w' ∧ KeepBut w w' g none := by
 have HI0 := Aside0.mk hI
 have HK := q_ (KeepBut.refl w g none)
 have HL := Aside0.mk hB.size
 clear hI
 have HW0 := Aside0.mk hB.size
 have HB := Aside0.mk hB
 clear hB
 have H : (some (wrap64 ((s0_0.size : Int) - s0_1), s0_0, s0_1, s0_2)) = some (r1, r2, r3, r4) := h
 clear h
 simp only [Option.some.injEq, Prod.mk.injEq] at H
 obtain ⟨rfl, rfl, rfl, rfl⟩ := H
 obtain ⟨HGz2, hgz2⟩ := HI0.out
 have hcz2_0 := cellS104_0 HGz2
 have hcz2_1 := cellS104_1 HGz2
 have hcz2_2 := cellS104_2 HGz2
 have hfz2_0 := bF HGz2 0
 have hfz2_1 := bF HGz2 1
 have hfz2_2 := bF HGz2 2
 clear HGz2 hgz2
 go_enter Tryd.func83, Tryd.ntmps83
 go_wp2
 repeat (go_quiet (fail); try go_wp2)
 go_ret
 exact ⟨by first | rfl | (simp [*] <;> rfl), by repeat (first | (with_reducible first | exact HI0.out | apply IsS104.alloc | apply IsS104.drewN | apply IsS104.drew | apply IsS104.set_0 | apply IsS104.set_1 | apply IsS104.set_2) | exact HI0.out), by repeat (first | (with_reducible first | exact HB.out | apply pA | apply pN | apply pd_ | refine pS ?_ (IsS104.ge HI0.out)) | exact HB.out), by repeat (first | (with_reducible first | exact HK.out | apply KeepBut.set_ | apply keep_drewN | apply keep_drew | apply keep_alloc) | exact HK.out)⟩
def wire_Reader_End.f (s0_0 : ByteArray) (s0_1 : Int) (s0_2 : Int) : Option (Int × ByteArray × Int × Int) := (wire_Reader_Err.f s0_0 s0_1 s0_2).bind fun bt236 => (if bt236.1 = 0 then ((wire_Reader_Left.f bt236.2.1 bt236.2.2.1 bt236.2.2.2).bind fun bt240 => (if bt240.1 = 0 then (some (bt236.1, bt240.2.1, bt240.2.2.1, bt240.2.2.2)) else (some (4, bt240.2.1, bt240.2.2.1, bt240.2.2.2)))) else (some (bt236.1, bt236.2.1, bt236.2.2.1, bt236.2.2.2)))
set_option maxHeartbeats 8000000 in
set_option maxRecDepth 100000 in
theorem wire_Reader_End.calls (g : Nat) (s0_0 : ByteArray) (s0_1 : Int) (s0_2 : Int) (r1 : Int) (r2 : ByteArray) (r3 : Int) (r4 : Int) (w0 w : World) (hI : IsS104 w0 w g s0_0 s0_1 s0_2) (hB : Below w0.heap.size w0 w) (h : wire_Reader_End.f s0_0 s0_1 s0_2 = some (r1, r2, r3, r4)) :
  Calls Tryd.prog 54 #[.pointer (some ⟨g, 0, none⟩)] w fun e w' => e = .returned (.int .i64 r1) ∧ IsS104 w0 w' g r2 r3 r4 ∧ Below w0.heap.size w0 w' ∧ KeepBut w w' g none := by
 have HI0 := Aside0.mk hI
 have HK := q_ (KeepBut.refl w g none)
 have HL := Aside0.mk hB.size
 clear hI
 have HW0 := Aside0.mk hB.size
 have HB := Aside0.mk hB
 clear hB
 have H : ((wire_Reader_Err.f s0_0 s0_1 s0_2).bind fun bt236 => (if bt236.1 = 0 then ((wire_Reader_Left.f bt236.2.1 bt236.2.2.1 bt236.2.2.2).bind fun bt240 => (if bt240.1 = 0 then (some (bt236.1, bt240.2.1, bt240.2.2.1, bt240.2.2.2)) else (some (4, bt240.2.1, bt240.2.2.1, bt240.2.2.2)))) else (some (bt236.1, bt236.2.1, bt236.2.2.1, bt236.2.2.2)))) = some (r1, r2, r3, r4) := h
 clear h
 replace H := oB H
 obtain ⟨⟨t236, t237, t238, t239⟩, A20, H⟩ := H
 replace H : (if t236 = 0 then ((wire_Reader_Left.f t237 t238 t239).bind fun bt240 => (if bt240.1 = 0 then (some (t236, bt240.2.1, bt240.2.2.1, bt240.2.2.2)) else (some (4, bt240.2.1, bt240.2.2.1, bt240.2.2.2)))) else (some (t236, t237, t238, t239))) = some (r1, r2, r3, r4) := H
 have A2 := Aside0.mk A20
 clear A20
 by_cases c3 : t236 = 0
 ·rw [if_pos c3] at H
  have c3b0 : (t236 == 0) = true := beq_iff_eq.mpr c3
  have c3b1 : (t236 != 0) = false := oD c3
  clear c3
  replace H := oB H
  obtain ⟨⟨t240, t241, t242, t243⟩, A40, H⟩ := H
  replace H : (if t240 = 0 then (some (t236, t241, t242, t243)) else (some (4, t241, t242, t243))) = some (r1, r2, r3, r4) := H
  have A4 := Aside0.mk A40
  clear A40
  by_cases c5 : t240 = 0
  ·rw [if_pos c5] at H
   have c5b0 : (t240 == 0) = true := beq_iff_eq.mpr c5
   have c5b1 : (t240 != 0) = false := oD c5
   clear c5
   simp only [Option.some.injEq, Prod.mk.injEq] at H
   obtain ⟨rfl, rfl, rfl, rfl⟩ := H
   go_enter Tryd.func54, Tryd.ntmps54
   go_wp2_with (first | ((with_reducible refine gate_callee (f := 82) rfl ?_); refine goesL_ (some 5) rfl rfl Tryd.func82 (by kernel_rfl) rfl #[.pointer (some ⟨g, 0, none⟩)] rfl (by first | rfl | (simp only [List.map_toArray]; rfl)) ?_; (with_reducible refine (wire_Reader_Err.calls g s0_0 s0_1 s0_2 t236 t237 t238 t239 w0 _ ?side1 ?side2 A2.out).mono ?_); (case side1 => repeat (first | (with_reducible first | exact HI0.out | apply IsS104.alloc | apply IsS104.drewN | apply IsS104.drew | apply IsS104.set_0 | apply IsS104.set_1 | apply IsS104.set_2) | exact HI0.out)); (case side2 => repeat (first | (with_reducible first | exact HB.out | apply pA | apply pN | apply pd_ | refine pS ?_ (IsS104.ge HI0.out)) | exact HB.out)); rintro e w6 ⟨rfl, hi, hb, hk⟩; refine ⟨_, rfl, ?_⟩; have n0_ := q_ (KeepBut.trans (by repeat (first | (with_reducible first | exact HK.out | apply KeepBut.set_ | apply keep_drewN | apply keep_drew | apply keep_alloc) | exact HK.out)) hk (.inl rfl)); have n1_ := q_ (hb); have n2_ := q_ (hi); clear HK; clear HB; clear HI0; have HK := n0_; have HB := n1_; have HI0 := n2_; clear n0_ n1_ n2_; (try clear hb); (try clear hb2); (try clear hk); (try clear hi)) | (go_at_call 83; (with_reducible refine (wire_Reader_Left.calls g t237 t238 t239 t240 t241 t242 t243 w0 _ ?side1 ?side2 A4.out).mono ?_); (case side1 => repeat (first | (with_reducible first | exact HI0.out | apply IsS104.alloc | apply IsS104.drewN | apply IsS104.drew | apply IsS104.set_0 | apply IsS104.set_1 | apply IsS104.set_2) | exact HI0.out)); (case side2 => repeat (first | (with_reducible first | exact HB.out | apply pA | apply pN | apply pd_ | refine pS ?_ (IsS104.ge HI0.out)) | exact HB.out)); rintro e w7 ⟨rfl, hi, hb, hk⟩; have n0_ := q_ (KeepBut.trans (by repeat (first | (with_reducible first | exact HK.out | apply KeepBut.set_ | apply keep_drewN | apply keep_drew | apply keep_alloc) | exact HK.out)) hk (.inl rfl)); have n1_ := q_ (hb); have n2_ := q_ (hi); clear HK; clear HB; clear HI0; have HK := n0_; have HB := n1_; have HI0 := n2_; clear n0_ n1_ n2_; (try clear hb); (try clear hb2); (try clear hk); (try clear hi)))
   go_ret
   exact ⟨by first | rfl | (simp [*] <;> rfl), by repeat (first | (with_reducible first | exact HI0.out | apply IsS104.alloc | apply IsS104.drewN | apply IsS104.drew | apply IsS104.set_0 | apply IsS104.set_1 | apply IsS104.set_2) | exact HI0.out), by repeat (first | (with_reducible first | exact HB.out | apply pA | apply pN | apply pd_ | refine pS ?_ (IsS104.ge HI0.out)) | exact HB.out), by repeat (first | (with_reducible first | exact HK.out | apply KeepBut.set_ | apply keep_drewN | apply keep_drew | apply keep_alloc) | exact HK.out)⟩
  ·rw [if_neg c5] at H
   have c5b0 : (t240 == 0) = false := oC c5
   have c5b1 : (t240 != 0) = true := bne_iff_ne.mpr c5
   simp only [Option.some.injEq, Prod.mk.injEq] at H
   obtain ⟨rfl, rfl, rfl, rfl⟩ := H
   go_enter Tryd.func54, Tryd.ntmps54
   go_wp2_with (first | ((with_reducible refine gate_callee (f := 82) rfl ?_); refine goesL_ (some 5) rfl rfl Tryd.func82 (by kernel_rfl) rfl #[.pointer (some ⟨g, 0, none⟩)] rfl (by first | rfl | (simp only [List.map_toArray]; rfl)) ?_; (with_reducible refine (wire_Reader_Err.calls g s0_0 s0_1 s0_2 t236 t237 t238 t239 w0 _ ?side1 ?side2 A2.out).mono ?_); (case side1 => repeat (first | (with_reducible first | exact HI0.out | apply IsS104.alloc | apply IsS104.drewN | apply IsS104.drew | apply IsS104.set_0 | apply IsS104.set_1 | apply IsS104.set_2) | exact HI0.out)); (case side2 => repeat (first | (with_reducible first | exact HB.out | apply pA | apply pN | apply pd_ | refine pS ?_ (IsS104.ge HI0.out)) | exact HB.out)); rintro e w8 ⟨rfl, hi, hb, hk⟩; refine ⟨_, rfl, ?_⟩; have n0_ := q_ (KeepBut.trans (by repeat (first | (with_reducible first | exact HK.out | apply KeepBut.set_ | apply keep_drewN | apply keep_drew | apply keep_alloc) | exact HK.out)) hk (.inl rfl)); have n1_ := q_ (hb); have n2_ := q_ (hi); clear HK; clear HB; clear HI0; have HK := n0_; have HB := n1_; have HI0 := n2_; clear n0_ n1_ n2_; (try clear hb); (try clear hb2); (try clear hk); (try clear hi)) | (go_at_call 83; (with_reducible refine (wire_Reader_Left.calls g t237 t238 t239 t240 t241 t242 t243 w0 _ ?side1 ?side2 A4.out).mono ?_); (case side1 => repeat (first | (with_reducible first | exact HI0.out | apply IsS104.alloc | apply IsS104.drewN | apply IsS104.drew | apply IsS104.set_0 | apply IsS104.set_1 | apply IsS104.set_2) | exact HI0.out)); (case side2 => repeat (first | (with_reducible first | exact HB.out | apply pA | apply pN | apply pd_ | refine pS ?_ (IsS104.ge HI0.out)) | exact HB.out)); rintro e w9 ⟨rfl, hi, hb, hk⟩; have n0_ := q_ (KeepBut.trans (by repeat (first | (with_reducible first | exact HK.out | apply KeepBut.set_ | apply keep_drewN | apply keep_drew | apply keep_alloc) | exact HK.out)) hk (.inl rfl)); have n1_ := q_ (hb); have n2_ := q_ (hi); clear HK; clear HB; clear HI0; have HK := n0_; have HB := n1_; have HI0 := n2_; clear n0_ n1_ n2_; (try clear hb); (try clear hb2); (try clear hk); (try clear hi)))
   go_ret
   exact ⟨by first | rfl | (simp [*] <;> rfl), by repeat (first | (with_reducible first | exact HI0.out | apply IsS104.alloc | apply IsS104.drewN | apply IsS104.drew | apply IsS104.set_0 | apply IsS104.set_1 | apply IsS104.set_2) | exact HI0.out), by repeat (first | (with_reducible first | exact HB.out | apply pA | apply pN | apply pd_ | refine pS ?_ (IsS104.ge HI0.out)) | exact HB.out), by repeat (first | (with_reducible first | exact HK.out | apply KeepBut.set_ | apply keep_drewN | apply keep_drew | apply keep_alloc) | exact HK.out)⟩
 ·rw [if_neg c3] at H
  have c3b0 : (t236 == 0) = false := oC c3
  have c3b1 : (t236 != 0) = true := bne_iff_ne.mpr c3
  simp only [Option.some.injEq, Prod.mk.injEq] at H
  obtain ⟨rfl, rfl, rfl, rfl⟩ := H
  go_enter Tryd.func54, Tryd.ntmps54
  go_wp2_with (first | ((with_reducible refine gate_callee (f := 82) rfl ?_); refine goesL_ (some 5) rfl rfl Tryd.func82 (by kernel_rfl) rfl #[.pointer (some ⟨g, 0, none⟩)] rfl (by first | rfl | (simp only [List.map_toArray]; rfl)) ?_; (with_reducible refine (wire_Reader_Err.calls g s0_0 s0_1 s0_2 t236 t237 t238 t239 w0 _ ?side1 ?side2 A2.out).mono ?_); (case side1 => repeat (first | (with_reducible first | exact HI0.out | apply IsS104.alloc | apply IsS104.drewN | apply IsS104.drew | apply IsS104.set_0 | apply IsS104.set_1 | apply IsS104.set_2) | exact HI0.out)); (case side2 => repeat (first | (with_reducible first | exact HB.out | apply pA | apply pN | apply pd_ | refine pS ?_ (IsS104.ge HI0.out)) | exact HB.out)); rintro e w10 ⟨rfl, hi, hb, hk⟩; refine ⟨_, rfl, ?_⟩; have n0_ := q_ (KeepBut.trans (by repeat (first | (with_reducible first | exact HK.out | apply KeepBut.set_ | apply keep_drewN | apply keep_drew | apply keep_alloc) | exact HK.out)) hk (.inl rfl)); have n1_ := q_ (hb); have n2_ := q_ (hi); clear HK; clear HB; clear HI0; have HK := n0_; have HB := n1_; have HI0 := n2_; clear n0_ n1_ n2_; (try clear hb); (try clear hb2); (try clear hk); (try clear hi)))
  go_ret
  exact ⟨by first | rfl | (simp [*] <;> rfl), by repeat (first | (with_reducible first | exact HI0.out | apply IsS104.alloc | apply IsS104.drewN | apply IsS104.drew | apply IsS104.set_0 | apply IsS104.set_1 | apply IsS104.set_2) | exact HI0.out), by repeat (first | (with_reducible first | exact HB.out | apply pA | apply pN | apply pd_ | refine pS ?_ (IsS104.ge HI0.out)) | exact HB.out), by repeat (first | (with_reducible first | exact HK.out | apply KeepBut.set_ | apply keep_drewN | apply keep_drew | apply keep_alloc) | exact HK.out)⟩
def order_Decode.f (k : Nat) (a0 : ByteArray) : Option (ByteArray × ByteArray × Int × Int × Int × Int × Int × Int × Int × Int × Int × Int) := (wire_NewReader.f a0).bind fun bt245 => ((wire_Reader_Text.f k bt245.1 bt245.2.1 bt245.2.2 16).bind fun bt249 => ((wire_Reader_Text.f k bt249.2.1 bt249.2.2.1 bt249.2.2.2 16).bind fun bt253 => ((wire_Reader_Ints.f k bt253.2.1 bt253.2.2.1 bt253.2.2.2 9 (-1099511627776) 1099511627776).bind fun bt258 => ((wire_Reader_End.f bt258.2.1 bt258.2.2.1 bt258.2.2.2).bind fun bt264 => (if bt264.1 = 0 then (if (bt258.1.length : Int) = 9 then (if 0 < (bt258.1.length : Int) then (if 1 < (bt258.1.length : Int) then (if 2 < (bt258.1.length : Int) then (if 3 < (bt258.1.length : Int) then (if 4 < (bt258.1.length : Int) then (if 5 < (bt258.1.length : Int) then (if 6 < (bt258.1.length : Int) then (if 7 < (bt258.1.length : Int) then (if 8 < (bt258.1.length : Int) then (some (bt249.1, bt253.1, rd bt258.1 0, rd bt258.1 1, rd bt258.1 2, rd bt258.1 3, rd bt258.1 4, rd bt258.1 5, rd bt258.1 6, rd bt258.1 7, rd bt258.1 8, 0)) else (none)) else (none)) else (none)) else (none)) else (none)) else (none)) else (none)) else (none)) else (none)) else (some ((⟨#[]⟩ : ByteArray), (⟨#[]⟩ : ByteArray), 0, 0, 0, 0, 0, 0, 0, 0, 0, 5))) else (some ((⟨#[]⟩ : ByteArray), (⟨#[]⟩ : ByteArray), 0, 0, 0, 0, 0, 0, 0, 0, 0, 5)))))))
def order_Decode.T6 : Bool × List (List Nat × List Nat) := (true, [([], []), ([0], [0]), ([1], [1]), ([], []), ([3], [3]), ([4], [4]), ([], []), ([6], [6]), ([7], [7]), ([], []), ([9], [9]), ([10], [10]), ([0, 1, 2], []), ([12, 2, 0, 1, 2], [2, 12]), ([0, 1, 2, 3, 4, 5, 12, 13], []), ([14, 5, 13, 0, 1, 2, 3, 4, 5, 12, 13], [5, 14]), ([0, 1, 2, 3, 4, 5, 6, 7, 8, 12, 13, 14, 15], []), ([16, 8, 15, 0, 1, 2, 3, 4, 5, 6, 7, 8, 12, 13, 14, 15], [8, 16]), ([0, 1, 2, 3, 4, 5, 6, 7, 8, 9, 10, 11, 12, 13, 14, 15, 16, 17], []), ([18, 11, 17, 0, 1, 2, 3, 4, 5, 6, 7, 8, 9, 10, 11, 12, 13, 14, 15, 16, 17], [11, 18])])
def order_Decode.B6 : List Nat := [0, 1, 3, 0, 8, 24, 0, 64, 192, 0, 512, 1536, 7, 4103, 12351, 28735, 61951, 127487, 262143, 524287]
theorem order_Decode.tab6 : rtab .any (opsOf Tryd.f24 6) = order_Decode.T6 := by kernel_rfl
theorem order_Decode.bits6 : waitsOk order_Decode.T6.2 order_Decode.B6 = true := by kernel_rfl
def order_Decode.T7 : Bool × List (List Nat × List Nat) := (true, [([], []), ([0], [0]), ([1], [1]), ([], []), ([3], [3]), ([4], [4]), ([], []), ([6], [6]), ([7], [7]), ([], []), ([9], [9]), ([10], [10]), ([], []), ([12], [12]), ([13], [13]), ([0, 1, 2], []), ([15, 2, 0, 1, 2], [2, 15]), ([0, 1, 2, 3, 4, 5, 15, 16], []), ([17, 5, 16, 0, 1, 2, 3, 4, 5, 15, 16], [5, 17]), ([0, 1, 2, 3, 4, 5, 6, 7, 8, 15, 16, 17, 18], []), ([19, 8, 18, 0, 1, 2, 3, 4, 5, 6, 7, 8, 15, 16, 17, 18], [8, 19]), ([0, 1, 2, 3, 4, 5, 6, 7, 8, 9, 10, 11, 15, 16, 17, 18, 19, 20], []), ([21, 11, 20, 0, 1, 2, 3, 4, 5, 6, 7, 8, 9, 10, 11, 15, 16, 17, 18, 19, 20], [11, 21]), ([0, 1, 2, 3, 4, 5, 6, 7, 8, 9, 10, 11, 12, 13, 14, 15, 16, 17, 18, 19, 20, 21, 22], []), ([23, 14, 22, 0, 1, 2, 3, 4, 5, 6, 7, 8, 9, 10, 11, 12, 13, 14, 15, 16, 17, 18, 19, 20, 21, 22], [14, 23])])
def order_Decode.B7 : List Nat := [0, 1, 3, 0, 8, 24, 0, 64, 192, 0, 512, 1536, 0, 4096, 12288, 7, 32775, 98367, 229439, 492031, 1016319, 2068479, 4165631, 8388607, 16777215]
theorem order_Decode.tab7 : rtab .any (opsOf Tryd.f24 7) = order_Decode.T7 := by kernel_rfl
theorem order_Decode.bits7 : waitsOk order_Decode.T7.2 order_Decode.B7 = true := by kernel_rfl
set_option maxHeartbeats 8000000 in
set_option maxRecDepth 100000 in
theorem order_Decode.calls (k : Nat) (a0 : ByteArray) (r1 : ByteArray) (r2 : ByteArray) (r3 : Int) (r4 : Int) (r5 : Int) (r6 : Int) (r7 : Int) (r8 : Int) (r9 : Int) (r10 : Int) (r11 : Int) (r12 : Int) (w : World) (h : order_Decode.f k a0 = some (r1, r2, r3, r4, r5, r6, r7, r8, r9, r10, r11, r12)) :
  Calls Tryd.prog 24 #[.string a0] w fun e w' => e = .returned (.tuple #[.agg #[.string r1, .string r2, .int .i64 r3, .int .i64 r4, .int .i64 r5, .int .i64 r6, .int .i64 r7, .int .i64 r8, .int .i64 r9, .int .i64 r10, .int .i64 r11], .int .i64 r12]) ∧ Below w.heap.size w w' := by
 have hu23 := Tryd.underlying23
 have HB := q_ (Below.refl w.heap.size w)
 have H : ((wire_NewReader.f a0).bind fun bt245 => ((wire_Reader_Text.f k bt245.1 bt245.2.1 bt245.2.2 16).bind fun bt249 => ((wire_Reader_Text.f k bt249.2.1 bt249.2.2.1 bt249.2.2.2 16).bind fun bt253 => ((wire_Reader_Ints.f k bt253.2.1 bt253.2.2.1 bt253.2.2.2 9 (-1099511627776) 1099511627776).bind fun bt258 => ((wire_Reader_End.f bt258.2.1 bt258.2.2.1 bt258.2.2.2).bind fun bt264 => (if bt264.1 = 0 then (if (bt258.1.length : Int) = 9 then (if 0 < (bt258.1.length : Int) then (if 1 < (bt258.1.length : Int) then (if 2 < (bt258.1.length : Int) then (if 3 < (bt258.1.length : Int) then (if 4 < (bt258.1.length : Int) then (if 5 < (bt258.1.length : Int) then (if 6 < (bt258.1.length : Int) then (if 7 < (bt258.1.length : Int) then (if 8 < (bt258.1.length : Int) then (some (bt249.1, bt253.1, rd bt258.1 0, rd bt258.1 1, rd bt258.1 2, rd bt258.1 3, rd bt258.1 4, rd bt258.1 5, rd bt258.1 6, rd bt258.1 7, rd bt258.1 8, 0)) else (none)) else (none)) else (none)) else (none)) else (none)) else (none)) else (none)) else (none)) else (none)) else (some ((⟨#[]⟩ : ByteArray), (⟨#[]⟩ : ByteArray), 0, 0, 0, 0, 0, 0, 0, 0, 0, 5))) else (some ((⟨#[]⟩ : ByteArray), (⟨#[]⟩ : ByteArray), 0, 0, 0, 0, 0, 0, 0, 0, 0, 5)))))))) = some (r1, r2, r3, r4, r5, r6, r7, r8, r9, r10, r11, r12) := h
 clear h
 replace H := oB H
 obtain ⟨⟨t245, t246, t247⟩, A20, H⟩ := H
 replace H : ((wire_Reader_Text.f k t245 t246 t247 16).bind fun bt249 => ((wire_Reader_Text.f k bt249.2.1 bt249.2.2.1 bt249.2.2.2 16).bind fun bt253 => ((wire_Reader_Ints.f k bt253.2.1 bt253.2.2.1 bt253.2.2.2 9 (-1099511627776) 1099511627776).bind fun bt258 => ((wire_Reader_End.f bt258.2.1 bt258.2.2.1 bt258.2.2.2).bind fun bt264 => (if bt264.1 = 0 then (if (bt258.1.length : Int) = 9 then (if 0 < (bt258.1.length : Int) then (if 1 < (bt258.1.length : Int) then (if 2 < (bt258.1.length : Int) then (if 3 < (bt258.1.length : Int) then (if 4 < (bt258.1.length : Int) then (if 5 < (bt258.1.length : Int) then (if 6 < (bt258.1.length : Int) then (if 7 < (bt258.1.length : Int) then (if 8 < (bt258.1.length : Int) then (some (bt249.1, bt253.1, rd bt258.1 0, rd bt258.1 1, rd bt258.1 2, rd bt258.1 3, rd bt258.1 4, rd bt258.1 5, rd bt258.1 6, rd bt258.1 7, rd bt258.1 8, 0)) else (none)) else (none)) else (none)) else (none)) else (none)) else (none)) else (none)) else (none)) else (none)) else (some ((⟨#[]⟩ : ByteArray), (⟨#[]⟩ : ByteArray), 0, 0, 0, 0, 0, 0, 0, 0, 0, 5))) else (some ((⟨#[]⟩ : ByteArray), (⟨#[]⟩ : ByteArray), 0, 0, 0, 0, 0, 0, 0, 0, 0, 5))))))) = some (r1, r2, r3, r4, r5, r6, r7, r8, r9, r10, r11, r12) := H
 have A2 := Aside0.mk A20
 clear A20
 replace H := oB H
 obtain ⟨⟨t249, t250, t251, t252⟩, A30, H⟩ := H
 replace H : ((wire_Reader_Text.f k t250 t251 t252 16).bind fun bt253 => ((wire_Reader_Ints.f k bt253.2.1 bt253.2.2.1 bt253.2.2.2 9 (-1099511627776) 1099511627776).bind fun bt258 => ((wire_Reader_End.f bt258.2.1 bt258.2.2.1 bt258.2.2.2).bind fun bt264 => (if bt264.1 = 0 then (if (bt258.1.length : Int) = 9 then (if 0 < (bt258.1.length : Int) then (if 1 < (bt258.1.length : Int) then (if 2 < (bt258.1.length : Int) then (if 3 < (bt258.1.length : Int) then (if 4 < (bt258.1.length : Int) then (if 5 < (bt258.1.length : Int) then (if 6 < (bt258.1.length : Int) then (if 7 < (bt258.1.length : Int) then (if 8 < (bt258.1.length : Int) then (some (t249, bt253.1, rd bt258.1 0, rd bt258.1 1, rd bt258.1 2, rd bt258.1 3, rd bt258.1 4, rd bt258.1 5, rd bt258.1 6, rd bt258.1 7, rd bt258.1 8, 0)) else (none)) else (none)) else (none)) else (none)) else (none)) else (none)) else (none)) else (none)) else (none)) else (some ((⟨#[]⟩ : ByteArray), (⟨#[]⟩ : ByteArray), 0, 0, 0, 0, 0, 0, 0, 0, 0, 5))) else (some ((⟨#[]⟩ : ByteArray), (⟨#[]⟩ : ByteArray), 0, 0, 0, 0, 0, 0, 0, 0, 0, 5)))))) = some (r1, r2, r3, r4, r5, r6, r7, r8, r9, r10, r11, r12) := H
 have A3 := Aside0.mk A30
 clear A30
 replace H := oB H
 obtain ⟨⟨t253, t254, t255, t256⟩, A40, H⟩ := H
 replace H : ((wire_Reader_Ints.f k t254 t255 t256 9 (-1099511627776) 1099511627776).bind fun bt258 => ((wire_Reader_End.f bt258.2.1 bt258.2.2.1 bt258.2.2.2).bind fun bt264 => (if bt264.1 = 0 then (if (bt258.1.length : Int) = 9 then (if 0 < (bt258.1.length : Int) then (if 1 < (bt258.1.length : Int) then (if 2 < (bt258.1.length : Int) then (if 3 < (bt258.1.length : Int) then (if 4 < (bt258.1.length : Int) then (if 5 < (bt258.1.length : Int) then (if 6 < (bt258.1.length : Int) then (if 7 < (bt258.1.length : Int) then (if 8 < (bt258.1.length : Int) then (some (t249, t253, rd bt258.1 0, rd bt258.1 1, rd bt258.1 2, rd bt258.1 3, rd bt258.1 4, rd bt258.1 5, rd bt258.1 6, rd bt258.1 7, rd bt258.1 8, 0)) else (none)) else (none)) else (none)) else (none)) else (none)) else (none)) else (none)) else (none)) else (none)) else (some ((⟨#[]⟩ : ByteArray), (⟨#[]⟩ : ByteArray), 0, 0, 0, 0, 0, 0, 0, 0, 0, 5))) else (some ((⟨#[]⟩ : ByteArray), (⟨#[]⟩ : ByteArray), 0, 0, 0, 0, 0, 0, 0, 0, 0, 5))))) = some (r1, r2, r3, r4, r5, r6, r7, r8, r9, r10, r11, r12) := H
 have A4 := Aside0.mk A40
 clear A40
 replace H := oB H
 obtain ⟨⟨t258, t261, t262, t263⟩, A50, H⟩ := H
 replace H : ((wire_Reader_End.f t261 t262 t263).bind fun bt264 => (if bt264.1 = 0 then (if (t258.length : Int) = 9 then (if 0 < (t258.length : Int) then (if 1 < (t258.length : Int) then (if 2 < (t258.length : Int) then (if 3 < (t258.length : Int) then (if 4 < (t258.length : Int) then (if 5 < (t258.length : Int) then (if 6 < (t258.length : Int) then (if 7 < (t258.length : Int) then (if 8 < (t258.length : Int) then (some (t249, t253, rd t258 0, rd t258 1, rd t258 2, rd t258 3, rd t258 4, rd t258 5, rd t258 6, rd t258 7, rd t258 8, 0)) else (none)) else (none)) else (none)) else (none)) else (none)) else (none)) else (none)) else (none)) else (none)) else (some ((⟨#[]⟩ : ByteArray), (⟨#[]⟩ : ByteArray), 0, 0, 0, 0, 0, 0, 0, 0, 0, 5))) else (some ((⟨#[]⟩ : ByteArray), (⟨#[]⟩ : ByteArray), 0, 0, 0, 0, 0, 0, 0, 0, 0, 5)))) = some (r1, r2, r3, r4, r5, r6, r7, r8, r9, r10, r11, r12) := H
 have A5 := Aside0.mk A50
 clear A50
 replace H := oB H
 obtain ⟨⟨t264, t265, t266, t267⟩, A60, H⟩ := H
 replace H : (if t264 = 0 then (if (t258.length : Int) = 9 then (if 0 < (t258.length : Int) then (if 1 < (t258.length : Int) then (if 2 < (t258.length : Int) then (if 3 < (t258.length : Int) then (if 4 < (t258.length : Int) then (if 5 < (t258.length : Int) then (if 6 < (t258.length : Int) then (if 7 < (t258.length : Int) then (if 8 < (t258.length : Int) then (some (t249, t253, rd t258 0, rd t258 1, rd t258 2, rd t258 3, rd t258 4, rd t258 5, rd t258 6, rd t258 7, rd t258 8, 0)) else (none)) else (none)) else (none)) else (none)) else (none)) else (none)) else (none)) else (none)) else (none)) else (some ((⟨#[]⟩ : ByteArray), (⟨#[]⟩ : ByteArray), 0, 0, 0, 0, 0, 0, 0, 0, 0, 5))) else (some ((⟨#[]⟩ : ByteArray), (⟨#[]⟩ : ByteArray), 0, 0, 0, 0, 0, 0, 0, 0, 0, 5))) = some (r1, r2, r3, r4, r5, r6, r7, r8, r9, r10, r11, r12) := H
 have A6 := Aside0.mk A60
 clear A60
 by_cases c7 : t264 = 0
 ·rw [if_pos c7] at H
  have c7b0 : (t264 == 0) = true := beq_iff_eq.mpr c7
  have c7b1 : (t264 != 0) = false := oD c7
  clear c7
  by_cases c8 : (t258.length : Int) = 9
  ·rw [if_pos c8] at H
   have c8b0 : ((t258.length : Int) == 9) = true := beq_iff_eq.mpr c8
   have c8b1 : ((t258.length : Int) != 9) = false := oD c8
   clear c8
   by_cases c9 : 0 < (t258.length : Int)
   ·rw [if_pos c9] at H
    have c9b0 : decide (0 < (t258.length : Int)) = true := decide_eq_true c9
    have c9b1 : decide (0 < t258.length) = true := decide_eq_true (by omega)
    clear c9
    by_cases c10 : 1 < (t258.length : Int)
    ·rw [if_pos c10] at H
     have c10b0 : decide (1 < (t258.length : Int)) = true := decide_eq_true c10
     have c10b1 : decide (1 < t258.length) = true := decide_eq_true (by omega)
     clear c10
     by_cases c11 : 2 < (t258.length : Int)
     ·rw [if_pos c11] at H
      have c11b0 : decide (2 < (t258.length : Int)) = true := decide_eq_true c11
      have c11b1 : decide (2 < t258.length) = true := decide_eq_true (by omega)
      clear c11
      by_cases c12 : 3 < (t258.length : Int)
      ·rw [if_pos c12] at H
       have c12b0 : decide (3 < (t258.length : Int)) = true := decide_eq_true c12
       have c12b1 : decide (3 < t258.length) = true := decide_eq_true (by omega)
       clear c12
       by_cases c13 : 4 < (t258.length : Int)
       ·rw [if_pos c13] at H
        have c13b0 : decide (4 < (t258.length : Int)) = true := decide_eq_true c13
        have c13b1 : decide (4 < t258.length) = true := decide_eq_true (by omega)
        clear c13
        by_cases c14 : 5 < (t258.length : Int)
        ·rw [if_pos c14] at H
         have c14b0 : decide (5 < (t258.length : Int)) = true := decide_eq_true c14
         have c14b1 : decide (5 < t258.length) = true := decide_eq_true (by omega)
         clear c14
         by_cases c15 : 6 < (t258.length : Int)
         ·rw [if_pos c15] at H
          have c15b0 : decide (6 < (t258.length : Int)) = true := decide_eq_true c15
          have c15b1 : decide (6 < t258.length) = true := decide_eq_true (by omega)
          clear c15
          by_cases c16 : 7 < (t258.length : Int)
          ·rw [if_pos c16] at H
           have c16b0 : decide (7 < (t258.length : Int)) = true := decide_eq_true c16
           have c16b1 : decide (7 < t258.length) = true := decide_eq_true (by omega)
           clear c16
           by_cases c17 : 8 < (t258.length : Int)
           ·rw [if_pos c17] at H
            have c17b0 : decide (8 < (t258.length : Int)) = true := decide_eq_true c17
            have c17b1 : decide (8 < t258.length) = true := decide_eq_true (by omega)
            clear c17
            simp only [Option.some.injEq, Prod.mk.injEq] at H
            obtain ⟨rfl, rfl, rfl, rfl, rfl, rfl, rfl, rfl, rfl, rfl, rfl, rfl⟩ := H
            go_enter Tryd.func24, Tryd.ntmps24
            try go_wp2_with (first | (refine wpList_load_cells (by rfl) 23 _ (by exact rfl) ⟨gb244, 0, none⟩ (by rfl) _ _ (cells_of_blk (by (with_reducible repeat (first | refine bN ?_ _ | refine bW ?_ | refine bA ?_ _)); exact BK244.out)) Tryd.underlying23 rfl (by kernel_rfl) ?_) | (refine wpList_load_cells (by rfl) 23 _ (by exact rfl) ⟨gb257, 0, none⟩ (by rfl) _ _ (cells_of_blk (by (with_reducible repeat (first | refine bN ?_ _ | refine bW ?_ | refine bA ?_ _)); exact BK257.out)) Tryd.underlying23 rfl (by kernel_rfl) ?_) | ((with_reducible refine gate_dst (N := 2) rfl ?_); (try (refine gate_guard (by rfl) ?_; dsimp only)); refine box_event ?hg (N := 2) ?hd (cs := #[.string (⟨#[]⟩ : ByteArray), .string (⟨#[]⟩ : ByteArray), .int .i64 0, .int .i64 0, .int .i64 0, .int .i64 0, .int .i64 0, .int .i64 0, .int .i64 0, .int .i64 0, .int .i64 0]) (t := 23) ?hr ?_; (case hd => rfl); (case hg => rfl); (case hr => first | (go_simp; done) | (go_simp; rfl)); intro gb244 hg w18 hbox hb; have n0_ := q_ (pT (by repeat (first | (with_reducible first | exact HB.out | apply pA | apply pN | apply pd_) | exact HB.out)) hb); have n1_ := q_ (hbox); have n2_ := q_ ((by rw [hg]; exact (pZ (by repeat (first | (with_reducible first | exact HB.out | apply pA | apply pN | apply pd_) | exact HB.out))) : w.heap.size ≤ gb244)); have n3_ := n2_; clear HB; have HB := n0_; have BK244 := n1_; have GW244 := n2_; have GE244 := n3_; clear n0_ n1_ n2_ n3_; clear hb hbox hg) | ((with_reducible refine gate_callee (f := 51) rfl ?_); refine goesL_ (some 8) rfl rfl Tryd.func51 (by kernel_rfl) rfl #[.string a0] rfl (by first | rfl | (simp only [List.map_toArray]; rfl)) ?_; (with_reducible refine (wire_NewReader.calls a0 t245 t246 t247 w _ ?side1 A2.out).mono ?_); (case side1 => repeat (first | (with_reducible first | exact HB.out | apply pA | apply pN | apply pd_ | refine pS ?_ GE244.out) | exact HB.out)); rintro e w19 ⟨g248, rfl, hi, hb, hb2⟩; refine ⟨_, rfl, ?_⟩; have n0_ := q_ (bB (g := gb244) (by (with_reducible repeat (first | refine bN ?_ _ | refine bW ?_ | refine bA ?_ _)); exact BK244.out) hb2); have n1_ := q_ (hb); have n2_ := q_ (hi); have n3_ := q_ (IsS104.ne_blk hi (bB (g := gb244) (by (with_reducible repeat (first | refine bN ?_ _ | refine bW ?_ | refine bA ?_ _)); exact BK244.out) hb2) (by decide)); have n4_ := q_ (Ne.symm (IsS104.ne_blk hi (bB (g := gb244) (by (with_reducible repeat (first | refine bN ?_ _ | refine bW ?_ | refine bA ?_ _)); exact BK244.out) hb2) (by decide))); clear BK244; clear HB; have BK244 := n0_; have HB := n1_; have HI248 := n2_; have NB248_244 := n3_; have NB244_248 := n4_; clear n0_ n1_ n2_ n3_ n4_; (try clear hb); (try clear hb2); (try clear hk); (try clear hi)) | ((with_reducible refine gate_callee (f := 52) rfl ?_); refine goesL_ (some 10) rfl rfl Tryd.func52 (by kernel_rfl) rfl #[.pointer (some ⟨g248, 0, none⟩), .int .i64 16] rfl (by first | rfl | (simp only [List.map_toArray]; rfl)) ?_; (with_reducible refine (wire_Reader_Text.calls k g248 t245 t246 t247 16 t249 t250 t251 t252 w _ ?side1 ?side2 A3.out).mono ?_); (case side1 => repeat (first | (with_reducible first | exact HI248.out | apply IsS104.alloc | apply IsS104.drewN | apply IsS104.drew | apply IsS104.set_0 | apply IsS104.set_1 | apply IsS104.set_2 | refine IsS104.far ?_ NB248_244.out _) | exact HI248.out)); (case side2 => repeat (first | (with_reducible first | exact HB.out | apply pA | apply pN | apply pd_ | refine pS ?_ (IsS104.ge HI248.out) | refine pS ?_ GE244.out) | exact HB.out)); rintro e w20 ⟨rfl, hi, hb, hk⟩; refine ⟨_, rfl, ?_⟩; have n0_ := q_ (KeepBut.blk hk (g' := gb244) (by (with_reducible repeat (first | refine bN ?_ _ | refine bW ?_ | refine bA ?_ _)); exact BK244.out) NB244_248.out (by simp)); have n1_ := q_ (hb); have n2_ := q_ (hi); clear BK244; clear HB; clear HI248; have BK244 := n0_; have HB := n1_; have HI248 := n2_; clear n0_ n1_ n2_; (try clear hb); (try clear hb2); (try clear hk); (try clear hi)) | ((with_reducible refine gate_callee (f := 52) rfl ?_); refine goesL_ (some 12) rfl rfl Tryd.func52 (by kernel_rfl) rfl #[.pointer (some ⟨g248, 0, none⟩), .int .i64 16] rfl (by first | rfl | (simp only [List.map_toArray]; rfl)) ?_; (with_reducible refine (wire_Reader_Text.calls k g248 t250 t251 t252 16 t253 t254 t255 t256 w _ ?side1 ?side2 A4.out).mono ?_); (case side1 => repeat (first | (with_reducible first | exact HI248.out | apply IsS104.alloc | apply IsS104.drewN | apply IsS104.drew | apply IsS104.set_0 | apply IsS104.set_1 | apply IsS104.set_2 | refine IsS104.far ?_ NB248_244.out _) | exact HI248.out)); (case side2 => repeat (first | (with_reducible first | exact HB.out | apply pA | apply pN | apply pd_ | refine pS ?_ (IsS104.ge HI248.out) | refine pS ?_ GE244.out) | exact HB.out)); rintro e w21 ⟨rfl, hi, hb, hk⟩; refine ⟨_, rfl, ?_⟩; have n0_ := q_ (KeepBut.blk hk (g' := gb244) (by (with_reducible repeat (first | refine bN ?_ _ | refine bW ?_ | refine bA ?_ _)); exact BK244.out) NB244_248.out (by simp)); have n1_ := q_ (hb); have n2_ := q_ (hi); clear BK244; clear HB; clear HI248; have BK244 := n0_; have HB := n1_; have HI248 := n2_; clear n0_ n1_ n2_; (try clear hb); (try clear hb2); (try clear hk); (try clear hi)) | ((with_reducible refine gate_dst (N := 5) rfl ?_); (try (refine gate_guard (by rfl) ?_; dsimp only)); refine box_event ?hg (N := 5) ?hd (cs := #[.string (⟨#[]⟩ : ByteArray), .string (⟨#[]⟩ : ByteArray), .int .i64 0, .int .i64 0, .int .i64 0, .int .i64 0, .int .i64 0, .int .i64 0, .int .i64 0, .int .i64 0, .int .i64 0]) (t := 23) ?hr ?_; (case hd => rfl); (case hg => rfl); (case hr => first | (go_simp; done) | (go_simp; rfl)); intro gb257 hg w22 hbox hb; have n0_ := q_ (bB (g := gb244) (by (with_reducible repeat (first | refine bN ?_ _ | refine bW ?_ | refine bA ?_ _)); exact BK244.out) hb); have n1_ := q_ (IsS104.below (by repeat (first | (with_reducible first | exact HI248.out | apply IsS104.alloc | apply IsS104.drewN | apply IsS104.drew | apply IsS104.set_0 | apply IsS104.set_1 | apply IsS104.set_2 | refine IsS104.far ?_ NB248_244.out _) | exact HI248.out)) hb); have n2_ := q_ (pT (by repeat (first | (with_reducible first | exact HB.out | apply pA | apply pN | apply pd_ | refine pS ?_ (IsS104.ge HI248.out) | refine pS ?_ GE244.out) | exact HB.out)) hb); have n3_ := q_ (hbox); have n4_ := q_ ((by rw [hg]; exact (pZ (by repeat (first | (with_reducible first | exact HB.out | apply pA | apply pN | apply pd_ | refine pS ?_ (IsS104.ge HI248.out) | refine pS ?_ GE244.out) | exact HB.out))) : w.heap.size ≤ gb257)); have n5_ := n4_; have n6_ := q_ ((by rw [hg]; exact Nat.ne_of_lt (blk_lt (g := gb244) (by (with_reducible repeat (first | refine bN ?_ _ | refine bW ?_ | refine bA ?_ _)); exact BK244.out)) : gb244 ≠ gb257)); have n7_ := q_ ((by rw [hg]; exact Nat.ne_of_gt (blk_lt (g := gb244) (by (with_reducible repeat (first | refine bN ?_ _ | refine bW ?_ | refine bA ?_ _)); exact BK244.out)) : gb257 ≠ gb244)); have n8_ := q_ ((by rw [hg]; exact Nat.ne_of_lt (IsS104.lt (show IsS104 w _ g248 t254 t255 t256 from by repeat (first | (with_reducible first | exact HI248.out | apply IsS104.alloc | apply IsS104.drewN | apply IsS104.drew | apply IsS104.set_0 | apply IsS104.set_1 | apply IsS104.set_2 | refine IsS104.far ?_ NB248_244.out _) | exact HI248.out))) : g248 ≠ gb257)); have n9_ := q_ ((by rw [hg]; exact Nat.ne_of_gt (IsS104.lt (show IsS104 w _ g248 t254 t255 t256 from by repeat (first | (with_reducible first | exact HI248.out | apply IsS104.alloc | apply IsS104.drewN | apply IsS104.drew | apply IsS104.set_0 | apply IsS104.set_1 | apply IsS104.set_2 | refine IsS104.far ?_ NB248_244.out _) | exact HI248.out))) : gb257 ≠ g248)); clear BK244; clear HI248; clear HB; have BK244 := n0_; have HI248 := n1_; have HB := n2_; have BK257 := n3_; have GW257 := n4_; have GE257 := n5_; have NB244_257 := n6_; have NB257_244 := n7_; have NB248_257 := n8_; have NB257_248 := n9_; clear n0_ n1_ n2_ n3_ n4_ n5_ n6_ n7_ n8_ n9_; clear hb hbox hg; have hnb23 := NB257_244.out; have hnc23 := NB244_257.out; have hnb24 := NB257_248.out; have hnc24 := NB248_257.out; have hcz25 := blk_all BK257.out; simp only [CellsAt, List.toList_toArray, Nat.reduceAdd, and_true] at hcz25; have hfz25 := bF BK257.out) | ((with_reducible refine gate_callee (f := 53) rfl ?_); refine goesL_ (some 15) rfl rfl Tryd.func53 (by kernel_rfl) rfl #[.pointer (some ⟨g248, 0, none⟩), .int .i64 9, .int .i64 (-1099511627776), .int .i64 1099511627776] rfl (by first | rfl | (simp only [List.map_toArray]; rfl)) ?_; (with_reducible refine (wire_Reader_Ints.calls k g248 t254 t255 t256 9 (-1099511627776) 1099511627776 t258 t261 t262 t263 w _ ?side1 ?side2 A5.out).mono ?_); (case side1 => repeat (first | (with_reducible first | exact HI248.out | apply IsS104.alloc | apply IsS104.drewN | apply IsS104.drew | apply IsS104.set_0 | apply IsS104.set_1 | apply IsS104.set_2 | refine IsS104.far ?_ NB248_244.out _ | refine IsS104.far ?_ NB248_257.out _) | exact HI248.out)); (case side2 => repeat (first | (with_reducible first | exact HB.out | apply pA | apply pN | apply pd_ | refine pS ?_ (IsS104.ge HI248.out) | refine pS ?_ GE244.out | refine pS ?_ GE257.out) | exact HB.out)); rintro e w26 ⟨v259, rfl, ho0, hi, hb, hk⟩; refine ⟨_, rfl, ?_⟩; have n0_ := q_ (KeepBut.blk hk (g' := gb244) (o := .cells #[.string (⟨#[]⟩ : ByteArray), .string (⟨#[]⟩ : ByteArray), .int .i64 0, .int .i64 0, .int .i64 0, .int .i64 0, .int .i64 0, .int .i64 0, .int .i64 0, .int .i64 0, .int .i64 0] 23 (0, 0)) (by (with_reducible repeat (first | refine bN ?_ _ | refine bW ?_ | refine bA ?_ _)); refine blk_far ?_ NB244_257.out _; (with_reducible repeat (first | refine bN ?_ _ | refine bW ?_ | refine bA ?_ _)); refine blk_far ?_ NB244_257.out _; (with_reducible repeat (first | refine bN ?_ _ | refine bW ?_ | refine bA ?_ _)); refine blk_far ?_ NB244_257.out _; (with_reducible repeat (first | refine bN ?_ _ | refine bW ?_ | refine bA ?_ _)); refine blk_far ?_ NB244_257.out _; (with_reducible repeat (first | refine bN ?_ _ | refine bW ?_ | refine bA ?_ _)); refine blk_far ?_ NB244_257.out _; (with_reducible repeat (first | refine bN ?_ _ | refine bW ?_ | refine bA ?_ _)); refine blk_far ?_ NB244_257.out _; (with_reducible repeat (first | refine bN ?_ _ | refine bW ?_ | refine bA ?_ _)); refine blk_far ?_ NB244_257.out _; (with_reducible repeat (first | refine bN ?_ _ | refine bW ?_ | refine bA ?_ _)); refine blk_far ?_ NB244_257.out _; (with_reducible repeat (first | refine bN ?_ _ | refine bW ?_ | refine bA ?_ _)); refine blk_far ?_ NB244_257.out _; (with_reducible repeat (first | refine bN ?_ _ | refine bW ?_ | refine bA ?_ _)); refine blk_far ?_ NB244_257.out _; (with_reducible repeat (first | refine bN ?_ _ | refine bW ?_ | refine bA ?_ _)); refine blk_far ?_ NB244_257.out _; (with_reducible repeat (first | refine bN ?_ _ | refine bW ?_ | refine bA ?_ _)); exact BK244.out) NB244_248.out (by simp)); have n1_ := q_ (KeepBut.blk hk (g' := gb257) (o := .cells #[.string t249, .string t253, .int .i64 0, .int .i64 0, .int .i64 0, .int .i64 0, .int .i64 0, .int .i64 0, .int .i64 0, .int .i64 0, .int .i64 0] 23 (0, 0)) (by (with_reducible repeat (first | refine bN ?_ _ | refine bW ?_ | refine bA ?_ _)); refine blk_put (cs := #[.string t249, .string t253, .int .i64 0, .int .i64 0, .int .i64 0, .int .i64 0, .int .i64 0, .int .i64 0, .int .i64 0, .int .i64 0, .int .i64 0]) ?_ 10 _ rfl; (with_reducible repeat (first | refine bN ?_ _ | refine bW ?_ | refine bA ?_ _)); refine blk_put (cs := #[.string t249, .string t253, .int .i64 0, .int .i64 0, .int .i64 0, .int .i64 0, .int .i64 0, .int .i64 0, .int .i64 0, .int .i64 0, .int .i64 0]) ?_ 9 _ rfl; (with_reducible repeat (first | refine bN ?_ _ | refine bW ?_ | refine bA ?_ _)); refine blk_put (cs := #[.string t249, .string t253, .int .i64 0, .int .i64 0, .int .i64 0, .int .i64 0, .int .i64 0, .int .i64 0, .int .i64 0, .int .i64 0, .int .i64 0]) ?_ 8 _ rfl; (with_reducible repeat (first | refine bN ?_ _ | refine bW ?_ | refine bA ?_ _)); refine blk_put (cs := #[.string t249, .string t253, .int .i64 0, .int .i64 0, .int .i64 0, .int .i64 0, .int .i64 0, .int .i64 0, .int .i64 0, .int .i64 0, .int .i64 0]) ?_ 7 _ rfl; (with_reducible repeat (first | refine bN ?_ _ | refine bW ?_ | refine bA ?_ _)); refine blk_put (cs := #[.string t249, .string t253, .int .i64 0, .int .i64 0, .int .i64 0, .int .i64 0, .int .i64 0, .int .i64 0, .int .i64 0, .int .i64 0, .int .i64 0]) ?_ 6 _ rfl; (with_reducible repeat (first | refine bN ?_ _ | refine bW ?_ | refine bA ?_ _)); refine blk_put (cs := #[.string t249, .string t253, .int .i64 0, .int .i64 0, .int .i64 0, .int .i64 0, .int .i64 0, .int .i64 0, .int .i64 0, .int .i64 0, .int .i64 0]) ?_ 5 _ rfl; (with_reducible repeat (first | refine bN ?_ _ | refine bW ?_ | refine bA ?_ _)); refine blk_put (cs := #[.string t249, .string t253, .int .i64 0, .int .i64 0, .int .i64 0, .int .i64 0, .int .i64 0, .int .i64 0, .int .i64 0, .int .i64 0, .int .i64 0]) ?_ 4 _ rfl; (with_reducible repeat (first | refine bN ?_ _ | refine bW ?_ | refine bA ?_ _)); refine blk_put (cs := #[.string t249, .string t253, .int .i64 0, .int .i64 0, .int .i64 0, .int .i64 0, .int .i64 0, .int .i64 0, .int .i64 0, .int .i64 0, .int .i64 0]) ?_ 3 _ rfl; (with_reducible repeat (first | refine bN ?_ _ | refine bW ?_ | refine bA ?_ _)); refine blk_put (cs := #[.string t249, .string t253, .int .i64 0, .int .i64 0, .int .i64 0, .int .i64 0, .int .i64 0, .int .i64 0, .int .i64 0, .int .i64 0, .int .i64 0]) ?_ 2 _ rfl; (with_reducible repeat (first | refine bN ?_ _ | refine bW ?_ | refine bA ?_ _)); refine blk_put (cs := #[.string t249, .string (⟨#[]⟩ : ByteArray), .int .i64 0, .int .i64 0, .int .i64 0, .int .i64 0, .int .i64 0, .int .i64 0, .int .i64 0, .int .i64 0, .int .i64 0]) ?_ 1 _ rfl; (with_reducible repeat (first | refine bN ?_ _ | refine bW ?_ | refine bA ?_ _)); refine blk_put (cs := #[.string (⟨#[]⟩ : ByteArray), .string (⟨#[]⟩ : ByteArray), .int .i64 0, .int .i64 0, .int .i64 0, .int .i64 0, .int .i64 0, .int .i64 0, .int .i64 0, .int .i64 0, .int .i64 0]) ?_ 0 _ rfl; (with_reducible repeat (first | refine bN ?_ _ | refine bW ?_ | refine bA ?_ _)); exact BK257.out) NB257_248.out (by simp)); have n2_ := q_ (Kd.R_lower ho0 (pZ (by repeat (first | (with_reducible first | exact HB.out | apply pA | apply pN | apply pd_ | refine pS ?_ (IsS104.ge HI248.out) | refine pS ?_ GE244.out | refine pS ?_ GE257.out) | exact HB.out)))); have n3_ := q_ (hb); have n4_ := q_ (hi); clear BK244; clear BK257; clear HB; clear HI248; have BK244 := n0_; have BK257 := n1_; have HO260 := n2_; have HB := n3_; have HI248 := n4_; clear n0_ n1_ n2_ n3_ n4_; (try clear hb); (try clear hb2); (try clear hk); (try clear hi); (try clear ho0)) | ((with_reducible refine gate_callee (f := 54) rfl ?_); refine goesL_ (some 17) rfl rfl Tryd.func54 (by kernel_rfl) rfl #[.pointer (some ⟨g248, 0, none⟩)] rfl (by first | rfl | (simp only [List.map_toArray]; rfl)) ?_; (with_reducible refine (wire_Reader_End.calls g248 t261 t262 t263 t264 t265 t266 t267 w _ ?side1 ?side2 A6.out).mono ?_); (case side1 => repeat (first | (with_reducible first | exact HI248.out | apply IsS104.alloc | apply IsS104.drewN | apply IsS104.drew | apply IsS104.set_0 | apply IsS104.set_1 | apply IsS104.set_2 | refine IsS104.far ?_ NB248_244.out _ | refine IsS104.far ?_ NB248_257.out _) | exact HI248.out)); (case side2 => repeat (first | (with_reducible first | exact HB.out | apply pA | apply pN | apply pd_ | refine pS ?_ (IsS104.ge HI248.out) | refine pS ?_ GE244.out | refine pS ?_ GE257.out) | exact HB.out)); rintro e w27 ⟨rfl, hi, hb, hk⟩; refine ⟨_, rfl, ?_⟩; have n0_ := q_ (KeepBut.blk hk (g' := gb244) (by (with_reducible repeat (first | refine bN ?_ _ | refine bW ?_ | refine bA ?_ _)); exact BK244.out) NB244_248.out (by simp)); have n1_ := q_ (KeepBut.blk hk (g' := gb257) (by (with_reducible repeat (first | refine bN ?_ _ | refine bW ?_ | refine bA ?_ _)); exact BK257.out) NB257_248.out (by simp)); have n2_ := q_ (Kd.R_mono (Kd.R_keep (IsS104.apart (show IsS104 w _ g248 t261 t262 t263 from by repeat (first | (with_reducible first | exact HI248.out | apply IsS104.alloc | apply IsS104.drewN | apply IsS104.drew | apply IsS104.set_0 | apply IsS104.set_1 | apply IsS104.set_2 | refine IsS104.far ?_ NB248_244.out _ | refine IsS104.far ?_ NB248_257.out _) | exact HI248.out)) (by (with_reducible repeat (first | apply Kd.R_alloc | apply Kd.R_drewN | apply Kd.R_drew)); exact HO260.out) (by decide)) hk (fun _ h => h.2)) (fun _ h => h.1)); have n3_ := q_ (hb); have n4_ := q_ (hi); clear BK244; clear BK257; clear HO260; clear HB; clear HI248; have BK244 := n0_; have BK257 := n1_; have HO260 := n2_; have HB := n3_; have HI248 := n4_; clear n0_ n1_ n2_ n3_ n4_; (try clear hb); (try clear hb2); (try clear hk); (try clear hi); obtain ⟨Ao28, co28, eo28⟩ := Kd.R_slice HO260.out; subst eo28))
            have n0_ := q_ (Kd.R_drew HO260.out)
            have n1_ := q_ (bW BK244.out)
            have n2_ := q_ (bW BK257.out)
            have n3_ := q_ (IsS104.drew HI248.out)
            have n4_ := q_ (pd_ HB.out)
            clear HO260
            clear BK244
            clear BK257
            clear HI248
            clear HB
            have HO260 := n0_
            have BK244 := n1_
            have BK257 := n2_
            have HI248 := n3_
            have HB := n4_
            clear n0_ n1_ n2_ n3_ n4_
            have p268 : 0 ≤ (0 : Int) := (by omega)
            have q268 : 0 < (t258.length : Int) := of_decide_eq_true (by first | (with_reducible assumption) | assumption)
            obtain ⟨ad268, e268, hx268_0⟩ := Kd.at_int (Kd.R_reads' HO260.out).2.2 0 p268 q268
            cases e268
            have qi268 : (0 < t258.length) = True := eq_true (by omega)
            (try rw [show ((0 : Int)).toNat = 0 from rfl] at hx268_0)
            (try rw [Addr.add_zero'] at hx268_0)
            replace p268 := eq_true p268
            replace q268 := eq_true q268
            have p269 : 0 ≤ (1 : Int) := (by omega)
            have q269 : 1 < (t258.length : Int) := of_decide_eq_true (by first | (with_reducible assumption) | assumption)
            obtain ⟨ad269, e269, hx269_0⟩ := Kd.at_int (Kd.R_reads' HO260.out).2.2 1 p269 q269
            obtain rfl : ad268 = ad269 := (by injection e269)
            (try simp only [show (1 : Int).toNat = 1 from rfl, Nat.reduceMul, Nat.reduceEqDiff, Go.Addr.add, ↓reduceIte] at hx269_0)
            have qi269 : (1 < t258.length) = True := eq_true (by omega)
            (try rw [show ((1 : Int)).toNat = 1 from rfl] at hx269_0)
            replace p269 := eq_true p269
            replace q269 := eq_true q269
            have p270 : 0 ≤ (2 : Int) := (by omega)
            have q270 : 2 < (t258.length : Int) := of_decide_eq_true (by first | (with_reducible assumption) | assumption)
            obtain ⟨ad270, e270, hx270_0⟩ := Kd.at_int (Kd.R_reads' HO260.out).2.2 2 p270 q270
            obtain rfl : ad268 = ad270 := (by injection e270)
            (try simp only [show (2 : Int).toNat = 2 from rfl, Nat.reduceMul, Nat.reduceEqDiff, Go.Addr.add, ↓reduceIte] at hx270_0)
            have qi270 : (2 < t258.length) = True := eq_true (by omega)
            (try rw [show ((2 : Int)).toNat = 2 from rfl] at hx270_0)
            replace p270 := eq_true p270
            replace q270 := eq_true q270
            have p271 : 0 ≤ (3 : Int) := (by omega)
            have q271 : 3 < (t258.length : Int) := of_decide_eq_true (by first | (with_reducible assumption) | assumption)
            obtain ⟨ad271, e271, hx271_0⟩ := Kd.at_int (Kd.R_reads' HO260.out).2.2 3 p271 q271
            obtain rfl : ad268 = ad271 := (by injection e271)
            (try simp only [show (3 : Int).toNat = 3 from rfl, Nat.reduceMul, Nat.reduceEqDiff, Go.Addr.add, ↓reduceIte] at hx271_0)
            have qi271 : (3 < t258.length) = True := eq_true (by omega)
            (try rw [show ((3 : Int)).toNat = 3 from rfl] at hx271_0)
            replace p271 := eq_true p271
            replace q271 := eq_true q271
            refine start_ (n := 20) (S := fun w' => w'.cell? ad268 = some (.int .i64 (rd t258 0)) ∧ w'.cell? ⟨ad268.block, ad268.off + 1, none⟩ = some (.int .i64 (rd t258 1)) ∧ w'.cell? ⟨ad268.block, ad268.off + 2, none⟩ = some (.int .i64 (rd t258 2)) ∧ w'.cell? ⟨ad268.block, ad268.off + 3, none⟩ = some (.int .i64 (rd t258 3))) (ds := []) #[false, false, false, false, false, false, false, false, false, false, false, false, false, false, false, false, false, false, false, false] (by kernel_rfl) rfl rfl ⟨hx268_0, hx269_0, hx270_0, hx271_0⟩ (fun hHeld => ?_); refine with_tabW order_Decode.tab6 order_Decode.bits6 (fun HT_ HW_ => ?_)
            generalize w27.drew = w29 at HO260 BK244 BK257 HI248 HB hx268_0 hx269_0 hx270_0 hx271_0 hHeld ⊢
            refine pure_ (i := 0) (N := some 25) (v := ?_) (a' := ?_) #[true, false, false, false, false, false, false, false, false, false, false, false, false, false, false, false, false, false, false, false] rfl rfl (any_of HT_.out (by kernel_rfl)) (fun _ _ _ h => h) (Or.inl ⟨by rfl, ?_⟩) ?_ ?_
            rotate_left
            ·intro w'
             go_simp
             with_reducible rfl
            rotate_left
            ·simp only [Act.put, List.setIfInBounds_toArray, List.set_cons_zero, List.set_cons_succ, i64_w, i32_w]
             rfl
            refine pure_ (i := 1) (N := some 26) (v := ?_) (a' := ?_) #[true, true, false, false, false, false, false, false, false, false, false, false, false, false, false, false, false, false, false, false] rfl rfl (any_of HT_.out (by kernel_rfl)) (fun _ _ _ h => h) (Or.inl ⟨by rfl, ?_⟩) ?_ ?_
            rotate_left
            ·intro w'
             go_simp
             with_reducible rfl
            rotate_left
            ·simp only [Act.put, List.setIfInBounds_toArray, List.set_cons_zero, List.set_cons_succ, i64_w, i32_w]
             rfl
            refine pure_ (i := 3) (N := some 28) (v := ?_) (a' := ?_) #[true, true, false, true, false, false, false, false, false, false, false, false, false, false, false, false, false, false, false, false] rfl rfl (any_of HT_.out (by kernel_rfl)) (fun _ _ _ h => h) (Or.inl ⟨by rfl, ?_⟩) ?_ ?_
            rotate_left
            ·intro w'
             go_simp
             with_reducible rfl
            rotate_left
            ·simp only [Act.put, List.setIfInBounds_toArray, List.set_cons_zero, List.set_cons_succ, i64_w, i32_w]
             rfl
            refine pure_ (i := 4) (N := some 29) (v := ?_) (a' := ?_) #[true, true, false, true, true, false, false, false, false, false, false, false, false, false, false, false, false, false, false, false] rfl rfl (any_of HT_.out (by kernel_rfl)) (fun _ _ _ h => h) (Or.inl ⟨by rfl, ?_⟩) ?_ ?_
            rotate_left
            ·intro w'
             go_simp
             with_reducible rfl
            rotate_left
            ·simp only [Act.put, List.setIfInBounds_toArray, List.set_cons_zero, List.set_cons_succ, i64_w, i32_w]
             rfl
            refine pure_ (i := 6) (N := some 31) (v := ?_) (a' := ?_) #[true, true, false, true, true, false, true, false, false, false, false, false, false, false, false, false, false, false, false, false] rfl rfl (any_of HT_.out (by kernel_rfl)) (fun _ _ _ h => h) (Or.inl ⟨by rfl, ?_⟩) ?_ ?_
            rotate_left
            ·intro w'
             go_simp
             with_reducible rfl
            rotate_left
            ·simp only [Act.put, List.setIfInBounds_toArray, List.set_cons_zero, List.set_cons_succ, i64_w, i32_w]
             rfl
            refine pure_ (i := 7) (N := some 32) (v := ?_) (a' := ?_) #[true, true, false, true, true, false, true, true, false, false, false, false, false, false, false, false, false, false, false, false] rfl rfl (any_of HT_.out (by kernel_rfl)) (fun _ _ _ h => h) (Or.inl ⟨by rfl, ?_⟩) ?_ ?_
            rotate_left
            ·intro w'
             go_simp
             with_reducible rfl
            rotate_left
            ·simp only [Act.put, List.setIfInBounds_toArray, List.set_cons_zero, List.set_cons_succ, i64_w, i32_w]
             rfl
            refine pure_ (i := 9) (N := some 34) (v := ?_) (a' := ?_) #[true, true, false, true, true, false, true, true, false, true, false, false, false, false, false, false, false, false, false, false] rfl rfl (any_of HT_.out (by kernel_rfl)) (fun _ _ _ h => h) (Or.inl ⟨by rfl, ?_⟩) ?_ ?_
            rotate_left
            ·intro w'
             go_simp
             with_reducible rfl
            rotate_left
            ·simp only [Act.put, List.setIfInBounds_toArray, List.set_cons_zero, List.set_cons_succ, i64_w, i32_w]
             rfl
            refine pure_ (i := 10) (N := some 35) (v := ?_) (a' := ?_) #[true, true, false, true, true, false, true, true, false, true, true, false, false, false, false, false, false, false, false, false] rfl rfl (any_of HT_.out (by kernel_rfl)) (fun _ _ _ h => h) (Or.inl ⟨by rfl, ?_⟩) ?_ ?_
            rotate_left
            ·intro w'
             go_simp
             with_reducible rfl
            rotate_left
            ·simp only [Act.put, List.setIfInBounds_toArray, List.set_cons_zero, List.set_cons_succ, i64_w, i32_w]
             rfl
            refine take_ (i := 2) (N := some 27) (v := ?_) (a' := ?_) #[true, true, true, true, true, false, true, true, false, true, true, false, false, false, false, false, false, false, false, false] rfl rfl (take_ofW HT_.out HW_.out (by kernel_rfl)) (fun _ _ _ h => h) (Or.inl ⟨by rfl, ?_⟩) hHeld ?_ ?_
            rotate_left
            ·rintro w' ⟨s0, s1, s2, s3⟩
             go_simp
             with_reducible rfl
            rotate_left
            ·simp only [Act.put, List.setIfInBounds_toArray, List.set_cons_zero, List.set_cons_succ, i64_w, i32_w]
             rfl
            refine pure_ (i := 12) (N := some 37) (v := ?_) (a' := ?_) #[true, true, true, true, true, false, true, true, false, true, true, false, true, false, false, false, false, false, false, false] rfl rfl (any_of HT_.out (by kernel_rfl)) (fun _ _ _ h => h) (Or.inl ⟨by rfl, ?_⟩) ?_ ?_
            rotate_left
            ·intro w'
             go_simp
             with_reducible rfl
            rotate_left
            ·simp only [Act.put, List.setIfInBounds_toArray, List.set_cons_zero, List.set_cons_succ, i64_w, i32_w]
             rfl
            refine take_ (i := 5) (N := some 30) (v := ?_) (a' := ?_) #[true, true, true, true, true, true, true, true, false, true, true, false, true, false, false, false, false, false, false, false] rfl rfl (take_ofW HT_.out HW_.out (by kernel_rfl)) (fun _ _ _ h => h) (Or.inl ⟨by rfl, ?_⟩) hHeld ?_ ?_
            rotate_left
            ·rintro w' ⟨s0, s1, s2, s3⟩
             go_simp
             with_reducible rfl
            rotate_left
            ·simp only [Act.put, List.setIfInBounds_toArray, List.set_cons_zero, List.set_cons_succ, i64_w, i32_w]
             rfl
            refine take_ (i := 8) (N := some 33) (v := ?_) (a' := ?_) #[true, true, true, true, true, true, true, true, true, true, true, false, true, false, false, false, false, false, false, false] rfl rfl (take_ofW HT_.out HW_.out (by kernel_rfl)) (fun _ _ _ h => h) (Or.inl ⟨by rfl, ?_⟩) hHeld ?_ ?_
            rotate_left
            ·rintro w' ⟨s0, s1, s2, s3⟩
             go_simp
             with_reducible rfl
            rotate_left
            ·simp only [Act.put, List.setIfInBounds_toArray, List.set_cons_zero, List.set_cons_succ, i64_w, i32_w]
             rfl
            refine take_ (i := 11) (N := some 36) (v := ?_) (a' := ?_) #[true, true, true, true, true, true, true, true, true, true, true, true, true, false, false, false, false, false, false, false] rfl rfl (take_ofW HT_.out HW_.out (by kernel_rfl)) (fun _ _ _ h => h) (Or.inl ⟨by rfl, ?_⟩) hHeld ?_ ?_
            rotate_left
            ·rintro w' ⟨s0, s1, s2, s3⟩
             go_simp
             with_reducible rfl
            rotate_left
            ·simp only [Act.put, List.setIfInBounds_toArray, List.set_cons_zero, List.set_cons_succ, i64_w, i32_w]
             rfl
            refine one_ (i := 13) (N := none) #[true, true, true, true, true, true, true, true, true, true, true, true, true, true, false, false, false, false, false, false] rfl rfl (one_of HT_.out (by kernel_rfl)) (by decide) (fun K hK => ?_)
            have hs30 : w29.cell? ⟨gb257, 2, none⟩ = some (.int .i64 0) := (bC BK257.out 2).trans rfl
            have hfs30 := bF BK257.out 2
            have hns30_0 := NB244_257.out
            have hms30_0 := NB257_244.out
            refine skip_ (w1 := ?_) (by rfl) rfl ?_ ?_
            rotate_left
            ·go_simp
             rfl
            have hq_1 := Kd.own_blk (Kd.R_ne HO260.out BK257.out (by decide))
            refine hK.out _ _ ⟨((cell_far (p := ⟨gb257, _, none⟩) (by first | exact hq_1 | (rw [add_block]; exact hq_1) | (show (Addr.add _ _).block ≠ _; rw [add_block]; exact hq_1) | (dsimp only; exact hq_1)) _).trans (hHeld.1)), ((cell_far (p := ⟨gb257, _, none⟩) (by first | exact hq_1 | (rw [add_block]; exact hq_1) | (show (Addr.add _ _).block ≠ _; rw [add_block]; exact hq_1) | (dsimp only; exact hq_1)) _).trans (hHeld.2.1)), ((cell_far (p := ⟨gb257, _, none⟩) (by first | exact hq_1 | (rw [add_block]; exact hq_1) | (show (Addr.add _ _).block ≠ _; rw [add_block]; exact hq_1) | (dsimp only; exact hq_1)) _).trans (hHeld.2.2.1)), ((cell_far (p := ⟨gb257, _, none⟩) (by first | exact hq_1 | (rw [add_block]; exact hq_1) | (show (Addr.add _ _).block ≠ _; rw [add_block]; exact hq_1) | (dsimp only; exact hq_1)) _).trans (hHeld.2.2.2))⟩ (fun hHeld => ?_)
            clear hK K
            refine pure_ (i := 14) (N := some 38) (v := ?_) (a' := ?_) #[true, true, true, true, true, true, true, true, true, true, true, true, true, true, true, false, false, false, false, false] rfl rfl (any_of HT_.out (by kernel_rfl)) (fun _ _ _ h => h) (Or.inl ⟨by rfl, ?_⟩) ?_ ?_
            rotate_left
            ·intro w'
             go_simp
             with_reducible rfl
            rotate_left
            ·simp only [Act.put, List.setIfInBounds_toArray, List.set_cons_zero, List.set_cons_succ, i64_w, i32_w]
             rfl
            refine one_ (i := 15) (N := none) #[true, true, true, true, true, true, true, true, true, true, true, true, true, true, true, true, false, false, false, false] rfl rfl (one_of HT_.out (by kernel_rfl)) (by decide) (fun K hK => ?_)
            have hs31 : w29.cell? ⟨gb257, 3, none⟩ = some (.int .i64 0) := (bC BK257.out 3).trans rfl
            have hfs31 := bF BK257.out 3
            have hns31_0 := NB244_257.out
            have hms31_0 := NB257_244.out
            refine skip_ (w1 := ?_) (by rfl) rfl ?_ ?_
            rotate_left
            ·go_simp
             rfl
            have hq_2 := Kd.own_blk (Kd.R_ne HO260.out BK257.out (by decide))
            refine hK.out _ _ ⟨((cell_far (p := ⟨gb257, _, none⟩) (by first | exact hq_2 | (rw [add_block]; exact hq_2) | (show (Addr.add _ _).block ≠ _; rw [add_block]; exact hq_2) | (dsimp only; exact hq_2)) _).trans (hHeld.1)), ((cell_far (p := ⟨gb257, _, none⟩) (by first | exact hq_2 | (rw [add_block]; exact hq_2) | (show (Addr.add _ _).block ≠ _; rw [add_block]; exact hq_2) | (dsimp only; exact hq_2)) _).trans (hHeld.2.1)), ((cell_far (p := ⟨gb257, _, none⟩) (by first | exact hq_2 | (rw [add_block]; exact hq_2) | (show (Addr.add _ _).block ≠ _; rw [add_block]; exact hq_2) | (dsimp only; exact hq_2)) _).trans (hHeld.2.2.1)), ((cell_far (p := ⟨gb257, _, none⟩) (by first | exact hq_2 | (rw [add_block]; exact hq_2) | (show (Addr.add _ _).block ≠ _; rw [add_block]; exact hq_2) | (dsimp only; exact hq_2)) _).trans (hHeld.2.2.2))⟩ (fun hHeld => ?_)
            clear hK K
            refine pure_ (i := 16) (N := some 39) (v := ?_) (a' := ?_) #[true, true, true, true, true, true, true, true, true, true, true, true, true, true, true, true, true, false, false, false] rfl rfl (any_of HT_.out (by kernel_rfl)) (fun _ _ _ h => h) (Or.inl ⟨by rfl, ?_⟩) ?_ ?_
            rotate_left
            ·intro w'
             go_simp
             with_reducible rfl
            rotate_left
            ·simp only [Act.put, List.setIfInBounds_toArray, List.set_cons_zero, List.set_cons_succ, i64_w, i32_w]
             rfl
            refine one_ (i := 17) (N := none) #[true, true, true, true, true, true, true, true, true, true, true, true, true, true, true, true, true, true, false, false] rfl rfl (one_of HT_.out (by kernel_rfl)) (by decide) (fun K hK => ?_)
            have hs32 : w29.cell? ⟨gb257, 4, none⟩ = some (.int .i64 0) := (bC BK257.out 4).trans rfl
            have hfs32 := bF BK257.out 4
            have hns32_0 := NB244_257.out
            have hms32_0 := NB257_244.out
            refine skip_ (w1 := ?_) (by rfl) rfl ?_ ?_
            rotate_left
            ·go_simp
             rfl
            have hq_3 := Kd.own_blk (Kd.R_ne HO260.out BK257.out (by decide))
            refine hK.out _ _ ⟨((cell_far (p := ⟨gb257, _, none⟩) (by first | exact hq_3 | (rw [add_block]; exact hq_3) | (show (Addr.add _ _).block ≠ _; rw [add_block]; exact hq_3) | (dsimp only; exact hq_3)) _).trans (hHeld.1)), ((cell_far (p := ⟨gb257, _, none⟩) (by first | exact hq_3 | (rw [add_block]; exact hq_3) | (show (Addr.add _ _).block ≠ _; rw [add_block]; exact hq_3) | (dsimp only; exact hq_3)) _).trans (hHeld.2.1)), ((cell_far (p := ⟨gb257, _, none⟩) (by first | exact hq_3 | (rw [add_block]; exact hq_3) | (show (Addr.add _ _).block ≠ _; rw [add_block]; exact hq_3) | (dsimp only; exact hq_3)) _).trans (hHeld.2.2.1)), ((cell_far (p := ⟨gb257, _, none⟩) (by first | exact hq_3 | (rw [add_block]; exact hq_3) | (show (Addr.add _ _).block ≠ _; rw [add_block]; exact hq_3) | (dsimp only; exact hq_3)) _).trans (hHeld.2.2.2))⟩ (fun hHeld => ?_)
            clear hK K
            refine pure_ (i := 18) (N := some 40) (v := ?_) (a' := ?_) #[true, true, true, true, true, true, true, true, true, true, true, true, true, true, true, true, true, true, true, false] rfl rfl (any_of HT_.out (by kernel_rfl)) (fun _ _ _ h => h) (Or.inl ⟨by rfl, ?_⟩) ?_ ?_
            rotate_left
            ·intro w'
             go_simp
             with_reducible rfl
            rotate_left
            ·simp only [Act.put, List.setIfInBounds_toArray, List.set_cons_zero, List.set_cons_succ, i64_w, i32_w]
             rfl
            refine one_ (i := 19) (N := none) #[true, true, true, true, true, true, true, true, true, true, true, true, true, true, true, true, true, true, true, true] rfl rfl (one_of HT_.out (by kernel_rfl)) (by decide) (fun K hK => ?_)
            have hs33 : w29.cell? ⟨gb257, 5, none⟩ = some (.int .i64 0) := (bC BK257.out 5).trans rfl
            have hfs33 := bF BK257.out 5
            have hns33_0 := NB244_257.out
            have hms33_0 := NB257_244.out
            refine skip_ (w1 := ?_) (by rfl) rfl ?_ ?_
            rotate_left
            ·go_simp
             rfl
            have hq_4 := Kd.own_blk (Kd.R_ne HO260.out BK257.out (by decide))
            refine hK.out _ _ ⟨((cell_far (p := ⟨gb257, _, none⟩) (by first | exact hq_4 | (rw [add_block]; exact hq_4) | (show (Addr.add _ _).block ≠ _; rw [add_block]; exact hq_4) | (dsimp only; exact hq_4)) _).trans (hHeld.1)), ((cell_far (p := ⟨gb257, _, none⟩) (by first | exact hq_4 | (rw [add_block]; exact hq_4) | (show (Addr.add _ _).block ≠ _; rw [add_block]; exact hq_4) | (dsimp only; exact hq_4)) _).trans (hHeld.2.1)), ((cell_far (p := ⟨gb257, _, none⟩) (by first | exact hq_4 | (rw [add_block]; exact hq_4) | (show (Addr.add _ _).block ≠ _; rw [add_block]; exact hq_4) | (dsimp only; exact hq_4)) _).trans (hHeld.2.2.1)), ((cell_far (p := ⟨gb257, _, none⟩) (by first | exact hq_4 | (rw [add_block]; exact hq_4) | (show (Addr.add _ _).block ≠ _; rw [add_block]; exact hq_4) | (dsimp only; exact hq_4)) _).trans (hHeld.2.2.2))⟩ (fun hHeld => ?_)
            clear hK K
            refine done_ (done_of HT_.out (by kernel_rfl)) ?_
            try go_wp2
            have n0_ : Aside0 (Kd.R (Kd.int .i64) 3 ((((w29.setCell ⟨gb257, 2, none⟩ (.int .i64 (rd t258 0))).setCell ⟨gb257, 3, none⟩ (.int .i64 (rd t258 1))).setCell ⟨gb257, 4, none⟩ (.int .i64 (rd t258 2))).setCell ⟨gb257, 5, none⟩ (.int .i64 (rd t258 3))) w.heap.size (fun _ => True) (.slice (some ad268) t258.length co28) t258) := ⟨by (with_reducible repeat (first | apply Kd.R_alloc | apply Kd.R_drewN | apply Kd.R_drew)); exact Kd.R_mono (Kd.R_far (p := ⟨gb257, 5, none⟩) (Kd.R_far (p := ⟨gb257, 4, none⟩) (Kd.R_far (p := ⟨gb257, 3, none⟩) (Kd.R_far (p := ⟨gb257, 2, none⟩) (Kd.R_types HO260.out BK257.out (by decide)) (fun _ hk => hk.2) (.int .i64 (rd t258 0))) (fun _ hk => hk.2) (.int .i64 (rd t258 1))) (fun _ hk => hk.2) (.int .i64 (rd t258 2))) (fun _ hk => hk.2) (.int .i64 (rd t258 3))) (fun _ hk => trivial)⟩
            have n1_ : Aside0 (((((w29.setCell ⟨gb257, 2, none⟩ (.int .i64 (rd t258 0))).setCell ⟨gb257, 3, none⟩ (.int .i64 (rd t258 1))).setCell ⟨gb257, 4, none⟩ (.int .i64 (rd t258 2))).setCell ⟨gb257, 5, none⟩ (.int .i64 (rd t258 3))).heap[gb244]? = some (.cells #[.string (⟨#[]⟩ : ByteArray), .string (⟨#[]⟩ : ByteArray), .int .i64 0, .int .i64 0, .int .i64 0, .int .i64 0, .int .i64 0, .int .i64 0, .int .i64 0, .int .i64 0, .int .i64 0] 23 (0, 0))) := ⟨by (with_reducible repeat (first | refine bN ?_ _ | refine bW ?_ | refine bA ?_ _)); refine blk_far ?_ NB244_257.out _; (with_reducible repeat (first | refine bN ?_ _ | refine bW ?_ | refine bA ?_ _)); refine blk_far ?_ NB244_257.out _; (with_reducible repeat (first | refine bN ?_ _ | refine bW ?_ | refine bA ?_ _)); refine blk_far ?_ NB244_257.out _; (with_reducible repeat (first | refine bN ?_ _ | refine bW ?_ | refine bA ?_ _)); refine blk_far ?_ NB244_257.out _; (with_reducible repeat (first | refine bN ?_ _ | refine bW ?_ | refine bA ?_ _)); exact BK244.out⟩
            have n2_ : Aside0 (((((w29.setCell ⟨gb257, 2, none⟩ (.int .i64 (rd t258 0))).setCell ⟨gb257, 3, none⟩ (.int .i64 (rd t258 1))).setCell ⟨gb257, 4, none⟩ (.int .i64 (rd t258 2))).setCell ⟨gb257, 5, none⟩ (.int .i64 (rd t258 3))).heap[gb257]? = some (.cells #[.string t249, .string t253, .int .i64 (rd t258 0), .int .i64 (rd t258 1), .int .i64 (rd t258 2), .int .i64 (rd t258 3), .int .i64 0, .int .i64 0, .int .i64 0, .int .i64 0, .int .i64 0] 23 (0, 0))) := ⟨by (with_reducible repeat (first | refine bN ?_ _ | refine bW ?_ | refine bA ?_ _)); refine blk_put (cs := #[.string t249, .string t253, .int .i64 (rd t258 0), .int .i64 (rd t258 1), .int .i64 (rd t258 2), .int .i64 0, .int .i64 0, .int .i64 0, .int .i64 0, .int .i64 0, .int .i64 0]) ?_ 5 _ rfl; (with_reducible repeat (first | refine bN ?_ _ | refine bW ?_ | refine bA ?_ _)); refine blk_put (cs := #[.string t249, .string t253, .int .i64 (rd t258 0), .int .i64 (rd t258 1), .int .i64 0, .int .i64 0, .int .i64 0, .int .i64 0, .int .i64 0, .int .i64 0, .int .i64 0]) ?_ 4 _ rfl; (with_reducible repeat (first | refine bN ?_ _ | refine bW ?_ | refine bA ?_ _)); refine blk_put (cs := #[.string t249, .string t253, .int .i64 (rd t258 0), .int .i64 0, .int .i64 0, .int .i64 0, .int .i64 0, .int .i64 0, .int .i64 0, .int .i64 0, .int .i64 0]) ?_ 3 _ rfl; (with_reducible repeat (first | refine bN ?_ _ | refine bW ?_ | refine bA ?_ _)); refine blk_put (cs := #[.string t249, .string t253, .int .i64 0, .int .i64 0, .int .i64 0, .int .i64 0, .int .i64 0, .int .i64 0, .int .i64 0, .int .i64 0, .int .i64 0]) ?_ 2 _ rfl; (with_reducible repeat (first | refine bN ?_ _ | refine bW ?_ | refine bA ?_ _)); exact BK257.out⟩
            have n3_ : Aside0 (IsS104 w ((((w29.setCell ⟨gb257, 2, none⟩ (.int .i64 (rd t258 0))).setCell ⟨gb257, 3, none⟩ (.int .i64 (rd t258 1))).setCell ⟨gb257, 4, none⟩ (.int .i64 (rd t258 2))).setCell ⟨gb257, 5, none⟩ (.int .i64 (rd t258 3))) g248 t265 t266 t267) := ⟨by repeat (first | (with_reducible first | exact HI248.out | apply IsS104.alloc | apply IsS104.drewN | apply IsS104.drew | apply IsS104.set_0 | apply IsS104.set_1 | apply IsS104.set_2 | refine IsS104.far ?_ NB248_244.out _ | refine IsS104.far ?_ NB248_257.out _) | exact HI248.out)⟩
            have n4_ : Aside0 (Below w.heap.size w ((((w29.setCell ⟨gb257, 2, none⟩ (.int .i64 (rd t258 0))).setCell ⟨gb257, 3, none⟩ (.int .i64 (rd t258 1))).setCell ⟨gb257, 4, none⟩ (.int .i64 (rd t258 2))).setCell ⟨gb257, 5, none⟩ (.int .i64 (rd t258 3)))) := ⟨by repeat (first | (with_reducible first | exact HB.out | apply pA | apply pN | apply pd_ | refine pS ?_ (IsS104.ge HI248.out) | refine pS ?_ GE244.out | refine pS ?_ GE257.out) | exact HB.out)⟩
            (try clear HO260)
            (try clear BK244)
            (try clear BK257)
            (try clear HI248)
            (try clear HB)
            generalize ((((w29.setCell ⟨gb257, 2, none⟩ (.int .i64 (rd t258 0))).setCell ⟨gb257, 3, none⟩ (.int .i64 (rd t258 1))).setCell ⟨gb257, 4, none⟩ (.int .i64 (rd t258 2))).setCell ⟨gb257, 5, none⟩ (.int .i64 (rd t258 3))) = w34 at n0_ n1_ n2_ n3_ n4_ ⊢
            have HO260 := n0_
            have BK244 := n1_
            have BK257 := n2_
            have HI248 := n3_
            have HB := n4_
            clear n0_ n1_ n2_ n3_ n4_
            have n0_ := q_ (Kd.R_drew HO260.out)
            have n1_ := q_ (bW BK244.out)
            have n2_ := q_ (bW BK257.out)
            have n3_ := q_ (IsS104.drew HI248.out)
            have n4_ := q_ (pd_ HB.out)
            clear HO260
            clear BK244
            clear BK257
            clear HI248
            clear HB
            have HO260 := n0_
            have BK244 := n1_
            have BK257 := n2_
            have HI248 := n3_
            have HB := n4_
            clear n0_ n1_ n2_ n3_ n4_
            have p272 : 0 ≤ (4 : Int) := (by omega)
            have q272 : 4 < (t258.length : Int) := of_decide_eq_true (by first | (with_reducible assumption) | assumption)
            obtain ⟨ad272, e272, hx272_0⟩ := Kd.at_int (Kd.R_reads' HO260.out).2.2 4 p272 q272
            obtain rfl : ad268 = ad272 := (by injection e272)
            (try simp only [show (4 : Int).toNat = 4 from rfl, Nat.reduceMul, Nat.reduceEqDiff, Go.Addr.add, ↓reduceIte] at hx272_0)
            have qi272 : (4 < t258.length) = True := eq_true (by omega)
            (try rw [show ((4 : Int)).toNat = 4 from rfl] at hx272_0)
            replace p272 := eq_true p272
            replace q272 := eq_true q272
            have p273 : 0 ≤ (5 : Int) := (by omega)
            have q273 : 5 < (t258.length : Int) := of_decide_eq_true (by first | (with_reducible assumption) | assumption)
            obtain ⟨ad273, e273, hx273_0⟩ := Kd.at_int (Kd.R_reads' HO260.out).2.2 5 p273 q273
            obtain rfl : ad268 = ad273 := (by injection e273)
            (try simp only [show (5 : Int).toNat = 5 from rfl, Nat.reduceMul, Nat.reduceEqDiff, Go.Addr.add, ↓reduceIte] at hx273_0)
            have qi273 : (5 < t258.length) = True := eq_true (by omega)
            (try rw [show ((5 : Int)).toNat = 5 from rfl] at hx273_0)
            replace p273 := eq_true p273
            replace q273 := eq_true q273
            have p274 : 0 ≤ (6 : Int) := (by omega)
            have q274 : 6 < (t258.length : Int) := of_decide_eq_true (by first | (with_reducible assumption) | assumption)
            obtain ⟨ad274, e274, hx274_0⟩ := Kd.at_int (Kd.R_reads' HO260.out).2.2 6 p274 q274
            obtain rfl : ad268 = ad274 := (by injection e274)
            (try simp only [show (6 : Int).toNat = 6 from rfl, Nat.reduceMul, Nat.reduceEqDiff, Go.Addr.add, ↓reduceIte] at hx274_0)
            have qi274 : (6 < t258.length) = True := eq_true (by omega)
            (try rw [show ((6 : Int)).toNat = 6 from rfl] at hx274_0)
            replace p274 := eq_true p274
            replace q274 := eq_true q274
            have p275 : 0 ≤ (7 : Int) := (by omega)
            have q275 : 7 < (t258.length : Int) := of_decide_eq_true (by first | (with_reducible assumption) | assumption)
            obtain ⟨ad275, e275, hx275_0⟩ := Kd.at_int (Kd.R_reads' HO260.out).2.2 7 p275 q275
            obtain rfl : ad268 = ad275 := (by injection e275)
            (try simp only [show (7 : Int).toNat = 7 from rfl, Nat.reduceMul, Nat.reduceEqDiff, Go.Addr.add, ↓reduceIte] at hx275_0)
            have qi275 : (7 < t258.length) = True := eq_true (by omega)
            (try rw [show ((7 : Int)).toNat = 7 from rfl] at hx275_0)
            replace p275 := eq_true p275
            replace q275 := eq_true q275
            have p276 : 0 ≤ (8 : Int) := (by omega)
            have q276 : 8 < (t258.length : Int) := of_decide_eq_true (by first | (with_reducible assumption) | assumption)
            obtain ⟨ad276, e276, hx276_0⟩ := Kd.at_int (Kd.R_reads' HO260.out).2.2 8 p276 q276
            obtain rfl : ad268 = ad276 := (by injection e276)
            (try simp only [show (8 : Int).toNat = 8 from rfl, Nat.reduceMul, Nat.reduceEqDiff, Go.Addr.add, ↓reduceIte] at hx276_0)
            have qi276 : (8 < t258.length) = True := eq_true (by omega)
            (try rw [show ((8 : Int)).toNat = 8 from rfl] at hx276_0)
            replace p276 := eq_true p276
            replace q276 := eq_true q276
            refine start_ (n := 25) (S := fun w' => w'.cell? ⟨ad268.block, ad268.off + 4, none⟩ = some (.int .i64 (rd t258 4)) ∧ w'.cell? ⟨ad268.block, ad268.off + 5, none⟩ = some (.int .i64 (rd t258 5)) ∧ w'.cell? ⟨ad268.block, ad268.off + 6, none⟩ = some (.int .i64 (rd t258 6)) ∧ w'.cell? ⟨ad268.block, ad268.off + 7, none⟩ = some (.int .i64 (rd t258 7)) ∧ w'.cell? ⟨ad268.block, ad268.off + 8, none⟩ = some (.int .i64 (rd t258 8))) (ds := []) #[false, false, false, false, false, false, false, false, false, false, false, false, false, false, false, false, false, false, false, false, false, false, false, false, false] (by kernel_rfl) rfl rfl ⟨hx272_0, hx273_0, hx274_0, hx275_0, hx276_0⟩ (fun hHeld => ?_); refine with_tabW order_Decode.tab7 order_Decode.bits7 (fun HT_ HW_ => ?_)
            generalize w34.drew = w35 at HO260 BK244 BK257 HI248 HB hx272_0 hx273_0 hx274_0 hx275_0 hx276_0 hHeld ⊢
            refine pure_ (i := 0) (N := some 41) (v := ?_) (a' := ?_) #[true, false, false, false, false, false, false, false, false, false, false, false, false, false, false, false, false, false, false, false, false, false, false, false, false] rfl rfl (any_of HT_.out (by kernel_rfl)) (fun _ _ _ h => h) (Or.inl ⟨by rfl, ?_⟩) ?_ ?_
            rotate_left
            ·intro w'
             go_simp
             with_reducible rfl
            rotate_left
            ·simp only [Act.put, List.setIfInBounds_toArray, List.set_cons_zero, List.set_cons_succ, i64_w, i32_w]
             rfl
            refine pure_ (i := 1) (N := some 42) (v := ?_) (a' := ?_) #[true, true, false, false, false, false, false, false, false, false, false, false, false, false, false, false, false, false, false, false, false, false, false, false, false] rfl rfl (any_of HT_.out (by kernel_rfl)) (fun _ _ _ h => h) (Or.inl ⟨by rfl, ?_⟩) ?_ ?_
            rotate_left
            ·intro w'
             go_simp
             with_reducible rfl
            rotate_left
            ·simp only [Act.put, List.setIfInBounds_toArray, List.set_cons_zero, List.set_cons_succ, i64_w, i32_w]
             rfl
            refine pure_ (i := 3) (N := some 44) (v := ?_) (a' := ?_) #[true, true, false, true, false, false, false, false, false, false, false, false, false, false, false, false, false, false, false, false, false, false, false, false, false] rfl rfl (any_of HT_.out (by kernel_rfl)) (fun _ _ _ h => h) (Or.inl ⟨by rfl, ?_⟩) ?_ ?_
            rotate_left
            ·intro w'
             go_simp
             with_reducible rfl
            rotate_left
            ·simp only [Act.put, List.setIfInBounds_toArray, List.set_cons_zero, List.set_cons_succ, i64_w, i32_w]
             rfl
            refine pure_ (i := 4) (N := some 45) (v := ?_) (a' := ?_) #[true, true, false, true, true, false, false, false, false, false, false, false, false, false, false, false, false, false, false, false, false, false, false, false, false] rfl rfl (any_of HT_.out (by kernel_rfl)) (fun _ _ _ h => h) (Or.inl ⟨by rfl, ?_⟩) ?_ ?_
            rotate_left
            ·intro w'
             go_simp
             with_reducible rfl
            rotate_left
            ·simp only [Act.put, List.setIfInBounds_toArray, List.set_cons_zero, List.set_cons_succ, i64_w, i32_w]
             rfl
            refine pure_ (i := 6) (N := some 47) (v := ?_) (a' := ?_) #[true, true, false, true, true, false, true, false, false, false, false, false, false, false, false, false, false, false, false, false, false, false, false, false, false] rfl rfl (any_of HT_.out (by kernel_rfl)) (fun _ _ _ h => h) (Or.inl ⟨by rfl, ?_⟩) ?_ ?_
            rotate_left
            ·intro w'
             go_simp
             with_reducible rfl
            rotate_left
            ·simp only [Act.put, List.setIfInBounds_toArray, List.set_cons_zero, List.set_cons_succ, i64_w, i32_w]
             rfl
            refine pure_ (i := 7) (N := some 48) (v := ?_) (a' := ?_) #[true, true, false, true, true, false, true, true, false, false, false, false, false, false, false, false, false, false, false, false, false, false, false, false, false] rfl rfl (any_of HT_.out (by kernel_rfl)) (fun _ _ _ h => h) (Or.inl ⟨by rfl, ?_⟩) ?_ ?_
            rotate_left
            ·intro w'
             go_simp
             with_reducible rfl
            rotate_left
            ·simp only [Act.put, List.setIfInBounds_toArray, List.set_cons_zero, List.set_cons_succ, i64_w, i32_w]
             rfl
            refine pure_ (i := 9) (N := some 50) (v := ?_) (a' := ?_) #[true, true, false, true, true, false, true, true, false, true, false, false, false, false, false, false, false, false, false, false, false, false, false, false, false] rfl rfl (any_of HT_.out (by kernel_rfl)) (fun _ _ _ h => h) (Or.inl ⟨by rfl, ?_⟩) ?_ ?_
            rotate_left
            ·intro w'
             go_simp
             with_reducible rfl
            rotate_left
            ·simp only [Act.put, List.setIfInBounds_toArray, List.set_cons_zero, List.set_cons_succ, i64_w, i32_w]
             rfl
            refine pure_ (i := 10) (N := some 51) (v := ?_) (a' := ?_) #[true, true, false, true, true, false, true, true, false, true, true, false, false, false, false, false, false, false, false, false, false, false, false, false, false] rfl rfl (any_of HT_.out (by kernel_rfl)) (fun _ _ _ h => h) (Or.inl ⟨by rfl, ?_⟩) ?_ ?_
            rotate_left
            ·intro w'
             go_simp
             with_reducible rfl
            rotate_left
            ·simp only [Act.put, List.setIfInBounds_toArray, List.set_cons_zero, List.set_cons_succ, i64_w, i32_w]
             rfl
            refine pure_ (i := 12) (N := some 53) (v := ?_) (a' := ?_) #[true, true, false, true, true, false, true, true, false, true, true, false, true, false, false, false, false, false, false, false, false, false, false, false, false] rfl rfl (any_of HT_.out (by kernel_rfl)) (fun _ _ _ h => h) (Or.inl ⟨by rfl, ?_⟩) ?_ ?_
            rotate_left
            ·intro w'
             go_simp
             with_reducible rfl
            rotate_left
            ·simp only [Act.put, List.setIfInBounds_toArray, List.set_cons_zero, List.set_cons_succ, i64_w, i32_w]
             rfl
            refine pure_ (i := 13) (N := some 54) (v := ?_) (a' := ?_) #[true, true, false, true, true, false, true, true, false, true, true, false, true, true, false, false, false, false, false, false, false, false, false, false, false] rfl rfl (any_of HT_.out (by kernel_rfl)) (fun _ _ _ h => h) (Or.inl ⟨by rfl, ?_⟩) ?_ ?_
            rotate_left
            ·intro w'
             go_simp
             with_reducible rfl
            rotate_left
            ·simp only [Act.put, List.setIfInBounds_toArray, List.set_cons_zero, List.set_cons_succ, i64_w, i32_w]
             rfl
            refine take_ (i := 2) (N := some 43) (v := ?_) (a' := ?_) #[true, true, true, true, true, false, true, true, false, true, true, false, true, true, false, false, false, false, false, false, false, false, false, false, false] rfl rfl (take_ofW HT_.out HW_.out (by kernel_rfl)) (fun _ _ _ h => h) (Or.inl ⟨by rfl, ?_⟩) hHeld ?_ ?_
            rotate_left
            ·rintro w' ⟨s0, s1, s2, s3, s4⟩
             go_simp
             with_reducible rfl
            rotate_left
            ·simp only [Act.put, List.setIfInBounds_toArray, List.set_cons_zero, List.set_cons_succ, i64_w, i32_w]
             rfl
            refine pure_ (i := 15) (N := some 56) (v := ?_) (a' := ?_) #[true, true, true, true, true, false, true, true, false, true, true, false, true, true, false, true, false, false, false, false, false, false, false, false, false] rfl rfl (any_of HT_.out (by kernel_rfl)) (fun _ _ _ h => h) (Or.inl ⟨by rfl, ?_⟩) ?_ ?_
            rotate_left
            ·intro w'
             go_simp
             with_reducible rfl
            rotate_left
            ·simp only [Act.put, List.setIfInBounds_toArray, List.set_cons_zero, List.set_cons_succ, i64_w, i32_w]
             rfl
            refine take_ (i := 5) (N := some 46) (v := ?_) (a' := ?_) #[true, true, true, true, true, true, true, true, false, true, true, false, true, true, false, true, false, false, false, false, false, false, false, false, false] rfl rfl (take_ofW HT_.out HW_.out (by kernel_rfl)) (fun _ _ _ h => h) (Or.inl ⟨by rfl, ?_⟩) hHeld ?_ ?_
            rotate_left
            ·rintro w' ⟨s0, s1, s2, s3, s4⟩
             go_simp
             with_reducible rfl
            rotate_left
            ·simp only [Act.put, List.setIfInBounds_toArray, List.set_cons_zero, List.set_cons_succ, i64_w, i32_w]
             rfl
            refine take_ (i := 8) (N := some 49) (v := ?_) (a' := ?_) #[true, true, true, true, true, true, true, true, true, true, true, false, true, true, false, true, false, false, false, false, false, false, false, false, false] rfl rfl (take_ofW HT_.out HW_.out (by kernel_rfl)) (fun _ _ _ h => h) (Or.inl ⟨by rfl, ?_⟩) hHeld ?_ ?_
            rotate_left
            ·rintro w' ⟨s0, s1, s2, s3, s4⟩
             go_simp
             with_reducible rfl
            rotate_left
            ·simp only [Act.put, List.setIfInBounds_toArray, List.set_cons_zero, List.set_cons_succ, i64_w, i32_w]
             rfl
            refine take_ (i := 11) (N := some 52) (v := ?_) (a' := ?_) #[true, true, true, true, true, true, true, true, true, true, true, true, true, true, false, true, false, false, false, false, false, false, false, false, false] rfl rfl (take_ofW HT_.out HW_.out (by kernel_rfl)) (fun _ _ _ h => h) (Or.inl ⟨by rfl, ?_⟩) hHeld ?_ ?_
            rotate_left
            ·rintro w' ⟨s0, s1, s2, s3, s4⟩
             go_simp
             with_reducible rfl
            rotate_left
            ·simp only [Act.put, List.setIfInBounds_toArray, List.set_cons_zero, List.set_cons_succ, i64_w, i32_w]
             rfl
            refine take_ (i := 14) (N := some 55) (v := ?_) (a' := ?_) #[true, true, true, true, true, true, true, true, true, true, true, true, true, true, true, true, false, false, false, false, false, false, false, false, false] rfl rfl (take_ofW HT_.out HW_.out (by kernel_rfl)) (fun _ _ _ h => h) (Or.inl ⟨by rfl, ?_⟩) hHeld ?_ ?_
            rotate_left
            ·rintro w' ⟨s0, s1, s2, s3, s4⟩
             go_simp
             with_reducible rfl
            rotate_left
            ·simp only [Act.put, List.setIfInBounds_toArray, List.set_cons_zero, List.set_cons_succ, i64_w, i32_w]
             rfl
            refine one_ (i := 16) (N := none) #[true, true, true, true, true, true, true, true, true, true, true, true, true, true, true, true, true, false, false, false, false, false, false, false, false] rfl rfl (one_of HT_.out (by kernel_rfl)) (by decide) (fun K hK => ?_)
            have hs36 : w35.cell? ⟨gb257, 6, none⟩ = some (.int .i64 0) := (bC BK257.out 6).trans rfl
            have hfs36 := bF BK257.out 6
            have hns36_0 := NB244_257.out
            have hms36_0 := NB257_244.out
            refine skip_ (w1 := ?_) (by rfl) rfl ?_ ?_
            rotate_left
            ·go_simp
             rfl
            have hq_5 := Kd.own_blk (Kd.R_ne HO260.out BK257.out (by decide))
            refine hK.out _ _ ⟨((cell_far (p := ⟨gb257, _, none⟩) (by first | exact hq_5 | (rw [add_block]; exact hq_5) | (show (Addr.add _ _).block ≠ _; rw [add_block]; exact hq_5) | (dsimp only; exact hq_5)) _).trans (hHeld.1)), ((cell_far (p := ⟨gb257, _, none⟩) (by first | exact hq_5 | (rw [add_block]; exact hq_5) | (show (Addr.add _ _).block ≠ _; rw [add_block]; exact hq_5) | (dsimp only; exact hq_5)) _).trans (hHeld.2.1)), ((cell_far (p := ⟨gb257, _, none⟩) (by first | exact hq_5 | (rw [add_block]; exact hq_5) | (show (Addr.add _ _).block ≠ _; rw [add_block]; exact hq_5) | (dsimp only; exact hq_5)) _).trans (hHeld.2.2.1)), ((cell_far (p := ⟨gb257, _, none⟩) (by first | exact hq_5 | (rw [add_block]; exact hq_5) | (show (Addr.add _ _).block ≠ _; rw [add_block]; exact hq_5) | (dsimp only; exact hq_5)) _).trans (hHeld.2.2.2.1)), ((cell_far (p := ⟨gb257, _, none⟩) (by first | exact hq_5 | (rw [add_block]; exact hq_5) | (show (Addr.add _ _).block ≠ _; rw [add_block]; exact hq_5) | (dsimp only; exact hq_5)) _).trans (hHeld.2.2.2.2))⟩ (fun hHeld => ?_)
            clear hK K
            refine pure_ (i := 17) (N := some 57) (v := ?_) (a' := ?_) #[true, true, true, true, true, true, true, true, true, true, true, true, true, true, true, true, true, true, false, false, false, false, false, false, false] rfl rfl (any_of HT_.out (by kernel_rfl)) (fun _ _ _ h => h) (Or.inl ⟨by rfl, ?_⟩) ?_ ?_
            rotate_left
            ·intro w'
             go_simp
             with_reducible rfl
            rotate_left
            ·simp only [Act.put, List.setIfInBounds_toArray, List.set_cons_zero, List.set_cons_succ, i64_w, i32_w]
             rfl
            refine one_ (i := 18) (N := none) #[true, true, true, true, true, true, true, true, true, true, true, true, true, true, true, true, true, true, true, false, false, false, false, false, false] rfl rfl (one_of HT_.out (by kernel_rfl)) (by decide) (fun K hK => ?_)
            have hs37 : w35.cell? ⟨gb257, 7, none⟩ = some (.int .i64 0) := (bC BK257.out 7).trans rfl
            have hfs37 := bF BK257.out 7
            have hns37_0 := NB244_257.out
            have hms37_0 := NB257_244.out
            refine skip_ (w1 := ?_) (by rfl) rfl ?_ ?_
            rotate_left
            ·go_simp
             rfl
            have hq_6 := Kd.own_blk (Kd.R_ne HO260.out BK257.out (by decide))
            refine hK.out _ _ ⟨((cell_far (p := ⟨gb257, _, none⟩) (by first | exact hq_6 | (rw [add_block]; exact hq_6) | (show (Addr.add _ _).block ≠ _; rw [add_block]; exact hq_6) | (dsimp only; exact hq_6)) _).trans (hHeld.1)), ((cell_far (p := ⟨gb257, _, none⟩) (by first | exact hq_6 | (rw [add_block]; exact hq_6) | (show (Addr.add _ _).block ≠ _; rw [add_block]; exact hq_6) | (dsimp only; exact hq_6)) _).trans (hHeld.2.1)), ((cell_far (p := ⟨gb257, _, none⟩) (by first | exact hq_6 | (rw [add_block]; exact hq_6) | (show (Addr.add _ _).block ≠ _; rw [add_block]; exact hq_6) | (dsimp only; exact hq_6)) _).trans (hHeld.2.2.1)), ((cell_far (p := ⟨gb257, _, none⟩) (by first | exact hq_6 | (rw [add_block]; exact hq_6) | (show (Addr.add _ _).block ≠ _; rw [add_block]; exact hq_6) | (dsimp only; exact hq_6)) _).trans (hHeld.2.2.2.1)), ((cell_far (p := ⟨gb257, _, none⟩) (by first | exact hq_6 | (rw [add_block]; exact hq_6) | (show (Addr.add _ _).block ≠ _; rw [add_block]; exact hq_6) | (dsimp only; exact hq_6)) _).trans (hHeld.2.2.2.2))⟩ (fun hHeld => ?_)
            clear hK K
            refine pure_ (i := 19) (N := some 58) (v := ?_) (a' := ?_) #[true, true, true, true, true, true, true, true, true, true, true, true, true, true, true, true, true, true, true, true, false, false, false, false, false] rfl rfl (any_of HT_.out (by kernel_rfl)) (fun _ _ _ h => h) (Or.inl ⟨by rfl, ?_⟩) ?_ ?_
            rotate_left
            ·intro w'
             go_simp
             with_reducible rfl
            rotate_left
            ·simp only [Act.put, List.setIfInBounds_toArray, List.set_cons_zero, List.set_cons_succ, i64_w, i32_w]
             rfl
            refine one_ (i := 20) (N := none) #[true, true, true, true, true, true, true, true, true, true, true, true, true, true, true, true, true, true, true, true, true, false, false, false, false] rfl rfl (one_of HT_.out (by kernel_rfl)) (by decide) (fun K hK => ?_)
            have hs38 : w35.cell? ⟨gb257, 8, none⟩ = some (.int .i64 0) := (bC BK257.out 8).trans rfl
            have hfs38 := bF BK257.out 8
            have hns38_0 := NB244_257.out
            have hms38_0 := NB257_244.out
            refine skip_ (w1 := ?_) (by rfl) rfl ?_ ?_
            rotate_left
            ·go_simp
             rfl
            have hq_7 := Kd.own_blk (Kd.R_ne HO260.out BK257.out (by decide))
            refine hK.out _ _ ⟨((cell_far (p := ⟨gb257, _, none⟩) (by first | exact hq_7 | (rw [add_block]; exact hq_7) | (show (Addr.add _ _).block ≠ _; rw [add_block]; exact hq_7) | (dsimp only; exact hq_7)) _).trans (hHeld.1)), ((cell_far (p := ⟨gb257, _, none⟩) (by first | exact hq_7 | (rw [add_block]; exact hq_7) | (show (Addr.add _ _).block ≠ _; rw [add_block]; exact hq_7) | (dsimp only; exact hq_7)) _).trans (hHeld.2.1)), ((cell_far (p := ⟨gb257, _, none⟩) (by first | exact hq_7 | (rw [add_block]; exact hq_7) | (show (Addr.add _ _).block ≠ _; rw [add_block]; exact hq_7) | (dsimp only; exact hq_7)) _).trans (hHeld.2.2.1)), ((cell_far (p := ⟨gb257, _, none⟩) (by first | exact hq_7 | (rw [add_block]; exact hq_7) | (show (Addr.add _ _).block ≠ _; rw [add_block]; exact hq_7) | (dsimp only; exact hq_7)) _).trans (hHeld.2.2.2.1)), ((cell_far (p := ⟨gb257, _, none⟩) (by first | exact hq_7 | (rw [add_block]; exact hq_7) | (show (Addr.add _ _).block ≠ _; rw [add_block]; exact hq_7) | (dsimp only; exact hq_7)) _).trans (hHeld.2.2.2.2))⟩ (fun hHeld => ?_)
            clear hK K
            refine pure_ (i := 21) (N := some 59) (v := ?_) (a' := ?_) #[true, true, true, true, true, true, true, true, true, true, true, true, true, true, true, true, true, true, true, true, true, true, false, false, false] rfl rfl (any_of HT_.out (by kernel_rfl)) (fun _ _ _ h => h) (Or.inl ⟨by rfl, ?_⟩) ?_ ?_
            rotate_left
            ·intro w'
             go_simp
             with_reducible rfl
            rotate_left
            ·simp only [Act.put, List.setIfInBounds_toArray, List.set_cons_zero, List.set_cons_succ, i64_w, i32_w]
             rfl
            refine one_ (i := 22) (N := none) #[true, true, true, true, true, true, true, true, true, true, true, true, true, true, true, true, true, true, true, true, true, true, true, false, false] rfl rfl (one_of HT_.out (by kernel_rfl)) (by decide) (fun K hK => ?_)
            have hs39 : w35.cell? ⟨gb257, 9, none⟩ = some (.int .i64 0) := (bC BK257.out 9).trans rfl
            have hfs39 := bF BK257.out 9
            have hns39_0 := NB244_257.out
            have hms39_0 := NB257_244.out
            refine skip_ (w1 := ?_) (by rfl) rfl ?_ ?_
            rotate_left
            ·go_simp
             rfl
            have hq_8 := Kd.own_blk (Kd.R_ne HO260.out BK257.out (by decide))
            refine hK.out _ _ ⟨((cell_far (p := ⟨gb257, _, none⟩) (by first | exact hq_8 | (rw [add_block]; exact hq_8) | (show (Addr.add _ _).block ≠ _; rw [add_block]; exact hq_8) | (dsimp only; exact hq_8)) _).trans (hHeld.1)), ((cell_far (p := ⟨gb257, _, none⟩) (by first | exact hq_8 | (rw [add_block]; exact hq_8) | (show (Addr.add _ _).block ≠ _; rw [add_block]; exact hq_8) | (dsimp only; exact hq_8)) _).trans (hHeld.2.1)), ((cell_far (p := ⟨gb257, _, none⟩) (by first | exact hq_8 | (rw [add_block]; exact hq_8) | (show (Addr.add _ _).block ≠ _; rw [add_block]; exact hq_8) | (dsimp only; exact hq_8)) _).trans (hHeld.2.2.1)), ((cell_far (p := ⟨gb257, _, none⟩) (by first | exact hq_8 | (rw [add_block]; exact hq_8) | (show (Addr.add _ _).block ≠ _; rw [add_block]; exact hq_8) | (dsimp only; exact hq_8)) _).trans (hHeld.2.2.2.1)), ((cell_far (p := ⟨gb257, _, none⟩) (by first | exact hq_8 | (rw [add_block]; exact hq_8) | (show (Addr.add _ _).block ≠ _; rw [add_block]; exact hq_8) | (dsimp only; exact hq_8)) _).trans (hHeld.2.2.2.2))⟩ (fun hHeld => ?_)
            clear hK K
            refine pure_ (i := 23) (N := some 60) (v := ?_) (a' := ?_) #[true, true, true, true, true, true, true, true, true, true, true, true, true, true, true, true, true, true, true, true, true, true, true, true, false] rfl rfl (any_of HT_.out (by kernel_rfl)) (fun _ _ _ h => h) (Or.inl ⟨by rfl, ?_⟩) ?_ ?_
            rotate_left
            ·intro w'
             go_simp
             with_reducible rfl
            rotate_left
            ·simp only [Act.put, List.setIfInBounds_toArray, List.set_cons_zero, List.set_cons_succ, i64_w, i32_w]
             rfl
            refine one_ (i := 24) (N := none) #[true, true, true, true, true, true, true, true, true, true, true, true, true, true, true, true, true, true, true, true, true, true, true, true, true] rfl rfl (one_of HT_.out (by kernel_rfl)) (by decide) (fun K hK => ?_)
            have hs40 : w35.cell? ⟨gb257, 10, none⟩ = some (.int .i64 0) := (bC BK257.out 10).trans rfl
            have hfs40 := bF BK257.out 10
            have hns40_0 := NB244_257.out
            have hms40_0 := NB257_244.out
            refine skip_ (w1 := ?_) (by rfl) rfl ?_ ?_
            rotate_left
            ·go_simp
             rfl
            have hq_9 := Kd.own_blk (Kd.R_ne HO260.out BK257.out (by decide))
            refine hK.out _ _ ⟨((cell_far (p := ⟨gb257, _, none⟩) (by first | exact hq_9 | (rw [add_block]; exact hq_9) | (show (Addr.add _ _).block ≠ _; rw [add_block]; exact hq_9) | (dsimp only; exact hq_9)) _).trans (hHeld.1)), ((cell_far (p := ⟨gb257, _, none⟩) (by first | exact hq_9 | (rw [add_block]; exact hq_9) | (show (Addr.add _ _).block ≠ _; rw [add_block]; exact hq_9) | (dsimp only; exact hq_9)) _).trans (hHeld.2.1)), ((cell_far (p := ⟨gb257, _, none⟩) (by first | exact hq_9 | (rw [add_block]; exact hq_9) | (show (Addr.add _ _).block ≠ _; rw [add_block]; exact hq_9) | (dsimp only; exact hq_9)) _).trans (hHeld.2.2.1)), ((cell_far (p := ⟨gb257, _, none⟩) (by first | exact hq_9 | (rw [add_block]; exact hq_9) | (show (Addr.add _ _).block ≠ _; rw [add_block]; exact hq_9) | (dsimp only; exact hq_9)) _).trans (hHeld.2.2.2.1)), ((cell_far (p := ⟨gb257, _, none⟩) (by first | exact hq_9 | (rw [add_block]; exact hq_9) | (show (Addr.add _ _).block ≠ _; rw [add_block]; exact hq_9) | (dsimp only; exact hq_9)) _).trans (hHeld.2.2.2.2))⟩ (fun hHeld => ?_)
            clear hK K
            refine done_ (done_of HT_.out (by kernel_rfl)) ?_
            have hcz41 := blk_all BK257.out
            simp only [CellsAt, List.toList_toArray, Nat.reduceAdd, and_true] at hcz41
            have hfz41 := bF BK257.out
            have hnb42 := NB244_248.out
            have hnc42 := NB248_244.out
            have hcz43 := blk_all BK244.out
            simp only [CellsAt, List.toList_toArray, Nat.reduceAdd, and_true] at hcz43
            have hfz43 := bF BK244.out
            try go_wp2
            refine bodyPost_ret (results_ct rfl _ _ gb244 23 #[.string t249, .string t253, .int .i64 (rd t258 0), .int .i64 (rd t258 1), .int .i64 (rd t258 2), .int .i64 (rd t258 3), .int .i64 (rd t258 4), .int .i64 (rd t258 5), .int .i64 (rd t258 6), .int .i64 (rd t258 7), .int .i64 (rd t258 8)] (0, 0) _ rfl (by (with_reducible repeat (first | refine bN ?_ _ | refine bW ?_ | refine bA ?_ _)); refine blk_put (cs := #[.string t249, .string t253, .int .i64 (rd t258 0), .int .i64 (rd t258 1), .int .i64 (rd t258 2), .int .i64 (rd t258 3), .int .i64 (rd t258 4), .int .i64 (rd t258 5), .int .i64 (rd t258 6), .int .i64 (rd t258 7), .int .i64 0]) ?_ 10 _ rfl; (with_reducible repeat (first | refine bN ?_ _ | refine bW ?_ | refine bA ?_ _)); refine blk_put (cs := #[.string t249, .string t253, .int .i64 (rd t258 0), .int .i64 (rd t258 1), .int .i64 (rd t258 2), .int .i64 (rd t258 3), .int .i64 (rd t258 4), .int .i64 (rd t258 5), .int .i64 (rd t258 6), .int .i64 0, .int .i64 0]) ?_ 9 _ rfl; (with_reducible repeat (first | refine bN ?_ _ | refine bW ?_ | refine bA ?_ _)); refine blk_put (cs := #[.string t249, .string t253, .int .i64 (rd t258 0), .int .i64 (rd t258 1), .int .i64 (rd t258 2), .int .i64 (rd t258 3), .int .i64 (rd t258 4), .int .i64 (rd t258 5), .int .i64 0, .int .i64 0, .int .i64 0]) ?_ 8 _ rfl; (with_reducible repeat (first | refine bN ?_ _ | refine bW ?_ | refine bA ?_ _)); refine blk_put (cs := #[.string t249, .string t253, .int .i64 (rd t258 0), .int .i64 (rd t258 1), .int .i64 (rd t258 2), .int .i64 (rd t258 3), .int .i64 (rd t258 4), .int .i64 0, .int .i64 0, .int .i64 0, .int .i64 0]) ?_ 7 _ rfl; (with_reducible repeat (first | refine bN ?_ _ | refine bW ?_ | refine bA ?_ _)); refine blk_put (cs := #[.string t249, .string t253, .int .i64 (rd t258 0), .int .i64 (rd t258 1), .int .i64 (rd t258 2), .int .i64 (rd t258 3), .int .i64 0, .int .i64 0, .int .i64 0, .int .i64 0, .int .i64 0]) ?_ 6 _ rfl; (with_reducible repeat (first | refine bN ?_ _ | refine bW ?_ | refine bA ?_ _)); refine blk_put (cs := #[.string t249, .string t253, .int .i64 (rd t258 0), .int .i64 (rd t258 1), .int .i64 (rd t258 2), .int .i64 0, .int .i64 0, .int .i64 0, .int .i64 0, .int .i64 0, .int .i64 0]) ?_ 5 _ rfl; (with_reducible repeat (first | refine bN ?_ _ | refine bW ?_ | refine bA ?_ _)); refine blk_put (cs := #[.string t249, .string t253, .int .i64 (rd t258 0), .int .i64 (rd t258 1), .int .i64 0, .int .i64 0, .int .i64 0, .int .i64 0, .int .i64 0, .int .i64 0, .int .i64 0]) ?_ 4 _ rfl; (with_reducible repeat (first | refine bN ?_ _ | refine bW ?_ | refine bA ?_ _)); refine blk_put (cs := #[.string t249, .string t253, .int .i64 (rd t258 0), .int .i64 0, .int .i64 0, .int .i64 0, .int .i64 0, .int .i64 0, .int .i64 0, .int .i64 0, .int .i64 0]) ?_ 3 _ rfl; (with_reducible repeat (first | refine bN ?_ _ | refine bW ?_ | refine bA ?_ _)); refine blk_put (cs := #[.string t249, .string t253, .int .i64 0, .int .i64 0, .int .i64 0, .int .i64 0, .int .i64 0, .int .i64 0, .int .i64 0, .int .i64 0, .int .i64 0]) ?_ 2 _ rfl; (with_reducible repeat (first | refine bN ?_ _ | refine bW ?_ | refine bA ?_ _)); refine blk_put (cs := #[.string t249, .string (⟨#[]⟩ : ByteArray), .int .i64 0, .int .i64 0, .int .i64 0, .int .i64 0, .int .i64 0, .int .i64 0, .int .i64 0, .int .i64 0, .int .i64 0]) ?_ 1 _ rfl; (with_reducible repeat (first | refine bN ?_ _ | refine bW ?_ | refine bA ?_ _)); refine blk_put (cs := #[.string (⟨#[]⟩ : ByteArray), .string (⟨#[]⟩ : ByteArray), .int .i64 0, .int .i64 0, .int .i64 0, .int .i64 0, .int .i64 0, .int .i64 0, .int .i64 0, .int .i64 0, .int .i64 0]) ?_ 0 _ rfl; (with_reducible repeat (first | refine bN ?_ _ | refine bW ?_ | refine bA ?_ _)); refine blk_far ?_ NB244_257.out _; (with_reducible repeat (first | refine bN ?_ _ | refine bW ?_ | refine bA ?_ _)); refine blk_far ?_ NB244_257.out _; (with_reducible repeat (first | refine bN ?_ _ | refine bW ?_ | refine bA ?_ _)); refine blk_far ?_ NB244_257.out _; (with_reducible repeat (first | refine bN ?_ _ | refine bW ?_ | refine bA ?_ _)); refine blk_far ?_ NB244_257.out _; (with_reducible repeat (first | refine bN ?_ _ | refine bW ?_ | refine bA ?_ _)); refine blk_far ?_ NB244_257.out _; (with_reducible repeat (first | refine bN ?_ _ | refine bW ?_ | refine bA ?_ _)); exact BK244.out) Tryd.underlying23 rfl (by kernel_rfl)) rfl ?_
            exact ⟨by first | rfl | (simp [*] <;> rfl), by repeat (first | (with_reducible first | exact HB.out | apply pA | apply pN | apply pd_ | refine pS ?_ (IsS104.ge HI248.out) | refine pS ?_ GE244.out | refine pS ?_ GE257.out) | exact HB.out)⟩
           ·rw [if_neg c17] at H
            exact absurd H (by simp)
          ·rw [if_neg c16] at H
           exact absurd H (by simp)
         ·rw [if_neg c15] at H
          exact absurd H (by simp)
        ·rw [if_neg c14] at H
         exact absurd H (by simp)
       ·rw [if_neg c13] at H
        exact absurd H (by simp)
      ·rw [if_neg c12] at H
       exact absurd H (by simp)
     ·rw [if_neg c11] at H
      exact absurd H (by simp)
    ·rw [if_neg c10] at H
     exact absurd H (by simp)
   ·rw [if_neg c9] at H
    exact absurd H (by simp)
  ·rw [if_neg c8] at H
   have c8b0 : ((t258.length : Int) == 9) = false := oC c8
   have c8b1 : ((t258.length : Int) != 9) = true := bne_iff_ne.mpr c8
   simp only [Option.some.injEq, Prod.mk.injEq] at H
   obtain ⟨rfl, rfl, rfl, rfl, rfl, rfl, rfl, rfl, rfl, rfl, rfl, rfl⟩ := H
   go_enter Tryd.func24, Tryd.ntmps24
   go_wp2_with (first | (refine wpList_load_cells (by rfl) 23 _ (by exact rfl) ⟨gb244, 0, none⟩ (by rfl) _ _ (cells_of_blk (by (with_reducible repeat (first | refine bN ?_ _ | refine bW ?_ | refine bA ?_ _)); exact BK244.out)) Tryd.underlying23 rfl (by kernel_rfl) ?_) | (refine wpList_load_cells (by rfl) 23 _ (by exact rfl) ⟨gb257, 0, none⟩ (by rfl) _ _ (cells_of_blk (by (with_reducible repeat (first | refine bN ?_ _ | refine bW ?_ | refine bA ?_ _)); exact BK257.out)) Tryd.underlying23 rfl (by kernel_rfl) ?_) | ((with_reducible refine gate_dst (N := 2) rfl ?_); (try (refine gate_guard (by rfl) ?_; dsimp only)); refine box_event ?hg (N := 2) ?hd (cs := #[.string (⟨#[]⟩ : ByteArray), .string (⟨#[]⟩ : ByteArray), .int .i64 0, .int .i64 0, .int .i64 0, .int .i64 0, .int .i64 0, .int .i64 0, .int .i64 0, .int .i64 0, .int .i64 0]) (t := 23) ?hr ?_; (case hd => rfl); (case hg => rfl); (case hr => first | (go_simp; done) | (go_simp; rfl)); intro gb244 hg w44 hbox hb; have n0_ := q_ (pT (by repeat (first | (with_reducible first | exact HB.out | apply pA | apply pN | apply pd_) | exact HB.out)) hb); have n1_ := q_ (hbox); have n2_ := q_ ((by rw [hg]; exact (pZ (by repeat (first | (with_reducible first | exact HB.out | apply pA | apply pN | apply pd_) | exact HB.out))) : w.heap.size ≤ gb244)); have n3_ := n2_; clear HB; have HB := n0_; have BK244 := n1_; have GW244 := n2_; have GE244 := n3_; clear n0_ n1_ n2_ n3_; clear hb hbox hg) | ((with_reducible refine gate_callee (f := 51) rfl ?_); refine goesL_ (some 8) rfl rfl Tryd.func51 (by kernel_rfl) rfl #[.string a0] rfl (by first | rfl | (simp only [List.map_toArray]; rfl)) ?_; (with_reducible refine (wire_NewReader.calls a0 t245 t246 t247 w _ ?side1 A2.out).mono ?_); (case side1 => repeat (first | (with_reducible first | exact HB.out | apply pA | apply pN | apply pd_ | refine pS ?_ GE244.out) | exact HB.out)); rintro e w45 ⟨g248, rfl, hi, hb, hb2⟩; refine ⟨_, rfl, ?_⟩; have n0_ := q_ (bB (g := gb244) (by (with_reducible repeat (first | refine bN ?_ _ | refine bW ?_ | refine bA ?_ _)); exact BK244.out) hb2); have n1_ := q_ (hb); have n2_ := q_ (hi); have n3_ := q_ (IsS104.ne_blk hi (bB (g := gb244) (by (with_reducible repeat (first | refine bN ?_ _ | refine bW ?_ | refine bA ?_ _)); exact BK244.out) hb2) (by decide)); have n4_ := q_ (Ne.symm (IsS104.ne_blk hi (bB (g := gb244) (by (with_reducible repeat (first | refine bN ?_ _ | refine bW ?_ | refine bA ?_ _)); exact BK244.out) hb2) (by decide))); clear BK244; clear HB; have BK244 := n0_; have HB := n1_; have HI248 := n2_; have NB248_244 := n3_; have NB244_248 := n4_; clear n0_ n1_ n2_ n3_ n4_; (try clear hb); (try clear hb2); (try clear hk); (try clear hi)) | ((with_reducible refine gate_callee (f := 52) rfl ?_); refine goesL_ (some 10) rfl rfl Tryd.func52 (by kernel_rfl) rfl #[.pointer (some ⟨g248, 0, none⟩), .int .i64 16] rfl (by first | rfl | (simp only [List.map_toArray]; rfl)) ?_; (with_reducible refine (wire_Reader_Text.calls k g248 t245 t246 t247 16 t249 t250 t251 t252 w _ ?side1 ?side2 A3.out).mono ?_); (case side1 => repeat (first | (with_reducible first | exact HI248.out | apply IsS104.alloc | apply IsS104.drewN | apply IsS104.drew | apply IsS104.set_0 | apply IsS104.set_1 | apply IsS104.set_2 | refine IsS104.far ?_ NB248_244.out _) | exact HI248.out)); (case side2 => repeat (first | (with_reducible first | exact HB.out | apply pA | apply pN | apply pd_ | refine pS ?_ (IsS104.ge HI248.out) | refine pS ?_ GE244.out) | exact HB.out)); rintro e w46 ⟨rfl, hi, hb, hk⟩; refine ⟨_, rfl, ?_⟩; have n0_ := q_ (KeepBut.blk hk (g' := gb244) (by (with_reducible repeat (first | refine bN ?_ _ | refine bW ?_ | refine bA ?_ _)); exact BK244.out) NB244_248.out (by simp)); have n1_ := q_ (hb); have n2_ := q_ (hi); clear BK244; clear HB; clear HI248; have BK244 := n0_; have HB := n1_; have HI248 := n2_; clear n0_ n1_ n2_; (try clear hb); (try clear hb2); (try clear hk); (try clear hi)) | ((with_reducible refine gate_callee (f := 52) rfl ?_); refine goesL_ (some 12) rfl rfl Tryd.func52 (by kernel_rfl) rfl #[.pointer (some ⟨g248, 0, none⟩), .int .i64 16] rfl (by first | rfl | (simp only [List.map_toArray]; rfl)) ?_; (with_reducible refine (wire_Reader_Text.calls k g248 t250 t251 t252 16 t253 t254 t255 t256 w _ ?side1 ?side2 A4.out).mono ?_); (case side1 => repeat (first | (with_reducible first | exact HI248.out | apply IsS104.alloc | apply IsS104.drewN | apply IsS104.drew | apply IsS104.set_0 | apply IsS104.set_1 | apply IsS104.set_2 | refine IsS104.far ?_ NB248_244.out _) | exact HI248.out)); (case side2 => repeat (first | (with_reducible first | exact HB.out | apply pA | apply pN | apply pd_ | refine pS ?_ (IsS104.ge HI248.out) | refine pS ?_ GE244.out) | exact HB.out)); rintro e w47 ⟨rfl, hi, hb, hk⟩; refine ⟨_, rfl, ?_⟩; have n0_ := q_ (KeepBut.blk hk (g' := gb244) (by (with_reducible repeat (first | refine bN ?_ _ | refine bW ?_ | refine bA ?_ _)); exact BK244.out) NB244_248.out (by simp)); have n1_ := q_ (hb); have n2_ := q_ (hi); clear BK244; clear HB; clear HI248; have BK244 := n0_; have HB := n1_; have HI248 := n2_; clear n0_ n1_ n2_; (try clear hb); (try clear hb2); (try clear hk); (try clear hi)) | ((with_reducible refine gate_dst (N := 5) rfl ?_); (try (refine gate_guard (by rfl) ?_; dsimp only)); refine box_event ?hg (N := 5) ?hd (cs := #[.string (⟨#[]⟩ : ByteArray), .string (⟨#[]⟩ : ByteArray), .int .i64 0, .int .i64 0, .int .i64 0, .int .i64 0, .int .i64 0, .int .i64 0, .int .i64 0, .int .i64 0, .int .i64 0]) (t := 23) ?hr ?_; (case hd => rfl); (case hg => rfl); (case hr => first | (go_simp; done) | (go_simp; rfl)); intro gb257 hg w48 hbox hb; have n0_ := q_ (bB (g := gb244) (by (with_reducible repeat (first | refine bN ?_ _ | refine bW ?_ | refine bA ?_ _)); exact BK244.out) hb); have n1_ := q_ (IsS104.below (by repeat (first | (with_reducible first | exact HI248.out | apply IsS104.alloc | apply IsS104.drewN | apply IsS104.drew | apply IsS104.set_0 | apply IsS104.set_1 | apply IsS104.set_2 | refine IsS104.far ?_ NB248_244.out _) | exact HI248.out)) hb); have n2_ := q_ (pT (by repeat (first | (with_reducible first | exact HB.out | apply pA | apply pN | apply pd_ | refine pS ?_ (IsS104.ge HI248.out) | refine pS ?_ GE244.out) | exact HB.out)) hb); have n3_ := q_ (hbox); have n4_ := q_ ((by rw [hg]; exact (pZ (by repeat (first | (with_reducible first | exact HB.out | apply pA | apply pN | apply pd_ | refine pS ?_ (IsS104.ge HI248.out) | refine pS ?_ GE244.out) | exact HB.out))) : w.heap.size ≤ gb257)); have n5_ := n4_; have n6_ := q_ ((by rw [hg]; exact Nat.ne_of_lt (blk_lt (g := gb244) (by (with_reducible repeat (first | refine bN ?_ _ | refine bW ?_ | refine bA ?_ _)); exact BK244.out)) : gb244 ≠ gb257)); have n7_ := q_ ((by rw [hg]; exact Nat.ne_of_gt (blk_lt (g := gb244) (by (with_reducible repeat (first | refine bN ?_ _ | refine bW ?_ | refine bA ?_ _)); exact BK244.out)) : gb257 ≠ gb244)); have n8_ := q_ ((by rw [hg]; exact Nat.ne_of_lt (IsS104.lt (show IsS104 w _ g248 t254 t255 t256 from by repeat (first | (with_reducible first | exact HI248.out | apply IsS104.alloc | apply IsS104.drewN | apply IsS104.drew | apply IsS104.set_0 | apply IsS104.set_1 | apply IsS104.set_2 | refine IsS104.far ?_ NB248_244.out _) | exact HI248.out))) : g248 ≠ gb257)); have n9_ := q_ ((by rw [hg]; exact Nat.ne_of_gt (IsS104.lt (show IsS104 w _ g248 t254 t255 t256 from by repeat (first | (with_reducible first | exact HI248.out | apply IsS104.alloc | apply IsS104.drewN | apply IsS104.drew | apply IsS104.set_0 | apply IsS104.set_1 | apply IsS104.set_2 | refine IsS104.far ?_ NB248_244.out _) | exact HI248.out))) : gb257 ≠ g248)); clear BK244; clear HI248; clear HB; have BK244 := n0_; have HI248 := n1_; have HB := n2_; have BK257 := n3_; have GW257 := n4_; have GE257 := n5_; have NB244_257 := n6_; have NB257_244 := n7_; have NB248_257 := n8_; have NB257_248 := n9_; clear n0_ n1_ n2_ n3_ n4_ n5_ n6_ n7_ n8_ n9_; clear hb hbox hg; have hnb49 := NB257_244.out; have hnc49 := NB244_257.out; have hnb50 := NB257_248.out; have hnc50 := NB248_257.out; have hcz51 := blk_all BK257.out; simp only [CellsAt, List.toList_toArray, Nat.reduceAdd, and_true] at hcz51; have hfz51 := bF BK257.out) | ((with_reducible refine gate_callee (f := 53) rfl ?_); refine goesL_ (some 15) rfl rfl Tryd.func53 (by kernel_rfl) rfl #[.pointer (some ⟨g248, 0, none⟩), .int .i64 9, .int .i64 (-1099511627776), .int .i64 1099511627776] rfl (by first | rfl | (simp only [List.map_toArray]; rfl)) ?_; (with_reducible refine (wire_Reader_Ints.calls k g248 t254 t255 t256 9 (-1099511627776) 1099511627776 t258 t261 t262 t263 w _ ?side1 ?side2 A5.out).mono ?_); (case side1 => repeat (first | (with_reducible first | exact HI248.out | apply IsS104.alloc | apply IsS104.drewN | apply IsS104.drew | apply IsS104.set_0 | apply IsS104.set_1 | apply IsS104.set_2 | refine IsS104.far ?_ NB248_244.out _ | refine IsS104.far ?_ NB248_257.out _) | exact HI248.out)); (case side2 => repeat (first | (with_reducible first | exact HB.out | apply pA | apply pN | apply pd_ | refine pS ?_ (IsS104.ge HI248.out) | refine pS ?_ GE244.out | refine pS ?_ GE257.out) | exact HB.out)); rintro e w52 ⟨v259, rfl, ho0, hi, hb, hk⟩; refine ⟨_, rfl, ?_⟩; have n0_ := q_ (KeepBut.blk hk (g' := gb244) (o := .cells #[.string (⟨#[]⟩ : ByteArray), .string (⟨#[]⟩ : ByteArray), .int .i64 0, .int .i64 0, .int .i64 0, .int .i64 0, .int .i64 0, .int .i64 0, .int .i64 0, .int .i64 0, .int .i64 0] 23 (0, 0)) (by (with_reducible repeat (first | refine bN ?_ _ | refine bW ?_ | refine bA ?_ _)); refine blk_far ?_ NB244_257.out _; (with_reducible repeat (first | refine bN ?_ _ | refine bW ?_ | refine bA ?_ _)); refine blk_far ?_ NB244_257.out _; (with_reducible repeat (first | refine bN ?_ _ | refine bW ?_ | refine bA ?_ _)); refine blk_far ?_ NB244_257.out _; (with_reducible repeat (first | refine bN ?_ _ | refine bW ?_ | refine bA ?_ _)); refine blk_far ?_ NB244_257.out _; (with_reducible repeat (first | refine bN ?_ _ | refine bW ?_ | refine bA ?_ _)); refine blk_far ?_ NB244_257.out _; (with_reducible repeat (first | refine bN ?_ _ | refine bW ?_ | refine bA ?_ _)); refine blk_far ?_ NB244_257.out _; (with_reducible repeat (first | refine bN ?_ _ | refine bW ?_ | refine bA ?_ _)); refine blk_far ?_ NB244_257.out _; (with_reducible repeat (first | refine bN ?_ _ | refine bW ?_ | refine bA ?_ _)); refine blk_far ?_ NB244_257.out _; (with_reducible repeat (first | refine bN ?_ _ | refine bW ?_ | refine bA ?_ _)); refine blk_far ?_ NB244_257.out _; (with_reducible repeat (first | refine bN ?_ _ | refine bW ?_ | refine bA ?_ _)); refine blk_far ?_ NB244_257.out _; (with_reducible repeat (first | refine bN ?_ _ | refine bW ?_ | refine bA ?_ _)); refine blk_far ?_ NB244_257.out _; (with_reducible repeat (first | refine bN ?_ _ | refine bW ?_ | refine bA ?_ _)); exact BK244.out) NB244_248.out (by simp)); have n1_ := q_ (KeepBut.blk hk (g' := gb257) (o := .cells #[.string t249, .string t253, .int .i64 0, .int .i64 0, .int .i64 0, .int .i64 0, .int .i64 0, .int .i64 0, .int .i64 0, .int .i64 0, .int .i64 0] 23 (0, 0)) (by (with_reducible repeat (first | refine bN ?_ _ | refine bW ?_ | refine bA ?_ _)); refine blk_put (cs := #[.string t249, .string t253, .int .i64 0, .int .i64 0, .int .i64 0, .int .i64 0, .int .i64 0, .int .i64 0, .int .i64 0, .int .i64 0, .int .i64 0]) ?_ 10 _ rfl; (with_reducible repeat (first | refine bN ?_ _ | refine bW ?_ | refine bA ?_ _)); refine blk_put (cs := #[.string t249, .string t253, .int .i64 0, .int .i64 0, .int .i64 0, .int .i64 0, .int .i64 0, .int .i64 0, .int .i64 0, .int .i64 0, .int .i64 0]) ?_ 9 _ rfl; (with_reducible repeat (first | refine bN ?_ _ | refine bW ?_ | refine bA ?_ _)); refine blk_put (cs := #[.string t249, .string t253, .int .i64 0, .int .i64 0, .int .i64 0, .int .i64 0, .int .i64 0, .int .i64 0, .int .i64 0, .int .i64 0, .int .i64 0]) ?_ 8 _ rfl; (with_reducible repeat (first | refine bN ?_ _ | refine bW ?_ | refine bA ?_ _)); refine blk_put (cs := #[.string t249, .string t253, .int .i64 0, .int .i64 0, .int .i64 0, .int .i64 0, .int .i64 0, .int .i64 0, .int .i64 0, .int .i64 0, .int .i64 0]) ?_ 7 _ rfl; (with_reducible repeat (first | refine bN ?_ _ | refine bW ?_ | refine bA ?_ _)); refine blk_put (cs := #[.string t249, .string t253, .int .i64 0, .int .i64 0, .int .i64 0, .int .i64 0, .int .i64 0, .int .i64 0, .int .i64 0, .int .i64 0, .int .i64 0]) ?_ 6 _ rfl; (with_reducible repeat (first | refine bN ?_ _ | refine bW ?_ | refine bA ?_ _)); refine blk_put (cs := #[.string t249, .string t253, .int .i64 0, .int .i64 0, .int .i64 0, .int .i64 0, .int .i64 0, .int .i64 0, .int .i64 0, .int .i64 0, .int .i64 0]) ?_ 5 _ rfl; (with_reducible repeat (first | refine bN ?_ _ | refine bW ?_ | refine bA ?_ _)); refine blk_put (cs := #[.string t249, .string t253, .int .i64 0, .int .i64 0, .int .i64 0, .int .i64 0, .int .i64 0, .int .i64 0, .int .i64 0, .int .i64 0, .int .i64 0]) ?_ 4 _ rfl; (with_reducible repeat (first | refine bN ?_ _ | refine bW ?_ | refine bA ?_ _)); refine blk_put (cs := #[.string t249, .string t253, .int .i64 0, .int .i64 0, .int .i64 0, .int .i64 0, .int .i64 0, .int .i64 0, .int .i64 0, .int .i64 0, .int .i64 0]) ?_ 3 _ rfl; (with_reducible repeat (first | refine bN ?_ _ | refine bW ?_ | refine bA ?_ _)); refine blk_put (cs := #[.string t249, .string t253, .int .i64 0, .int .i64 0, .int .i64 0, .int .i64 0, .int .i64 0, .int .i64 0, .int .i64 0, .int .i64 0, .int .i64 0]) ?_ 2 _ rfl; (with_reducible repeat (first | refine bN ?_ _ | refine bW ?_ | refine bA ?_ _)); refine blk_put (cs := #[.string t249, .string (⟨#[]⟩ : ByteArray), .int .i64 0, .int .i64 0, .int .i64 0, .int .i64 0, .int .i64 0, .int .i64 0, .int .i64 0, .int .i64 0, .int .i64 0]) ?_ 1 _ rfl; (with_reducible repeat (first | refine bN ?_ _ | refine bW ?_ | refine bA ?_ _)); refine blk_put (cs := #[.string (⟨#[]⟩ : ByteArray), .string (⟨#[]⟩ : ByteArray), .int .i64 0, .int .i64 0, .int .i64 0, .int .i64 0, .int .i64 0, .int .i64 0, .int .i64 0, .int .i64 0, .int .i64 0]) ?_ 0 _ rfl; (with_reducible repeat (first | refine bN ?_ _ | refine bW ?_ | refine bA ?_ _)); exact BK257.out) NB257_248.out (by simp)); have n2_ := q_ (Kd.R_lower ho0 (pZ (by repeat (first | (with_reducible first | exact HB.out | apply pA | apply pN | apply pd_ | refine pS ?_ (IsS104.ge HI248.out) | refine pS ?_ GE244.out | refine pS ?_ GE257.out) | exact HB.out)))); have n3_ := q_ (hb); have n4_ := q_ (hi); clear BK244; clear BK257; clear HB; clear HI248; have BK244 := n0_; have BK257 := n1_; have HO260 := n2_; have HB := n3_; have HI248 := n4_; clear n0_ n1_ n2_ n3_ n4_; (try clear hb); (try clear hb2); (try clear hk); (try clear hi); (try clear ho0)) | ((with_reducible refine gate_callee (f := 54) rfl ?_); refine goesL_ (some 17) rfl rfl Tryd.func54 (by kernel_rfl) rfl #[.pointer (some ⟨g248, 0, none⟩)] rfl (by first | rfl | (simp only [List.map_toArray]; rfl)) ?_; (with_reducible refine (wire_Reader_End.calls g248 t261 t262 t263 t264 t265 t266 t267 w _ ?side1 ?side2 A6.out).mono ?_); (case side1 => repeat (first | (with_reducible first | exact HI248.out | apply IsS104.alloc | apply IsS104.drewN | apply IsS104.drew | apply IsS104.set_0 | apply IsS104.set_1 | apply IsS104.set_2 | refine IsS104.far ?_ NB248_244.out _ | refine IsS104.far ?_ NB248_257.out _) | exact HI248.out)); (case side2 => repeat (first | (with_reducible first | exact HB.out | apply pA | apply pN | apply pd_ | refine pS ?_ (IsS104.ge HI248.out) | refine pS ?_ GE244.out | refine pS ?_ GE257.out) | exact HB.out)); rintro e w53 ⟨rfl, hi, hb, hk⟩; refine ⟨_, rfl, ?_⟩; have n0_ := q_ (KeepBut.blk hk (g' := gb244) (by (with_reducible repeat (first | refine bN ?_ _ | refine bW ?_ | refine bA ?_ _)); exact BK244.out) NB244_248.out (by simp)); have n1_ := q_ (KeepBut.blk hk (g' := gb257) (by (with_reducible repeat (first | refine bN ?_ _ | refine bW ?_ | refine bA ?_ _)); exact BK257.out) NB257_248.out (by simp)); have n2_ := q_ (Kd.R_mono (Kd.R_keep (IsS104.apart (show IsS104 w _ g248 t261 t262 t263 from by repeat (first | (with_reducible first | exact HI248.out | apply IsS104.alloc | apply IsS104.drewN | apply IsS104.drew | apply IsS104.set_0 | apply IsS104.set_1 | apply IsS104.set_2 | refine IsS104.far ?_ NB248_244.out _ | refine IsS104.far ?_ NB248_257.out _) | exact HI248.out)) (by (with_reducible repeat (first | apply Kd.R_alloc | apply Kd.R_drewN | apply Kd.R_drew)); exact HO260.out) (by decide)) hk (fun _ h => h.2)) (fun _ h => h.1)); have n3_ := q_ (hb); have n4_ := q_ (hi); clear BK244; clear BK257; clear HO260; clear HB; clear HI248; have BK244 := n0_; have BK257 := n1_; have HO260 := n2_; have HB := n3_; have HI248 := n4_; clear n0_ n1_ n2_ n3_ n4_; (try clear hb); (try clear hb2); (try clear hk); (try clear hi); obtain ⟨Ao54, co54, eo54⟩ := Kd.R_slice HO260.out; subst eo54; have hnb55 := NB244_248.out; have hnc55 := NB248_244.out; have hcz56 := blk_all BK244.out; simp only [CellsAt, List.toList_toArray, Nat.reduceAdd, and_true] at hcz56; have hfz56 := bF BK244.out))
   refine bodyPost_ret (results_ct rfl _ _ gb244 23 #[.string (⟨#[]⟩ : ByteArray), .string (⟨#[]⟩ : ByteArray), .int .i64 0, .int .i64 0, .int .i64 0, .int .i64 0, .int .i64 0, .int .i64 0, .int .i64 0, .int .i64 0, .int .i64 0] (0, 0) _ rfl (by (with_reducible repeat (first | refine bN ?_ _ | refine bW ?_ | refine bA ?_ _)); refine blk_put (cs := #[.string (⟨#[]⟩ : ByteArray), .string (⟨#[]⟩ : ByteArray), .int .i64 0, .int .i64 0, .int .i64 0, .int .i64 0, .int .i64 0, .int .i64 0, .int .i64 0, .int .i64 0, .int .i64 0]) ?_ 10 _ rfl; (with_reducible repeat (first | refine bN ?_ _ | refine bW ?_ | refine bA ?_ _)); refine blk_put (cs := #[.string (⟨#[]⟩ : ByteArray), .string (⟨#[]⟩ : ByteArray), .int .i64 0, .int .i64 0, .int .i64 0, .int .i64 0, .int .i64 0, .int .i64 0, .int .i64 0, .int .i64 0, .int .i64 0]) ?_ 9 _ rfl; (with_reducible repeat (first | refine bN ?_ _ | refine bW ?_ | refine bA ?_ _)); refine blk_put (cs := #[.string (⟨#[]⟩ : ByteArray), .string (⟨#[]⟩ : ByteArray), .int .i64 0, .int .i64 0, .int .i64 0, .int .i64 0, .int .i64 0, .int .i64 0, .int .i64 0, .int .i64 0, .int .i64 0]) ?_ 8 _ rfl; (with_reducible repeat (first | refine bN ?_ _ | refine bW ?_ | refine bA ?_ _)); refine blk_put (cs := #[.string (⟨#[]⟩ : ByteArray), .string (⟨#[]⟩ : ByteArray), .int .i64 0, .int .i64 0, .int .i64 0, .int .i64 0, .int .i64 0, .int .i64 0, .int .i64 0, .int .i64 0, .int .i64 0]) ?_ 7 _ rfl; (with_reducible repeat (first | refine bN ?_ _ | refine bW ?_ | refine bA ?_ _)); refine blk_put (cs := #[.string (⟨#[]⟩ : ByteArray), .string (⟨#[]⟩ : ByteArray), .int .i64 0, .int .i64 0, .int .i64 0, .int .i64 0, .int .i64 0, .int .i64 0, .int .i64 0, .int .i64 0, .int .i64 0]) ?_ 6 _ rfl; (with_reducible repeat (first | refine bN ?_ _ | refine bW ?_ | refine bA ?_ _)); refine blk_put (cs := #[.string (⟨#[]⟩ : ByteArray), .string (⟨#[]⟩ : ByteArray), .int .i64 0, .int .i64 0, .int .i64 0, .int .i64 0, .int .i64 0, .int .i64 0, .int .i64 0, .int .i64 0, .int .i64 0]) ?_ 5 _ rfl; (with_reducible repeat (first | refine bN ?_ _ | refine bW ?_ | refine bA ?_ _)); refine blk_put (cs := #[.string (⟨#[]⟩ : ByteArray), .string (⟨#[]⟩ : ByteArray), .int .i64 0, .int .i64 0, .int .i64 0, .int .i64 0, .int .i64 0, .int .i64 0, .int .i64 0, .int .i64 0, .int .i64 0]) ?_ 4 _ rfl; (with_reducible repeat (first | refine bN ?_ _ | refine bW ?_ | refine bA ?_ _)); refine blk_put (cs := #[.string (⟨#[]⟩ : ByteArray), .string (⟨#[]⟩ : ByteArray), .int .i64 0, .int .i64 0, .int .i64 0, .int .i64 0, .int .i64 0, .int .i64 0, .int .i64 0, .int .i64 0, .int .i64 0]) ?_ 3 _ rfl; (with_reducible repeat (first | refine bN ?_ _ | refine bW ?_ | refine bA ?_ _)); refine blk_put (cs := #[.string (⟨#[]⟩ : ByteArray), .string (⟨#[]⟩ : ByteArray), .int .i64 0, .int .i64 0, .int .i64 0, .int .i64 0, .int .i64 0, .int .i64 0, .int .i64 0, .int .i64 0, .int .i64 0]) ?_ 2 _ rfl; (with_reducible repeat (first | refine bN ?_ _ | refine bW ?_ | refine bA ?_ _)); refine blk_put (cs := #[.string (⟨#[]⟩ : ByteArray), .string (⟨#[]⟩ : ByteArray), .int .i64 0, .int .i64 0, .int .i64 0, .int .i64 0, .int .i64 0, .int .i64 0, .int .i64 0, .int .i64 0, .int .i64 0]) ?_ 1 _ rfl; (with_reducible repeat (first | refine bN ?_ _ | refine bW ?_ | refine bA ?_ _)); refine blk_put (cs := #[.string (⟨#[]⟩ : ByteArray), .string (⟨#[]⟩ : ByteArray), .int .i64 0, .int .i64 0, .int .i64 0, .int .i64 0, .int .i64 0, .int .i64 0, .int .i64 0, .int .i64 0, .int .i64 0]) ?_ 0 _ rfl; (with_reducible repeat (first | refine bN ?_ _ | refine bW ?_ | refine bA ?_ _)); exact BK244.out) Tryd.underlying23 rfl (by kernel_rfl)) rfl ?_
   exact ⟨by first | rfl | (simp [*] <;> rfl), by repeat (first | (with_reducible first | exact HB.out | apply pA | apply pN | apply pd_ | refine pS ?_ (IsS104.ge HI248.out) | refine pS ?_ GE244.out | refine pS ?_ GE257.out) | exact HB.out)⟩
 ·rw [if_neg c7] at H
  have c7b0 : (t264 == 0) = false := oC c7
  have c7b1 : (t264 != 0) = true := bne_iff_ne.mpr c7
  simp only [Option.some.injEq, Prod.mk.injEq] at H
  obtain ⟨rfl, rfl, rfl, rfl, rfl, rfl, rfl, rfl, rfl, rfl, rfl, rfl⟩ := H
  go_enter Tryd.func24, Tryd.ntmps24
  go_wp2_with (first | (refine wpList_load_cells (by rfl) 23 _ (by exact rfl) ⟨gb244, 0, none⟩ (by rfl) _ _ (cells_of_blk (by (with_reducible repeat (first | refine bN ?_ _ | refine bW ?_ | refine bA ?_ _)); exact BK244.out)) Tryd.underlying23 rfl (by kernel_rfl) ?_) | (refine wpList_load_cells (by rfl) 23 _ (by exact rfl) ⟨gb257, 0, none⟩ (by rfl) _ _ (cells_of_blk (by (with_reducible repeat (first | refine bN ?_ _ | refine bW ?_ | refine bA ?_ _)); exact BK257.out)) Tryd.underlying23 rfl (by kernel_rfl) ?_) | ((with_reducible refine gate_dst (N := 2) rfl ?_); (try (refine gate_guard (by rfl) ?_; dsimp only)); refine box_event ?hg (N := 2) ?hd (cs := #[.string (⟨#[]⟩ : ByteArray), .string (⟨#[]⟩ : ByteArray), .int .i64 0, .int .i64 0, .int .i64 0, .int .i64 0, .int .i64 0, .int .i64 0, .int .i64 0, .int .i64 0, .int .i64 0]) (t := 23) ?hr ?_; (case hd => rfl); (case hg => rfl); (case hr => first | (go_simp; done) | (go_simp; rfl)); intro gb244 hg w57 hbox hb; have n0_ := q_ (pT (by repeat (first | (with_reducible first | exact HB.out | apply pA | apply pN | apply pd_) | exact HB.out)) hb); have n1_ := q_ (hbox); have n2_ := q_ ((by rw [hg]; exact (pZ (by repeat (first | (with_reducible first | exact HB.out | apply pA | apply pN | apply pd_) | exact HB.out))) : w.heap.size ≤ gb244)); have n3_ := n2_; clear HB; have HB := n0_; have BK244 := n1_; have GW244 := n2_; have GE244 := n3_; clear n0_ n1_ n2_ n3_; clear hb hbox hg) | ((with_reducible refine gate_callee (f := 51) rfl ?_); refine goesL_ (some 8) rfl rfl Tryd.func51 (by kernel_rfl) rfl #[.string a0] rfl (by first | rfl | (simp only [List.map_toArray]; rfl)) ?_; (with_reducible refine (wire_NewReader.calls a0 t245 t246 t247 w _ ?side1 A2.out).mono ?_); (case side1 => repeat (first | (with_reducible first | exact HB.out | apply pA | apply pN | apply pd_ | refine pS ?_ GE244.out) | exact HB.out)); rintro e w58 ⟨g248, rfl, hi, hb, hb2⟩; refine ⟨_, rfl, ?_⟩; have n0_ := q_ (bB (g := gb244) (by (with_reducible repeat (first | refine bN ?_ _ | refine bW ?_ | refine bA ?_ _)); exact BK244.out) hb2); have n1_ := q_ (hb); have n2_ := q_ (hi); have n3_ := q_ (IsS104.ne_blk hi (bB (g := gb244) (by (with_reducible repeat (first | refine bN ?_ _ | refine bW ?_ | refine bA ?_ _)); exact BK244.out) hb2) (by decide)); have n4_ := q_ (Ne.symm (IsS104.ne_blk hi (bB (g := gb244) (by (with_reducible repeat (first | refine bN ?_ _ | refine bW ?_ | refine bA ?_ _)); exact BK244.out) hb2) (by decide))); clear BK244; clear HB; have BK244 := n0_; have HB := n1_; have HI248 := n2_; have NB248_244 := n3_; have NB244_248 := n4_; clear n0_ n1_ n2_ n3_ n4_; (try clear hb); (try clear hb2); (try clear hk); (try clear hi)) | ((with_reducible refine gate_callee (f := 52) rfl ?_); refine goesL_ (some 10) rfl rfl Tryd.func52 (by kernel_rfl) rfl #[.pointer (some ⟨g248, 0, none⟩), .int .i64 16] rfl (by first | rfl | (simp only [List.map_toArray]; rfl)) ?_; (with_reducible refine (wire_Reader_Text.calls k g248 t245 t246 t247 16 t249 t250 t251 t252 w _ ?side1 ?side2 A3.out).mono ?_); (case side1 => repeat (first | (with_reducible first | exact HI248.out | apply IsS104.alloc | apply IsS104.drewN | apply IsS104.drew | apply IsS104.set_0 | apply IsS104.set_1 | apply IsS104.set_2 | refine IsS104.far ?_ NB248_244.out _) | exact HI248.out)); (case side2 => repeat (first | (with_reducible first | exact HB.out | apply pA | apply pN | apply pd_ | refine pS ?_ (IsS104.ge HI248.out) | refine pS ?_ GE244.out) | exact HB.out)); rintro e w59 ⟨rfl, hi, hb, hk⟩; refine ⟨_, rfl, ?_⟩; have n0_ := q_ (KeepBut.blk hk (g' := gb244) (by (with_reducible repeat (first | refine bN ?_ _ | refine bW ?_ | refine bA ?_ _)); exact BK244.out) NB244_248.out (by simp)); have n1_ := q_ (hb); have n2_ := q_ (hi); clear BK244; clear HB; clear HI248; have BK244 := n0_; have HB := n1_; have HI248 := n2_; clear n0_ n1_ n2_; (try clear hb); (try clear hb2); (try clear hk); (try clear hi)) | ((with_reducible refine gate_callee (f := 52) rfl ?_); refine goesL_ (some 12) rfl rfl Tryd.func52 (by kernel_rfl) rfl #[.pointer (some ⟨g248, 0, none⟩), .int .i64 16] rfl (by first | rfl | (simp only [List.map_toArray]; rfl)) ?_; (with_reducible refine (wire_Reader_Text.calls k g248 t250 t251 t252 16 t253 t254 t255 t256 w _ ?side1 ?side2 A4.out).mono ?_); (case side1 => repeat (first | (with_reducible first | exact HI248.out | apply IsS104.alloc | apply IsS104.drewN | apply IsS104.drew | apply IsS104.set_0 | apply IsS104.set_1 | apply IsS104.set_2 | refine IsS104.far ?_ NB248_244.out _) | exact HI248.out)); (case side2 => repeat (first | (with_reducible first | exact HB.out | apply pA | apply pN | apply pd_ | refine pS ?_ (IsS104.ge HI248.out) | refine pS ?_ GE244.out) | exact HB.out)); rintro e w60 ⟨rfl, hi, hb, hk⟩; refine ⟨_, rfl, ?_⟩; have n0_ := q_ (KeepBut.blk hk (g' := gb244) (by (with_reducible repeat (first | refine bN ?_ _ | refine bW ?_ | refine bA ?_ _)); exact BK244.out) NB244_248.out (by simp)); have n1_ := q_ (hb); have n2_ := q_ (hi); clear BK244; clear HB; clear HI248; have BK244 := n0_; have HB := n1_; have HI248 := n2_; clear n0_ n1_ n2_; (try clear hb); (try clear hb2); (try clear hk); (try clear hi)) | ((with_reducible refine gate_dst (N := 5) rfl ?_); (try (refine gate_guard (by rfl) ?_; dsimp only)); refine box_event ?hg (N := 5) ?hd (cs := #[.string (⟨#[]⟩ : ByteArray), .string (⟨#[]⟩ : ByteArray), .int .i64 0, .int .i64 0, .int .i64 0, .int .i64 0, .int .i64 0, .int .i64 0, .int .i64 0, .int .i64 0, .int .i64 0]) (t := 23) ?hr ?_; (case hd => rfl); (case hg => rfl); (case hr => first | (go_simp; done) | (go_simp; rfl)); intro gb257 hg w61 hbox hb; have n0_ := q_ (bB (g := gb244) (by (with_reducible repeat (first | refine bN ?_ _ | refine bW ?_ | refine bA ?_ _)); exact BK244.out) hb); have n1_ := q_ (IsS104.below (by repeat (first | (with_reducible first | exact HI248.out | apply IsS104.alloc | apply IsS104.drewN | apply IsS104.drew | apply IsS104.set_0 | apply IsS104.set_1 | apply IsS104.set_2 | refine IsS104.far ?_ NB248_244.out _) | exact HI248.out)) hb); have n2_ := q_ (pT (by repeat (first | (with_reducible first | exact HB.out | apply pA | apply pN | apply pd_ | refine pS ?_ (IsS104.ge HI248.out) | refine pS ?_ GE244.out) | exact HB.out)) hb); have n3_ := q_ (hbox); have n4_ := q_ ((by rw [hg]; exact (pZ (by repeat (first | (with_reducible first | exact HB.out | apply pA | apply pN | apply pd_ | refine pS ?_ (IsS104.ge HI248.out) | refine pS ?_ GE244.out) | exact HB.out))) : w.heap.size ≤ gb257)); have n5_ := n4_; have n6_ := q_ ((by rw [hg]; exact Nat.ne_of_lt (blk_lt (g := gb244) (by (with_reducible repeat (first | refine bN ?_ _ | refine bW ?_ | refine bA ?_ _)); exact BK244.out)) : gb244 ≠ gb257)); have n7_ := q_ ((by rw [hg]; exact Nat.ne_of_gt (blk_lt (g := gb244) (by (with_reducible repeat (first | refine bN ?_ _ | refine bW ?_ | refine bA ?_ _)); exact BK244.out)) : gb257 ≠ gb244)); have n8_ := q_ ((by rw [hg]; exact Nat.ne_of_lt (IsS104.lt (show IsS104 w _ g248 t254 t255 t256 from by repeat (first | (with_reducible first | exact HI248.out | apply IsS104.alloc | apply IsS104.drewN | apply IsS104.drew | apply IsS104.set_0 | apply IsS104.set_1 | apply IsS104.set_2 | refine IsS104.far ?_ NB248_244.out _) | exact HI248.out))) : g248 ≠ gb257)); have n9_ := q_ ((by rw [hg]; exact Nat.ne_of_gt (IsS104.lt (show IsS104 w _ g248 t254 t255 t256 from by repeat (first | (with_reducible first | exact HI248.out | apply IsS104.alloc | apply IsS104.drewN | apply IsS104.drew | apply IsS104.set_0 | apply IsS104.set_1 | apply IsS104.set_2 | refine IsS104.far ?_ NB248_244.out _) | exact HI248.out))) : gb257 ≠ g248)); clear BK244; clear HI248; clear HB; have BK244 := n0_; have HI248 := n1_; have HB := n2_; have BK257 := n3_; have GW257 := n4_; have GE257 := n5_; have NB244_257 := n6_; have NB257_244 := n7_; have NB248_257 := n8_; have NB257_248 := n9_; clear n0_ n1_ n2_ n3_ n4_ n5_ n6_ n7_ n8_ n9_; clear hb hbox hg; have hnb62 := NB257_244.out; have hnc62 := NB244_257.out; have hnb63 := NB257_248.out; have hnc63 := NB248_257.out; have hcz64 := blk_all BK257.out; simp only [CellsAt, List.toList_toArray, Nat.reduceAdd, and_true] at hcz64; have hfz64 := bF BK257.out) | ((with_reducible refine gate_callee (f := 53) rfl ?_); refine goesL_ (some 15) rfl rfl Tryd.func53 (by kernel_rfl) rfl #[.pointer (some ⟨g248, 0, none⟩), .int .i64 9, .int .i64 (-1099511627776), .int .i64 1099511627776] rfl (by first | rfl | (simp only [List.map_toArray]; rfl)) ?_; (with_reducible refine (wire_Reader_Ints.calls k g248 t254 t255 t256 9 (-1099511627776) 1099511627776 t258 t261 t262 t263 w _ ?side1 ?side2 A5.out).mono ?_); (case side1 => repeat (first | (with_reducible first | exact HI248.out | apply IsS104.alloc | apply IsS104.drewN | apply IsS104.drew | apply IsS104.set_0 | apply IsS104.set_1 | apply IsS104.set_2 | refine IsS104.far ?_ NB248_244.out _ | refine IsS104.far ?_ NB248_257.out _) | exact HI248.out)); (case side2 => repeat (first | (with_reducible first | exact HB.out | apply pA | apply pN | apply pd_ | refine pS ?_ (IsS104.ge HI248.out) | refine pS ?_ GE244.out | refine pS ?_ GE257.out) | exact HB.out)); rintro e w65 ⟨v259, rfl, ho0, hi, hb, hk⟩; refine ⟨_, rfl, ?_⟩; have n0_ := q_ (KeepBut.blk hk (g' := gb244) (o := .cells #[.string (⟨#[]⟩ : ByteArray), .string (⟨#[]⟩ : ByteArray), .int .i64 0, .int .i64 0, .int .i64 0, .int .i64 0, .int .i64 0, .int .i64 0, .int .i64 0, .int .i64 0, .int .i64 0] 23 (0, 0)) (by (with_reducible repeat (first | refine bN ?_ _ | refine bW ?_ | refine bA ?_ _)); refine blk_far ?_ NB244_257.out _; (with_reducible repeat (first | refine bN ?_ _ | refine bW ?_ | refine bA ?_ _)); refine blk_far ?_ NB244_257.out _; (with_reducible repeat (first | refine bN ?_ _ | refine bW ?_ | refine bA ?_ _)); refine blk_far ?_ NB244_257.out _; (with_reducible repeat (first | refine bN ?_ _ | refine bW ?_ | refine bA ?_ _)); refine blk_far ?_ NB244_257.out _; (with_reducible repeat (first | refine bN ?_ _ | refine bW ?_ | refine bA ?_ _)); refine blk_far ?_ NB244_257.out _; (with_reducible repeat (first | refine bN ?_ _ | refine bW ?_ | refine bA ?_ _)); refine blk_far ?_ NB244_257.out _; (with_reducible repeat (first | refine bN ?_ _ | refine bW ?_ | refine bA ?_ _)); refine blk_far ?_ NB244_257.out _; (with_reducible repeat (first | refine bN ?_ _ | refine bW ?_ | refine bA ?_ _)); refine blk_far ?_ NB244_257.out _; (with_reducible repeat (first | refine bN ?_ _ | refine bW ?_ | refine bA ?_ _)); refine blk_far ?_ NB244_257.out _; (with_reducible repeat (first | refine bN ?_ _ | refine bW ?_ | refine bA ?_ _)); refine blk_far ?_ NB244_257.out _; (with_reducible repeat (first | refine bN ?_ _ | refine bW ?_ | refine bA ?_ _)); refine blk_far ?_ NB244_257.out _; (with_reducible repeat (first | refine bN ?_ _ | refine bW ?_ | refine bA ?_ _)); exact BK244.out) NB244_248.out (by simp)); have n1_ := q_ (KeepBut.blk hk (g' := gb257) (o := .cells #[.string t249, .string t253, .int .i64 0, .int .i64 0, .int .i64 0, .int .i64 0, .int .i64 0, .int .i64 0, .int .i64 0, .int .i64 0, .int .i64 0] 23 (0, 0)) (by (with_reducible repeat (first | refine bN ?_ _ | refine bW ?_ | refine bA ?_ _)); refine blk_put (cs := #[.string t249, .string t253, .int .i64 0, .int .i64 0, .int .i64 0, .int .i64 0, .int .i64 0, .int .i64 0, .int .i64 0, .int .i64 0, .int .i64 0]) ?_ 10 _ rfl; (with_reducible repeat (first | refine bN ?_ _ | refine bW ?_ | refine bA ?_ _)); refine blk_put (cs := #[.string t249, .string t253, .int .i64 0, .int .i64 0, .int .i64 0, .int .i64 0, .int .i64 0, .int .i64 0, .int .i64 0, .int .i64 0, .int .i64 0]) ?_ 9 _ rfl; (with_reducible repeat (first | refine bN ?_ _ | refine bW ?_ | refine bA ?_ _)); refine blk_put (cs := #[.string t249, .string t253, .int .i64 0, .int .i64 0, .int .i64 0, .int .i64 0, .int .i64 0, .int .i64 0, .int .i64 0, .int .i64 0, .int .i64 0]) ?_ 8 _ rfl; (with_reducible repeat (first | refine bN ?_ _ | refine bW ?_ | refine bA ?_ _)); refine blk_put (cs := #[.string t249, .string t253, .int .i64 0, .int .i64 0, .int .i64 0, .int .i64 0, .int .i64 0, .int .i64 0, .int .i64 0, .int .i64 0, .int .i64 0]) ?_ 7 _ rfl; (with_reducible repeat (first | refine bN ?_ _ | refine bW ?_ | refine bA ?_ _)); refine blk_put (cs := #[.string t249, .string t253, .int .i64 0, .int .i64 0, .int .i64 0, .int .i64 0, .int .i64 0, .int .i64 0, .int .i64 0, .int .i64 0, .int .i64 0]) ?_ 6 _ rfl; (with_reducible repeat (first | refine bN ?_ _ | refine bW ?_ | refine bA ?_ _)); refine blk_put (cs := #[.string t249, .string t253, .int .i64 0, .int .i64 0, .int .i64 0, .int .i64 0, .int .i64 0, .int .i64 0, .int .i64 0, .int .i64 0, .int .i64 0]) ?_ 5 _ rfl; (with_reducible repeat (first | refine bN ?_ _ | refine bW ?_ | refine bA ?_ _)); refine blk_put (cs := #[.string t249, .string t253, .int .i64 0, .int .i64 0, .int .i64 0, .int .i64 0, .int .i64 0, .int .i64 0, .int .i64 0, .int .i64 0, .int .i64 0]) ?_ 4 _ rfl; (with_reducible repeat (first | refine bN ?_ _ | refine bW ?_ | refine bA ?_ _)); refine blk_put (cs := #[.string t249, .string t253, .int .i64 0, .int .i64 0, .int .i64 0, .int .i64 0, .int .i64 0, .int .i64 0, .int .i64 0, .int .i64 0, .int .i64 0]) ?_ 3 _ rfl; (with_reducible repeat (first | refine bN ?_ _ | refine bW ?_ | refine bA ?_ _)); refine blk_put (cs := #[.string t249, .string t253, .int .i64 0, .int .i64 0, .int .i64 0, .int .i64 0, .int .i64 0, .int .i64 0, .int .i64 0, .int .i64 0, .int .i64 0]) ?_ 2 _ rfl; (with_reducible repeat (first | refine bN ?_ _ | refine bW ?_ | refine bA ?_ _)); refine blk_put (cs := #[.string t249, .string (⟨#[]⟩ : ByteArray), .int .i64 0, .int .i64 0, .int .i64 0, .int .i64 0, .int .i64 0, .int .i64 0, .int .i64 0, .int .i64 0, .int .i64 0]) ?_ 1 _ rfl; (with_reducible repeat (first | refine bN ?_ _ | refine bW ?_ | refine bA ?_ _)); refine blk_put (cs := #[.string (⟨#[]⟩ : ByteArray), .string (⟨#[]⟩ : ByteArray), .int .i64 0, .int .i64 0, .int .i64 0, .int .i64 0, .int .i64 0, .int .i64 0, .int .i64 0, .int .i64 0, .int .i64 0]) ?_ 0 _ rfl; (with_reducible repeat (first | refine bN ?_ _ | refine bW ?_ | refine bA ?_ _)); exact BK257.out) NB257_248.out (by simp)); have n2_ := q_ (Kd.R_lower ho0 (pZ (by repeat (first | (with_reducible first | exact HB.out | apply pA | apply pN | apply pd_ | refine pS ?_ (IsS104.ge HI248.out) | refine pS ?_ GE244.out | refine pS ?_ GE257.out) | exact HB.out)))); have n3_ := q_ (hb); have n4_ := q_ (hi); clear BK244; clear BK257; clear HB; clear HI248; have BK244 := n0_; have BK257 := n1_; have HO260 := n2_; have HB := n3_; have HI248 := n4_; clear n0_ n1_ n2_ n3_ n4_; (try clear hb); (try clear hb2); (try clear hk); (try clear hi); (try clear ho0)) | ((with_reducible refine gate_callee (f := 54) rfl ?_); refine goesL_ (some 17) rfl rfl Tryd.func54 (by kernel_rfl) rfl #[.pointer (some ⟨g248, 0, none⟩)] rfl (by first | rfl | (simp only [List.map_toArray]; rfl)) ?_; (with_reducible refine (wire_Reader_End.calls g248 t261 t262 t263 t264 t265 t266 t267 w _ ?side1 ?side2 A6.out).mono ?_); (case side1 => repeat (first | (with_reducible first | exact HI248.out | apply IsS104.alloc | apply IsS104.drewN | apply IsS104.drew | apply IsS104.set_0 | apply IsS104.set_1 | apply IsS104.set_2 | refine IsS104.far ?_ NB248_244.out _ | refine IsS104.far ?_ NB248_257.out _) | exact HI248.out)); (case side2 => repeat (first | (with_reducible first | exact HB.out | apply pA | apply pN | apply pd_ | refine pS ?_ (IsS104.ge HI248.out) | refine pS ?_ GE244.out | refine pS ?_ GE257.out) | exact HB.out)); rintro e w66 ⟨rfl, hi, hb, hk⟩; refine ⟨_, rfl, ?_⟩; have n0_ := q_ (KeepBut.blk hk (g' := gb244) (by (with_reducible repeat (first | refine bN ?_ _ | refine bW ?_ | refine bA ?_ _)); exact BK244.out) NB244_248.out (by simp)); have n1_ := q_ (KeepBut.blk hk (g' := gb257) (by (with_reducible repeat (first | refine bN ?_ _ | refine bW ?_ | refine bA ?_ _)); exact BK257.out) NB257_248.out (by simp)); have n2_ := q_ (Kd.R_mono (Kd.R_keep (IsS104.apart (show IsS104 w _ g248 t261 t262 t263 from by repeat (first | (with_reducible first | exact HI248.out | apply IsS104.alloc | apply IsS104.drewN | apply IsS104.drew | apply IsS104.set_0 | apply IsS104.set_1 | apply IsS104.set_2 | refine IsS104.far ?_ NB248_244.out _ | refine IsS104.far ?_ NB248_257.out _) | exact HI248.out)) (by (with_reducible repeat (first | apply Kd.R_alloc | apply Kd.R_drewN | apply Kd.R_drew)); exact HO260.out) (by decide)) hk (fun _ h => h.2)) (fun _ h => h.1)); have n3_ := q_ (hb); have n4_ := q_ (hi); clear BK244; clear BK257; clear HO260; clear HB; clear HI248; have BK244 := n0_; have BK257 := n1_; have HO260 := n2_; have HB := n3_; have HI248 := n4_; clear n0_ n1_ n2_ n3_ n4_; (try clear hb); (try clear hb2); (try clear hk); (try clear hi); have hnb67 := NB244_248.out; have hnc67 := NB248_244.out; have hcz68 := blk_all BK244.out; simp only [CellsAt, List.toList_toArray, Nat.reduceAdd, and_true] at hcz68; have hfz68 := bF BK244.out))
  refine bodyPost_ret (results_ct rfl _ _ gb244 23 #[.string (⟨#[]⟩ : ByteArray), .string (⟨#[]⟩ : ByteArray), .int .i64 0, .int .i64 0, .int .i64 0, .int .i64 0, .int .i64 0, .int .i64 0, .int .i64 0, .int .i64 0, .int .i64 0] (0, 0) _ rfl (by (with_reducible repeat (first | refine bN ?_ _ | refine bW ?_ | refine bA ?_ _)); refine blk_put (cs := #[.string (⟨#[]⟩ : ByteArray), .string (⟨#[]⟩ : ByteArray), .int .i64 0, .int .i64 0, .int .i64 0, .int .i64 0, .int .i64 0, .int .i64 0, .int .i64 0, .int .i64 0, .int .i64 0]) ?_ 10 _ rfl; (with_reducible repeat (first | refine bN ?_ _ | refine bW ?_ | refine bA ?_ _)); refine blk_put (cs := #[.string (⟨#[]⟩ : ByteArray), .string (⟨#[]⟩ : ByteArray), .int .i64 0, .int .i64 0, .int .i64 0, .int .i64 0, .int .i64 0, .int .i64 0, .int .i64 0, .int .i64 0, .int .i64 0]) ?_ 9 _ rfl; (with_reducible repeat (first | refine bN ?_ _ | refine bW ?_ | refine bA ?_ _)); refine blk_put (cs := #[.string (⟨#[]⟩ : ByteArray), .string (⟨#[]⟩ : ByteArray), .int .i64 0, .int .i64 0, .int .i64 0, .int .i64 0, .int .i64 0, .int .i64 0, .int .i64 0, .int .i64 0, .int .i64 0]) ?_ 8 _ rfl; (with_reducible repeat (first | refine bN ?_ _ | refine bW ?_ | refine bA ?_ _)); refine blk_put (cs := #[.string (⟨#[]⟩ : ByteArray), .string (⟨#[]⟩ : ByteArray), .int .i64 0, .int .i64 0, .int .i64 0, .int .i64 0, .int .i64 0, .int .i64 0, .int .i64 0, .int .i64 0, .int .i64 0]) ?_ 7 _ rfl; (with_reducible repeat (first | refine bN ?_ _ | refine bW ?_ | refine bA ?_ _)); refine blk_put (cs := #[.string (⟨#[]⟩ : ByteArray), .string (⟨#[]⟩ : ByteArray), .int .i64 0, .int .i64 0, .int .i64 0, .int .i64 0, .int .i64 0, .int .i64 0, .int .i64 0, .int .i64 0, .int .i64 0]) ?_ 6 _ rfl; (with_reducible repeat (first | refine bN ?_ _ | refine bW ?_ | refine bA ?_ _)); refine blk_put (cs := #[.string (⟨#[]⟩ : ByteArray), .string (⟨#[]⟩ : ByteArray), .int .i64 0, .int .i64 0, .int .i64 0, .int .i64 0, .int .i64 0, .int .i64 0, .int .i64 0, .int .i64 0, .int .i64 0]) ?_ 5 _ rfl; (with_reducible repeat (first | refine bN ?_ _ | refine bW ?_ | refine bA ?_ _)); refine blk_put (cs := #[.string (⟨#[]⟩ : ByteArray), .string (⟨#[]⟩ : ByteArray), .int .i64 0, .int .i64 0, .int .i64 0, .int .i64 0, .int .i64 0, .int .i64 0, .int .i64 0, .int .i64 0, .int .i64 0]) ?_ 4 _ rfl; (with_reducible repeat (first | refine bN ?_ _ | refine bW ?_ | refine bA ?_ _)); refine blk_put (cs := #[.string (⟨#[]⟩ : ByteArray), .string (⟨#[]⟩ : ByteArray), .int .i64 0, .int .i64 0, .int .i64 0, .int .i64 0, .int .i64 0, .int .i64 0, .int .i64 0, .int .i64 0, .int .i64 0]) ?_ 3 _ rfl; (with_reducible repeat (first | refine bN ?_ _ | refine bW ?_ | refine bA ?_ _)); refine blk_put (cs := #[.string (⟨#[]⟩ : ByteArray), .string (⟨#[]⟩ : ByteArray), .int .i64 0, .int .i64 0, .int .i64 0, .int .i64 0, .int .i64 0, .int .i64 0, .int .i64 0, .int .i64 0, .int .i64 0]) ?_ 2 _ rfl; (with_reducible repeat (first | refine bN ?_ _ | refine bW ?_ | refine bA ?_ _)); refine blk_put (cs := #[.string (⟨#[]⟩ : ByteArray), .string (⟨#[]⟩ : ByteArray), .int .i64 0, .int .i64 0, .int .i64 0, .int .i64 0, .int .i64 0, .int .i64 0, .int .i64 0, .int .i64 0, .int .i64 0]) ?_ 1 _ rfl; (with_reducible repeat (first | refine bN ?_ _ | refine bW ?_ | refine bA ?_ _)); refine blk_put (cs := #[.string (⟨#[]⟩ : ByteArray), .string (⟨#[]⟩ : ByteArray), .int .i64 0, .int .i64 0, .int .i64 0, .int .i64 0, .int .i64 0, .int .i64 0, .int .i64 0, .int .i64 0, .int .i64 0]) ?_ 0 _ rfl; (with_reducible repeat (first | refine bN ?_ _ | refine bW ?_ | refine bA ?_ _)); exact BK244.out) Tryd.underlying23 rfl (by kernel_rfl)) rfl ?_
  exact ⟨by first | rfl | (simp [*] <;> rfl), by repeat (first | (with_reducible first | exact HB.out | apply pA | apply pN | apply pd_ | refine pS ?_ (IsS104.ge HI248.out) | refine pS ?_ GE244.out | refine pS ?_ GE257.out) | exact HB.out)⟩
end Go.Proofs.YtblmgmhjlbkncaaDoor.PA
namespace Go.Proofs.YtblmgmhjlbkncaaDoor.PA
open Go.RowKit Go.Proofs.YtblmgmhjlbkncaaDoorW.PrintWords Go.Proofs.YtblmgmhjlbkncaaDoorW.PrintLast Go.Proofs.YtblmgmhjlbkncaaDoorW.PrintMore
attribute [local go_sem] max2_int min2_int max_two min_two max_three min_three max_four min_four
set_option linter.unusedVariables false
set_option linter.unusedSimpArgs false
set_option maxHeartbeats 8000000 in
set_option maxRecDepth 100000 in
theorem sample_calls (w : World) :
  Calls Tryd.prog 26 #[] w fun e w' => e = .returned (.tuple #[.agg #[.string (⟨#[]⟩ : ByteArray), .string (⟨#[112, 105, 110, 101]⟩ : ByteArray), .int .i64 0, .int .i64 2000, .int .i64 3, .int .i64 1800, .int .i64 10, .int .i64 2, .int .i64 3, .int .i64 0, .int .i64 0], .agg #[.string (⟨#[]⟩ : ByteArray), .string (⟨#[]⟩ : ByteArray), .string (⟨#[112, 105, 110, 101]⟩ : ByteArray), .int .i64 0, .int .i64 0, .int .i64 0, .int .i64 0, .int .i64 0, .int .i64 0, .int .i64 2000, .int .i64 0, .slice none 0 0, .int .i64 0, .int .i64 1700, .int .i64 1850, .int .i64 0, .bool true, .int .i64 2]]) ∧ Below w.heap.size w w' := by
 have hu31 := Tryd.underlying31
 have hu33 := Tryd.underlying33
 have hu36 := Tryd.underlying36
 have hu23 := Tryd.underlying23
 have hu38 := Tryd.underlying38
 have HB := q_ (Below.refl w.heap.size w)
 go_enter Tryd.func26, Tryd.ntmps26
 go_wp2_with (first | ((with_reducible refine gate_dst (N := 0) rfl ?_); refine box_event ?hg (N := 0) ?hd (cs := #[.string (⟨#[]⟩ : ByteArray), .string (⟨#[]⟩ : ByteArray), .int .i64 0, .int .i64 0, .int .i64 0, .int .i64 0, .int .i64 0, .int .i64 0, .int .i64 0, .int .i64 0, .int .i64 0]) (t := 23) ?hr ?_; (case hd => rfl); (case hg => rfl); (case hr => first | (go_simp; done) | (go_simp; rfl)); intro ga hg w1 hbox hb; have BKga := Aside0.mk hbox; have GEga := q_ (show w.heap.size ≤ ga by rw [hg]; exact pZ HB.out); replace HB := q_ (pT HB.out hb); clear hb hbox hg) | ((with_reducible refine gate_dst (N := 1) rfl ?_); refine box_event ?hg (N := 1) ?hd (cs := #[.string (⟨#[]⟩ : ByteArray), .string (⟨#[]⟩ : ByteArray), .string (⟨#[]⟩ : ByteArray), .int .i64 0, .int .i64 0, .int .i64 0, .int .i64 0, .int .i64 0, .int .i64 0, .int .i64 0, .int .i64 0, .slice none 0 0, .int .i64 0, .int .i64 0, .int .i64 0, .int .i64 0, .bool false, .int .i64 0]) (t := 38) ?hr ?_; (case hd => rfl); (case hg => rfl); (case hr => first | (go_simp; done) | (go_simp; rfl)); intro gb hg w2 hbox hb; have NBgagb := q_ (show ga ≠ gb by rw [hg]; exact Nat.ne_of_lt (blk_lt BKga.out)); replace BKga := q_ (bB BKga.out hb); have BKgb := Aside0.mk hbox; have GEgb := q_ (show w.heap.size ≤ gb by rw [hg]; exact pZ HB.out); replace HB := q_ (pT HB.out hb); clear hb hbox hg) | ((with_reducible refine gate_dst (N := 2) rfl ?_); refine box_event ?hg (N := 2) ?hd (cs := #[.string (⟨#[]⟩ : ByteArray), .string (⟨#[]⟩ : ByteArray), .int .i64 0, .int .i64 0, .int .i64 0, .int .i64 0, .int .i64 0, .int .i64 0, .int .i64 0, .int .i64 0, .int .i64 0]) (t := 23) ?hr ?_; (case hd => rfl); (case hg => rfl); (case hr => first | (go_simp; done) | (go_simp; rfl)); intro gc hg w3 hbox hb; have NBgagc := q_ (show ga ≠ gc by rw [hg]; exact Nat.ne_of_lt (blk_lt BKga.out)); replace BKga := q_ (bB BKga.out hb); have NBgbgc := q_ (show gb ≠ gc by rw [hg]; exact Nat.ne_of_lt (blk_lt BKgb.out)); replace BKgb := q_ (bB BKgb.out hb); have BKgc := Aside0.mk hbox; have GEgc := q_ (show w.heap.size ≤ gc by rw [hg]; exact pZ HB.out); replace HB := q_ (pT HB.out hb); clear hb hbox hg) | (refine wpList_store_row rfl 23 (.tmp 2) (.tmp 4) rfl gc rfl #[.string (⟨#[]⟩ : ByteArray), .string (⟨#[112, 105, 110, 101]⟩ : ByteArray), .int .i64 0, .int .i64 2000, .int .i64 3, .int .i64 1800, .int .i64 10, .int .i64 2, .int .i64 3, .int .i64 0, .int .i64 0] rfl BKgc.out rfl rfl (by kernel_rfl) ?_; intro w4 hbox hgr; replace BKga := q_ (blk_grown BKga.out hgr (fun e => NBgagc.out (Option.some.inj e))); replace BKgb := q_ (blk_grown BKgb.out hgr (fun e => NBgbgc.out (Option.some.inj e))); replace BKgc := Aside0.mk hbox; replace HB := q_ (pw_below_grown HB.out _ (pZ HB.out) hgr (fun k hk => by obtain rfl := Option.some.inj hk; exact GEgc.out)); clear hbox hgr) | ((with_reducible refine gate_dst (N := 3) rfl ?_); refine box_event ?hg (N := 3) ?hd (cs := #[.string (⟨#[]⟩ : ByteArray), .string (⟨#[]⟩ : ByteArray), .string (⟨#[]⟩ : ByteArray), .int .i64 0, .int .i64 0, .int .i64 0, .int .i64 0, .int .i64 0, .int .i64 0, .int .i64 0, .int .i64 0, .slice none 0 0, .int .i64 0, .int .i64 0, .int .i64 0, .int .i64 0, .bool false, .int .i64 0]) (t := 38) ?hr ?_; (case hd => rfl); (case hg => rfl); (case hr => first | (go_simp; done) | (go_simp; rfl)); intro gd hg w5 hbox hb; have NBgagd := q_ (show ga ≠ gd by rw [hg]; exact Nat.ne_of_lt (blk_lt BKga.out)); replace BKga := q_ (bB BKga.out hb); have NBgbgd := q_ (show gb ≠ gd by rw [hg]; exact Nat.ne_of_lt (blk_lt BKgb.out)); replace BKgb := q_ (bB BKgb.out hb); have NBgcgd := q_ (show gc ≠ gd by rw [hg]; exact Nat.ne_of_lt (blk_lt BKgc.out)); replace BKgc := q_ (bB BKgc.out hb); have BKgd := Aside0.mk hbox; have GEgd := q_ (show w.heap.size ≤ gd by rw [hg]; exact pZ HB.out); replace HB := q_ (pT HB.out hb); clear hb hbox hg) | (refine wpList_store_row rfl 38 (.tmp 3) (.tmp 8) rfl gd rfl #[.string (⟨#[]⟩ : ByteArray), .string (⟨#[]⟩ : ByteArray), .string (⟨#[112, 105, 110, 101]⟩ : ByteArray), .int .i64 0, .int .i64 0, .int .i64 0, .int .i64 0, .int .i64 0, .int .i64 0, .int .i64 2000, .int .i64 0, .slice none 0 0, .int .i64 0, .int .i64 1700, .int .i64 1850, .int .i64 0, .bool true, .int .i64 2] rfl BKgd.out rfl rfl (by kernel_rfl) ?_; intro w6 hbox hgr; replace BKga := q_ (blk_grown BKga.out hgr (fun e => NBgagd.out (Option.some.inj e))); replace BKgb := q_ (blk_grown BKgb.out hgr (fun e => NBgbgd.out (Option.some.inj e))); replace BKgc := q_ (blk_grown BKgc.out hgr (fun e => NBgcgd.out (Option.some.inj e))); replace BKgd := Aside0.mk hbox; replace HB := q_ (pw_below_grown HB.out _ (pZ HB.out) hgr (fun k hk => by obtain rfl := Option.some.inj hk; exact GEgd.out)); clear hbox hgr))
 try simp only [Act.put, List.setIfInBounds_toArray, List.set_cons_zero, List.set_cons_succ]
 replace BKga := q_ (bW BKga.out)
 replace BKgb := q_ (bW BKgb.out)
 replace BKgc := q_ (bW BKgc.out)
 replace BKgd := q_ (bW BKgd.out)
 replace HB := q_ (pd_ HB.out)
 refine start_ (n := 4) (S := fun w' => w'.heap[gc]? = some (.cells #[.string (⟨#[]⟩ : ByteArray), .string (⟨#[112, 105, 110, 101]⟩ : ByteArray), .int .i64 0, .int .i64 2000, .int .i64 3, .int .i64 1800, .int .i64 10, .int .i64 2, .int .i64 3, .int .i64 0, .int .i64 0] 23 (0, 0)) ∧ w'.heap[gd]? = some (.cells #[.string (⟨#[]⟩ : ByteArray), .string (⟨#[]⟩ : ByteArray), .string (⟨#[112, 105, 110, 101]⟩ : ByteArray), .int .i64 0, .int .i64 0, .int .i64 0, .int .i64 0, .int .i64 0, .int .i64 0, .int .i64 2000, .int .i64 0, .slice none 0 0, .int .i64 0, .int .i64 1700, .int .i64 1850, .int .i64 0, .bool true, .int .i64 2] 38 (0, 0))) (ds := []) #[false, false, false, false] (by kernel_rfl) rfl rfl ⟨BKgc.out, BKgd.out⟩ (fun hHeld => ?_)
 generalize w6.drew = w7 at BKga BKgb BKgc BKgd HB hHeld ⊢
 refine take_ (i := 0) (N := some 9) (v := ?_) (a' := ?_) #[true, false, false, false] rfl rfl (by kernel_rfl) (fun _ _ _ h => h) (Or.inl ⟨by rfl, ?_⟩) hHeld ?_ ?_
 rotate_left
 ·rintro w' ⟨s0, s1⟩
  refine exec_load_blk 23 (.tmp 2) ?_ gc ?_ s0 hu23 rfl ?_
  ·exact rfl
  ·exact rfl
  ·kernel_rfl
 rotate_left
 ·simp only [Act.put, List.setIfInBounds_toArray, List.set_cons_zero, List.set_cons_succ]
  rfl
 refine take_ (i := 1) (N := some 10) (v := ?_) (a' := ?_) #[true, true, false, false] rfl rfl (by kernel_rfl) (fun _ _ _ h => h) (Or.inl ⟨by rfl, ?_⟩) hHeld ?_ ?_
 rotate_left
 ·rintro w' ⟨s0, s1⟩
  refine exec_load_blk 38 (.tmp 3) ?_ gd ?_ s1 hu38 rfl ?_
  ·exact rfl
  ·exact rfl
  ·kernel_rfl
 rotate_left
 ·simp only [Act.put, List.setIfInBounds_toArray, List.set_cons_zero, List.set_cons_succ]
  rfl
 refine one_ (i := 2) (N := none) #[true, true, true, false] rfl rfl (by kernel_rfl) (by decide) (fun K hK => ?_)
 refine step_store_row (by rfl) 23 (.tmp 0) (.tmp 9) rfl rfl ga rfl #[.string (⟨#[]⟩ : ByteArray), .string (⟨#[112, 105, 110, 101]⟩ : ByteArray), .int .i64 0, .int .i64 2000, .int .i64 3, .int .i64 1800, .int .i64 10, .int .i64 2, .int .i64 3, .int .i64 0, .int .i64 0] rfl BKga.out rfl rfl (by kernel_rfl) ?_; intro w8 hbox hgr; replace BKgb := q_ (blk_grown BKgb.out hgr (fun e => NBgagb.out.symm (Option.some.inj e))); replace BKgc := q_ (blk_grown BKgc.out hgr (fun e => NBgagc.out.symm (Option.some.inj e))); replace BKgd := q_ (blk_grown BKgd.out hgr (fun e => NBgagd.out.symm (Option.some.inj e))); replace BKga := Aside0.mk hbox; replace HB := q_ (pw_below_grown HB.out _ (pZ HB.out) hgr (fun k hk => by obtain rfl := Option.some.inj hk; exact GEga.out)); clear hbox hgr
 refine hK.out _ _ ⟨BKgc.out, BKgd.out⟩ (fun hHeld => ?_)
 refine one_ (i := 3) (N := none) #[true, true, true, true] rfl rfl (by kernel_rfl) (by decide) (fun K hK => ?_)
 refine step_store_row (by rfl) 38 (.tmp 1) (.tmp 10) rfl rfl gb rfl #[.string (⟨#[]⟩ : ByteArray), .string (⟨#[]⟩ : ByteArray), .string (⟨#[112, 105, 110, 101]⟩ : ByteArray), .int .i64 0, .int .i64 0, .int .i64 0, .int .i64 0, .int .i64 0, .int .i64 0, .int .i64 2000, .int .i64 0, .slice none 0 0, .int .i64 0, .int .i64 1700, .int .i64 1850, .int .i64 0, .bool true, .int .i64 2] rfl BKgb.out rfl rfl (by kernel_rfl) ?_; intro w9 hbox hgr; replace BKga := q_ (blk_grown BKga.out hgr (fun e => NBgagb.out (Option.some.inj e))); replace BKgc := q_ (blk_grown BKgc.out hgr (fun e => NBgbgc.out.symm (Option.some.inj e))); replace BKgd := q_ (blk_grown BKgd.out hgr (fun e => NBgbgd.out.symm (Option.some.inj e))); replace BKgb := Aside0.mk hbox; replace HB := q_ (pw_below_grown HB.out _ (pZ HB.out) hgr (fun k hk => by obtain rfl := Option.some.inj hk; exact GEgb.out)); clear hbox hgr
 refine hK.out _ _ ⟨BKgc.out, BKgd.out⟩ (fun hHeld => ?_)
 refine done_ (by kernel_rfl) ?_
 go_wp2
 (try simp only [Exit.inBlock, Exit.then])
 refine bodyPost_ret (results_cells2 rfl _ _ _ ga gb (by rfl) (by rfl) (run_loadVar_blk 23 ga BKga.out hu23 rfl (by kernel_rfl)) (run_loadVar_blk 38 gb BKgb.out hu38 rfl (by kernel_rfl))) rfl ?_
 exact ⟨rfl, HB.out⟩
def awId (i : Nat) : ByteArray := ⟨#[UInt8.ofNat (97 + i)]⟩
def awB (i : Nat) : S38 := ⟨awId i, ⟨#[]⟩, ⟨#[112, 105, 110, 101]⟩, 0, (⟨(⟨0, 0⟩ : S31), (⟨0, 0⟩ : S31), (⟨0, 2000⟩ : S31)⟩ : S33), 0, ([] : List S176), 0, (⟨1700, 1850, 0⟩ : S36), true, 2⟩
def awL (n : Nat) : List S38 := (List.range n).map awB
theorem awake_mean : moist_Mean.f 50 1700 1850 0 = some 1800 := by kernel_rfl
theorem awake_length (i : ByteArray) (g : Int) : board_Length.f i (⟨#[]⟩ : ByteArray) (⟨#[112, 105, 110, 101]⟩ : ByteArray) 0 0 0 0 0 0 2000 0 ([] : List S176) 0 1700 1850 0 true g = some 2000 := by kernel_rfl
theorem awake_fits (i : ByteArray) : order_Fits.f 50 (⟨#[]⟩ : ByteArray) (⟨#[112, 105, 110, 101]⟩ : ByteArray) 0 2000 3 1800 10 2 3 0 0 i (⟨#[]⟩ : ByteArray) (⟨#[112, 105, 110, 101]⟩ : ByteArray) 0 0 0 0 0 0 2000 0 ([] : List S176) 0 1700 1850 0 true 2 = some 0 := by
 unfold order_Fits.f
 rw [if_pos rfl, if_pos rfl, awake_length]
 rw [Option.bind_some, if_pos rfl, if_pos rfl, awake_mean]
 kernel_rfl
theorem awake_fits4 (i : ByteArray) : order_Fits.f 50 (⟨#[]⟩ : ByteArray) (⟨#[112, 105, 110, 101]⟩ : ByteArray) 0 2000 3 1800 10 2 3 0 0 i (⟨#[]⟩ : ByteArray) (⟨#[112, 105, 110, 101]⟩ : ByteArray) 0 0 0 0 0 0 2000 0 ([] : List S176) 0 1700 1850 0 true 4 = some 26 := by
 unfold order_Fits.f
 rw [if_pos rfl, if_pos rfl, awake_length]
 rw [Option.bind_some, if_pos rfl, if_pos rfl, awake_mean]
 kernel_rfl
theorem awake_least : order_Least.f (⟨#[]⟩ : ByteArray) (⟨#[112, 105, 110, 101]⟩ : ByteArray) 0 2000 3 1800 10 2 3 0 0 = some 8 := by kernel_rfl
theorem awake_most : order_Most.f (⟨#[]⟩ : ByteArray) (⟨#[112, 105, 110, 101]⟩ : ByteArray) 0 2000 3 1800 10 2 3 0 0 = some 13 := by kernel_rfl
theorem awake_filled : order_Filled.f 50 (⟨#[]⟩ : ByteArray) (⟨#[112, 105, 110, 101]⟩ : ByteArray) 0 2000 3 1800 10 2 3 0 0 (awL 8) = some true := by
 kernel_rfl
theorem awake_encode : order_Encode.f 50 (⟨#[]⟩ : ByteArray) (⟨#[]⟩ : ByteArray) 0 0 0 0 0 0 0 0 0 = some (⟨#[0, 0, 9, 0, 0, 0, 0, 0, 0, 0, 0, 0]⟩, 0) := by
 kernel_rfl
theorem awake_decode : order_Decode.f 50 ⟨#[0, 0, 9, 0, 0, 0, 0, 0, 0, 0, 0, 0]⟩ = some (⟨#[]⟩, ⟨#[]⟩, 0, 0, 0, 0, 0, 0, 0, 0, 0, 0) := by
 kernel_rfl
theorem awake_check : order_Check.f 50 (⟨#[]⟩ : ByteArray) (⟨#[112, 105, 110, 101]⟩ : ByteArray) 0 2000 3 1800 10 2 3 0 0 [] = some 6 := by
 kernel_rfl
theorem awInfo38 : (Tryd.prog.info? 38).map (fun i => (i.zero, i.size, i.bytes)) = some (some (.agg #[(.string ⟨#[]⟩), (.string ⟨#[]⟩), (.string ⟨#[]⟩), (.int .i64 0), (.int .i64 0), (.int .i64 0), (.int .i64 0), (.int .i64 0), (.int .i64 0), (.int .i64 0), (.int .i64 0), (.slice none 0 0), (.int .i64 0), (.int .i64 0), (.int .i64 0), (.int .i64 0), (.bool false), (.int .i64 0)]), 18, 184) := by kernel_rfl
theorem awId_eq (i : Nat) (hi : i < 8) : strOfNums [97 + (i : Int)] = awId i :=
 match i, hi with
 | 0, _ => by kernel_rfl
 | 1, _ => by kernel_rfl
 | 2, _ => by kernel_rfl
 | 3, _ => by kernel_rfl
 | 4, _ => by kernel_rfl
 | 5, _ => by kernel_rfl
 | 6, _ => by kernel_rfl
 | 7, _ => by kernel_rfl
 | n + 8, h => absurd h (by omega)
theorem awL_succ (i : Nat) : awL (i + 1) = awL i ++ [awB i] := by simp [awL, List.range_succ]
theorem awL_length (i : Nat) : (awL i).length = i := by simp [awL]
theorem awake_filled1 : order_Filled.f 50 (⟨#[]⟩ : ByteArray) (⟨#[112, 105, 110, 101]⟩ : ByteArray) 0 2000 3 1800 10 2 3 0 0 ((awL 8).drop 1) = some false := by kernel_rfl
theorem awake_filled2 : order_Filled.f 50 (⟨#[]⟩ : ByteArray) (⟨#[112, 105, 110, 101]⟩ : ByteArray) 0 2000 3 1800 10 2 3 0 0 ((awL 8).take 7 ++ [awB 0]) = some false := by kernel_rfl
def awake_T12 : Bool × List (List Nat × List Nat) := (true, [([], []), ([], []), ([0, 1], [0, 1]), ([2], [2]), ([3, 2], [3]), ([4], [4]), ([4], [4]), ([5, 6, 4, 4], [4, 5, 6]), ([7, 4], [4, 7]), ([4, 8], [4, 8]), ([9, 7], [9]), ([10], [10]), ([10], [10]), ([11, 12, 10, 10], [10, 11, 12]), ([13, 10], [10, 13]), ([10, 14], [10, 14]), ([15, 13], [15]), ([16], [16]), ([16], [16]), ([18, 16], [16, 18]), ([17, 19, 16, 16], [16, 17, 19]), ([16, 20], [16, 20]), ([21, 20], [21]), ([22], [22]), ([22], [22]), ([24, 22], [22, 24]), ([22], [22]), ([26, 22], [22, 26]), ([27, 22], [22, 27]), ([28, 22], [22, 28]), ([25, 29, 22, 22], [22, 25, 29]), ([23, 30, 30, 22], [22, 23, 30]), ([22, 31], [22, 31])])
def awake_B12 : List Nat := [0, 0, 3, 7, 15, 31, 31, 127, 255, 511, 1023, 2047, 2047, 8191, 16383, 32767, 65535, 131071, 131071, 393215, 1048575, 2097151, 4194303, 8388607, 8388607, 25165823, 8388607, 75497471, 209715199, 478150655, 1065353215, 2147483647, 4294967295]
theorem awake_tab12 : rtab .any (opsOf Tryd.f11 12) = awake_T12 := by kernel_rfl
theorem awake_bits12 : waitsOk awake_T12.2 awake_B12 = true := by kernel_rfl
set_option maxHeartbeats 8000000 in
set_option maxRecDepth 100000 in
theorem awake_calls (w : World) :
  Calls Tryd.prog 11 #[] w fun e w' => e = .returned (.bool true) ∧ Below w.heap.size w w' := by
 have hu23 := Tryd.underlying23
 have hu38 := Tryd.underlying38
 have HB := q_ (Below.refl w.heap.size w)
 go_enter Tryd.func11, Tryd.ntmps11
 go_wp2_with (first | (go_at_call 26; (with_reducible refine (sample_calls _).mono ?_); rintro e w1 ⟨rfl, hb⟩; replace HB := q_ (pT HB.out hb); clear hb) | ((with_reducible refine gate_dst (N := 1) rfl ?_); refine box_event ?hg (N := 1) ?hd (cs := #[.string (⟨#[]⟩ : ByteArray), .string (⟨#[]⟩ : ByteArray), .int .i64 0, .int .i64 0, .int .i64 0, .int .i64 0, .int .i64 0, .int .i64 0, .int .i64 0, .int .i64 0, .int .i64 0]) (t := 23) ?hr ?_; (case hd => rfl); (case hg => rfl); (case hr => first | (go_simp; done) | (go_simp; rfl)); intro go hg w2 hbox hb; have BKgo := Aside0.mk hbox; have GEgo := q_ (show w.heap.size ≤ go by rw [hg]; exact pZ HB.out); replace HB := q_ (pT HB.out hb); clear hb hbox hg) | ((with_reducible refine gate_dst (N := 2) rfl ?_); refine box_event ?hg (N := 2) ?hd (cs := #[.string (⟨#[]⟩ : ByteArray), .string (⟨#[]⟩ : ByteArray), .string (⟨#[]⟩ : ByteArray), .int .i64 0, .int .i64 0, .int .i64 0, .int .i64 0, .int .i64 0, .int .i64 0, .int .i64 0, .int .i64 0, .slice none 0 0, .int .i64 0, .int .i64 0, .int .i64 0, .int .i64 0, .bool false, .int .i64 0]) (t := 38) ?hr ?_; (case hd => rfl); (case hg => rfl); (case hr => first | (go_simp; done) | (go_simp; rfl)); intro gb hg w3 hbox hb; have NBgogb := q_ (show go ≠ gb by rw [hg]; exact Nat.ne_of_lt (blk_lt BKgo.out)); replace BKgo := q_ (bB BKgo.out hb); have BKgb := Aside0.mk hbox; have GEgb := q_ (show w.heap.size ≤ gb by rw [hg]; exact pZ HB.out); replace HB := q_ (pT HB.out hb); clear hb hbox hg) | (refine wpList_store_row rfl 23 (.tmp 1) (.tmp 12) rfl go rfl #[.string (⟨#[]⟩ : ByteArray), .string (⟨#[112, 105, 110, 101]⟩ : ByteArray), .int .i64 0, .int .i64 2000, .int .i64 3, .int .i64 1800, .int .i64 10, .int .i64 2, .int .i64 3, .int .i64 0, .int .i64 0] rfl BKgo.out rfl rfl (by kernel_rfl) ?_; intro w4 hbox hgr; replace BKgb := q_ (blk_grown BKgb.out hgr (fun e => NBgogb.out.symm (Option.some.inj e))); replace BKgo := Aside0.mk hbox; replace HB := q_ (pw_below_grown HB.out _ (pZ HB.out) hgr (fun k hk => by obtain rfl := Option.some.inj hk; exact GEgo.out)); clear hbox hgr) | (refine wpList_store_row rfl 38 (.tmp 2) (.tmp 13) rfl gb rfl #[.string (⟨#[]⟩ : ByteArray), .string (⟨#[]⟩ : ByteArray), .string (⟨#[112, 105, 110, 101]⟩ : ByteArray), .int .i64 0, .int .i64 0, .int .i64 0, .int .i64 0, .int .i64 0, .int .i64 0, .int .i64 2000, .int .i64 0, .slice none 0 0, .int .i64 0, .int .i64 1700, .int .i64 1850, .int .i64 0, .bool true, .int .i64 2] rfl BKgb.out rfl rfl (by kernel_rfl) ?_; intro w5 hbox hgr; replace BKgo := q_ (blk_grown BKgo.out hgr (fun e => NBgogb.out (Option.some.inj e))); replace BKgb := Aside0.mk hbox; replace HB := q_ (pw_below_grown HB.out _ (pZ HB.out) hgr (fun k hk => by obtain rfl := Option.some.inj hk; exact GEgb.out)); clear hbox hgr) | (refine wpList_load_cells (by rfl) 38 (.tmp 2) rfl ⟨gb, 0, none⟩ (by rfl) _ _ (cells_of_blk BKgb.out) Tryd.underlying38 rfl (by kernel_rfl) ?_) | ((with_reducible refine gate_dst (N := 3) rfl ?_); refine box_event ?hg (N := 3) ?hd (cs := #[.string (⟨#[]⟩ : ByteArray), .string (⟨#[]⟩ : ByteArray), .string (⟨#[]⟩ : ByteArray), .int .i64 0, .int .i64 0, .int .i64 0, .int .i64 0, .int .i64 0, .int .i64 0, .int .i64 0, .int .i64 0, .slice none 0 0, .int .i64 0, .int .i64 0, .int .i64 0, .int .i64 0, .bool false, .int .i64 0]) (t := 38) ?hr ?_; (case hd => rfl); (case hg => rfl); (case hr => first | (go_simp; done) | (go_simp; rfl)); intro gc hg w6 hbox hb; have NBgogc := q_ (show go ≠ gc by rw [hg]; exact Nat.ne_of_lt (blk_lt BKgo.out)); replace BKgo := q_ (bB BKgo.out hb); have NBgbgc := q_ (show gb ≠ gc by rw [hg]; exact Nat.ne_of_lt (blk_lt BKgb.out)); replace BKgb := q_ (bB BKgb.out hb); have BKgc := Aside0.mk hbox; have GEgc := q_ (show w.heap.size ≤ gc by rw [hg]; exact pZ HB.out); replace HB := q_ (pT HB.out hb); clear hb hbox hg) | (refine wpList_store_row rfl 38 (.tmp 3) (.tmp 14) rfl gc rfl #[.string (⟨#[]⟩ : ByteArray), .string (⟨#[]⟩ : ByteArray), .string (⟨#[112, 105, 110, 101]⟩ : ByteArray), .int .i64 0, .int .i64 0, .int .i64 0, .int .i64 0, .int .i64 0, .int .i64 0, .int .i64 2000, .int .i64 0, .slice none 0 0, .int .i64 0, .int .i64 1700, .int .i64 1850, .int .i64 0, .bool true, .int .i64 2] rfl BKgc.out rfl rfl (by kernel_rfl) ?_; intro w7 hbox hgr; replace BKgo := q_ (blk_grown BKgo.out hgr (fun e => NBgogc.out (Option.some.inj e))); replace BKgb := q_ (blk_grown BKgb.out hgr (fun e => NBgbgc.out (Option.some.inj e))); replace BKgc := Aside0.mk hbox; replace HB := q_ (pw_below_grown HB.out _ (pZ HB.out) hgr (fun k hk => by obtain rfl := Option.some.inj hk; exact GEgc.out)); clear hbox hgr) | (refine wpList_store_cell rfl 3 (.tmp 15) (.const (.int .i64 4)) rfl gc 17 (by rfl) (.int .i64 4) (by rfl) rfl rfl BKgc.out (Nat.le_of_ble_eq_true rfl) #[.string (⟨#[]⟩ : ByteArray), .string (⟨#[]⟩ : ByteArray), .string (⟨#[112, 105, 110, 101]⟩ : ByteArray), .int .i64 0, .int .i64 0, .int .i64 0, .int .i64 0, .int .i64 0, .int .i64 0, .int .i64 2000, .int .i64 0, .slice none 0 0, .int .i64 0, .int .i64 1700, .int .i64 1850, .int .i64 0, .bool true, .int .i64 4] rfl (by kernel_rfl) ?_; intro w8 hbox hgr; replace BKgo := q_ (blk_grown BKgo.out hgr (fun e => NBgogc.out (Option.some.inj e))); replace BKgb := q_ (blk_grown BKgb.out hgr (fun e => NBgbgc.out (Option.some.inj e))); replace BKgc := Aside0.mk hbox; replace HB := q_ (pw_below_grown HB.out _ (pZ HB.out) hgr (fun k hk => by obtain rfl := Option.some.inj hk; exact GEgc.out)); clear hbox hgr))
 go_loopg [4, 5] 9 (fun kq v4 v5 w' => ∃ (i : Nat) (s : ByteArray), v5 = .int .i64 (i : Int) ∧ Aside0 (i + kq = 9 ∧ i ≤ 8) ∧ Aside0 (Kd.S k38 38 w' w.heap.size (fun k_ => k_ ≠ gb ∧ k_ ≠ gc) v4 (awL i)) ∧ Aside0 (w'.heap[go]? = some (.cells #[.string (⟨#[]⟩ : ByteArray), .string (⟨#[112, 105, 110, 101]⟩ : ByteArray), .int .i64 0, .int .i64 2000, .int .i64 3, .int .i64 1800, .int .i64 10, .int .i64 2, .int .i64 3, .int .i64 0, .int .i64 0] 23 (0, 0))) ∧ Aside0 (w'.heap[gb]? = some (.cells #[.string s, .string (⟨#[]⟩ : ByteArray), .string (⟨#[112, 105, 110, 101]⟩ : ByteArray), .int .i64 0, .int .i64 0, .int .i64 0, .int .i64 0, .int .i64 0, .int .i64 0, .int .i64 2000, .int .i64 0, .slice none 0 0, .int .i64 0, .int .i64 1700, .int .i64 1850, .int .i64 0, .bool true, .int .i64 2] 38 (0, 0))) ∧ Aside0 (w'.heap[gc]? = some (.cells #[.string (⟨#[]⟩ : ByteArray), .string (⟨#[]⟩ : ByteArray), .string (⟨#[112, 105, 110, 101]⟩ : ByteArray), .int .i64 0, .int .i64 0, .int .i64 0, .int .i64 0, .int .i64 0, .int .i64 0, .int .i64 2000, .int .i64 0, .slice none 0 0, .int .i64 0, .int .i64 1700, .int .i64 1850, .int .i64 0, .bool true, .int .i64 4] 38 (0, 0))) ∧ Aside0 (Below w.heap.size w w'))
 case atStart => exact ⟨0, (⟨#[]⟩ : ByteArray), rfl, ⟨rfl, by decide⟩, ⟨Kd.S_nil _ _ _ _ _⟩, BKgo, BKgb, BKgc, HB⟩
 case round =>
  clear BKgo BKgb BKgc HB
  obtain ⟨i, s, rfl, HI, HO, BKgo, BKgb, BKgc, HB⟩ := hrel
  have hi9 := HI.out
  clear HI
  cases gk with
  | zero => omega
  | succ k1 =>
   by_cases hi : i < 8
   ·have hlt : decide ((i : Int) < 8) = true := decide_eq_true (by omega)
    go_wp2_with (first | ((with_reducible refine gate_dst (N := 23) rfl ?_); refine Kd.R_lit (Kd.int .u8) _ 5 ?hg (N := 23) ?hd (xs := ([97 + (i : Int)] : List Int)) (inner := [.int .u8 (97 + (i : Int))]) (ok := fun _ => True) (okp := fun _ => True) ?hr ?hp (fun _ hk => hk) trivial (Below.refl _ _) (Nat.le_refl _) (by simp) ?_; (case hd => rfl); (case hg => rfl); (case hr => first | (go_simp; done) | (go_simp; rfl)); (case hp => exact (Reps.one (show Kd.M (Kd.int .u8) _ _ _ (97 + (i : Int)) [.int .u8 (97 + (i : Int))] from rfl) (Reps.none _ _))); intro v2 w12 ho13 hb hg_ hnew_; clear hg_ hnew_; have hcv := own_string (P := Tryd.prog) Tryd.underlying57 Tryd.underlying5 Tryd.underlying9 (Kd.own_of_R ho13); (try simp only [Int.reduceToNat] at hcv); rw [awId_eq i hi] at hcv; replace BKgo := q_ (bB BKgo.out hb); replace BKgb := q_ (bB BKgb.out hb); replace BKgc := q_ (bB BKgc.out hb); replace HO := q_ (Kd.S_below HO.out hb); replace HB := q_ (pT HB.out hb); clear hb ho13) | (refine wpList_store_cell rfl 9 (.tmp 25) (.tmp 24) rfl gb 0 (by rfl) (.string (awId i)) (by rfl) rfl rfl BKgb.out (Nat.le_of_ble_eq_true rfl) #[.string (awId i), .string (⟨#[]⟩ : ByteArray), .string (⟨#[112, 105, 110, 101]⟩ : ByteArray), .int .i64 0, .int .i64 0, .int .i64 0, .int .i64 0, .int .i64 0, .int .i64 0, .int .i64 2000, .int .i64 0, .slice none 0 0, .int .i64 0, .int .i64 1700, .int .i64 1850, .int .i64 0, .bool true, .int .i64 2] rfl (by kernel_rfl) ?_; intro w13 hbox hgr; replace BKgo := q_ (blk_grown BKgo.out hgr (fun e => NBgogb.out (Option.some.inj e))); replace BKgc := q_ (blk_grown BKgc.out hgr (fun e => NBgbgc.out.symm (Option.some.inj e))); replace BKgb := Aside0.mk hbox; replace HB := q_ (pw_below_grown HB.out _ (pZ HB.out) hgr (fun k hk => by obtain rfl := Option.some.inj hk; exact GEgb.out)); replace HO := q_ (Kd.S_grown HO.out hgr (fun k hk e => hk.1 (Option.some.inj e))); clear hbox hgr) | (refine wpList_load_cells (by rfl) 38 (.tmp 2) rfl ⟨gb, 0, none⟩ (by rfl) _ _ (cells_of_blk BKgb.out) Tryd.underlying38 rfl (by kernel_rfl) ?_) | ((with_reducible refine gate_builtin (b := .append) (xs := #[.tmp 26, .tmp 28]) rfl ?_); at_builtin; refine Kd.S_append k38 (w0 := w) w.heap.size rfl (.tmp 26) (.tmp 28) 42 38 (.agg #[.string (⟨#[]⟩ : ByteArray), .string (⟨#[]⟩ : ByteArray), .string (⟨#[]⟩ : ByteArray), .int .i64 0, .int .i64 0, .int .i64 0, .int .i64 0, .int .i64 0, .int .i64 0, .int .i64 0, .int .i64 0, .slice none 0 0, .int .i64 0, .int .i64 0, .int .i64 0, .int .i64 0, .bool false, .int .i64 0]) 184 rfl Tryd.underlying42 awInfo38 rfl (by decide) (by omega) u4 (awL i) (awB i) [.string (awId i), .string (⟨#[]⟩ : ByteArray), .string (⟨#[112, 105, 110, 101]⟩ : ByteArray), .int .i64 0, .int .i64 0, .int .i64 0, .int .i64 0, .int .i64 0, .int .i64 0, .int .i64 2000, .int .i64 0, .slice none 0 0, .int .i64 0, .int .i64 1700, .int .i64 1850, .int .i64 0, .bool true, .int .i64 2] (fun k_ => k_ ≠ gb ∧ k_ ≠ gc) (fun _ => False) rfl (by first | (go_simp; done) | (go_simp; rfl)) ?aP (fun k_ hk_ => hk_.elim) ?aF ?aO ?aB ?aS ?aL ?_; (case aP => exact k38_mkM _ _ _ (awB i) (Kd.R_nil _ _ _ _ _)); (case aB => exact HB.out); (case aF => exact (fun k_ hk => ⟨Kd.freshB BKgb.out k_ hk, Kd.freshB BKgc.out k_ hk⟩)); (case aO => exact Kd.S_mono HO.out (fun k hk => ⟨hk, fun e => e⟩)); (case aS => exact pZ HB.out); (case aL => have hl := awL_length i; omega); intro v6 w18 ho hb hg hat; replace BKgo := q_ (blk_grown BKgo.out hg (Kd.S_ne HO.out BKgo.out (by decide))); replace BKgb := q_ (blk_grown BKgb.out hg (Kd.S_away HO.out (fun _ hk => hk.1))); replace BKgc := q_ (blk_grown BKgc.out hg (Kd.S_away HO.out (fun _ hk => hk.2))); replace HO := Aside0.mk ho; replace HB := Aside0.mk hb; clear ho hb hg hat))
    go_roundg k1
    case measure => omega
    case rel => exact ⟨i + 1, awId i, rfl, ⟨by omega, by omega⟩, ⟨by rw [awL_succ]; exact HO.out⟩, BKgo, BKgb, BKgc, HB⟩
   ·skip
    have hlt : decide ((i : Int) < 8) = false := decide_eq_false (by omega)
    obtain rfl : i = 8 := by omega
    clear hi hlt
    have hlt : decide (((8 : Nat) : Int) < 8) = false := rfl
    obtain ⟨gl, c4, rfl, hc4, HC⟩ : ∃ gl c4, u4 = .slice (some ⟨gl, 0, none⟩) 8 c4 ∧ 8 ≤ c4 ∧ Kd.C k38 wr (some ⟨gl, 0, none⟩) 8 (awL 8) := by
     obtain ⟨inner, hown⟩ := Kd.S_own HO.out
     have hS := HO.out
     rcases hown.2 with ⟨e, h0⟩ | ⟨g, cp, cur, e, _⟩
     ·rw [e] at hS
      exact absurd (Kd.S_reads' hS).1 (by decide)
     ·rw [e] at hS
      exact ⟨g, cp, e, (Kd.S_reads' hS).2.1, (Kd.S_reads' hS).2.2⟩
    replace HC := Aside0.mk HC
    have hc41 : (c4 = 1) = False := eq_false (by omega)
    have hc47 : (7 ≤ (c4 : Int)) = True := eq_true (by omega)
    clear HO
    have HWc := q_ (Below.refl wr.heap.size wr)
    go_upto_region 12 with (first | ((with_reducible refine gate_callee (f := 22) rfl ?_); refine goesL_ (some 32) rfl rfl Tryd.func22 (by kernel_rfl) rfl #[.agg #[.string (⟨#[]⟩ : ByteArray), .string (⟨#[]⟩ : ByteArray), .int .i64 0, .int .i64 0, .int .i64 0, .int .i64 0, .int .i64 0, .int .i64 0, .int .i64 0, .int .i64 0, .int .i64 0]] rfl (by first | rfl | (simp only [List.map_toArray, List.map_cons, List.map_nil]; rfl)) ?_; refine (order_Encode.calls 50 (⟨#[]⟩ : ByteArray) (⟨#[]⟩ : ByteArray) 0 0 0 0 0 0 0 0 0 _ _ _ awake_encode).mono ?_; rintro e w15 ⟨rfl, hb⟩; refine ⟨_, rfl, ?_⟩; replace HB := q_ (pT HB.out hb); replace HWc := q_ (pT HWc.out hb); clear hb) | ((with_reducible refine gate_callee (f := 24) rfl ?_); refine goesL_ (some 37) rfl rfl Tryd.func24 (by kernel_rfl) rfl #[.string (⟨#[0, 0, 9, 0, 0, 0, 0, 0, 0, 0, 0, 0]⟩ : ByteArray)] rfl (by first | rfl | (simp only [List.map_toArray, List.map_cons, List.map_nil]; rfl)) ?_; refine (order_Decode.calls 50 (⟨#[0, 0, 9, 0, 0, 0, 0, 0, 0, 0, 0, 0]⟩ : ByteArray) _ _ _ _ _ _ _ _ _ _ _ _ _ awake_decode).mono ?_; rintro e w16 ⟨rfl, hb⟩; refine ⟨_, rfl, ?_⟩; replace HB := q_ (pT HB.out hb); replace HWc := q_ (pT HWc.out hb); clear hb) | ((with_reducible refine gate_dst (N := 8) rfl ?_); refine box_event ?hg (N := 8) ?hd (cs := #[.string (⟨#[]⟩ : ByteArray), .string (⟨#[]⟩ : ByteArray), .int .i64 0, .int .i64 0, .int .i64 0, .int .i64 0, .int .i64 0, .int .i64 0, .int .i64 0, .int .i64 0, .int .i64 0]) (t := 23) ?hr ?_; (case hd => rfl); (case hg => rfl); (case hr => first | (go_simp; done) | (go_simp; rfl)); intro gx hg w17 hbox hb; have GEgx := q_ (show w.heap.size ≤ gx by rw [hg]; exact pZ HB.out); have GWgx := q_ (show wr.heap.size ≤ gx by rw [hg]; exact pZ HWc.out); have BKgx := Aside0.mk hbox; replace HB := q_ (pT HB.out hb); replace HWc := q_ (pT HWc.out hb); clear hb hbox hg) | (refine wpList_store_row rfl 23 (.tmp 8) (.tmp 38) rfl gx rfl #[.string (⟨#[]⟩ : ByteArray), .string (⟨#[]⟩ : ByteArray), .int .i64 0, .int .i64 0, .int .i64 0, .int .i64 0, .int .i64 0, .int .i64 0, .int .i64 0, .int .i64 0, .int .i64 0] rfl BKgx.out rfl rfl (by kernel_rfl) ?_; intro w18 hbox hgr; replace BKgx := Aside0.mk hbox; replace HB := q_ (pw_below_grown HB.out _ (pZ HB.out) hgr (fun k hk => by obtain rfl := Option.some.inj hk; exact GEgx.out)); replace HWc := q_ (pw_below_grown HWc.out _ (pZ HWc.out) hgr (fun k hk => by obtain rfl := Option.some.inj hk; exact GWgx.out)); clear hbox hgr))
    replace HB := q_ (pd_ HB.out)
    replace BKgx := q_ (bW BKgx.out)
    replace HWc := q_ (pd_ HWc.out)
    try simp only [Act.put, List.setIfInBounds_toArray, List.set_cons_zero, List.set_cons_succ]
    refine start_ (n := 33) (S := fun w' => Below wr.heap.size wr w') (ds := []) #[false, false, false, false, false, false, false, false, false, false, false, false, false, false, false, false, false, false, false, false, false, false, false, false, false, false, false, false, false, false, false, false, false] (by kernel_rfl) rfl rfl HWc.out (fun hHeld => ?_)
    refine with_tabW awake_tab12 awake_bits12 (fun HT_ HW_ => ?_)
    clear hHeld
    generalize w18.drew = w19 at HB BKgx HWc ⊢
    refine take_ (i := 0) (N := some 40) (v := ?_) (a' := ?_) #[true, false, false, false, false, false, false, false, false, false, false, false, false, false, false, false, false, false, false, false, false, false, false, false, false, false, false, false, false, false, false, false, false] rfl rfl (take_ofW HT_.out HW_.out (by kernel_rfl)) (fun _ _ _ h => h) (Or.inl ⟨by rfl, ?_⟩) HWc.out ?_ ?_
    rotate_left
    ·intro w' hw
     refine exec_load_blk 23 (.tmp 1) ?_ go ?_ (bB BKgo.out hw) hu23 rfl ?_
     ·exact rfl
     ·exact rfl
     ·kernel_rfl
    rotate_left
    ·simp only [Act.put, List.setIfInBounds_toArray, List.set_cons_zero, List.set_cons_succ, i64_w, i32_w]
     rfl
    refine take_ (i := 1) (N := some 41) (v := ?_) (a' := ?_) #[true, true, false, false, false, false, false, false, false, false, false, false, false, false, false, false, false, false, false, false, false, false, false, false, false, false, false, false, false, false, false, false, false] rfl rfl (take_ofW HT_.out HW_.out (by kernel_rfl)) (fun _ _ _ h => h) (Or.inl ⟨by rfl, ?_⟩) HWc.out ?_ ?_
    rotate_left
    ·intro w' hw
     refine exec_load_blk 38 (.tmp 2) ?_ gb ?_ (bB BKgb.out hw) hu38 rfl ?_
     ·exact rfl
     ·exact rfl
     ·kernel_rfl
    rotate_left
    ·simp only [Act.put, List.setIfInBounds_toArray, List.set_cons_zero, List.set_cons_succ, i64_w, i32_w]
     rfl
    refine one_ (i := 2) (N := some 42) #[true, true, true, false, false, false, false, false, false, false, false, false, false, false, false, false, false, false, false, false, false, false, false, false, false, false, false, false, false, false, false, false, false] rfl rfl (one_of HT_.out (by kernel_rfl)) (by decide) (fun K hK => ?_)
    refine goes_ Tryd.func14 (by kernel_rfl) rfl #[.agg #[.string (⟨#[]⟩ : ByteArray), .string (⟨#[112, 105, 110, 101]⟩ : ByteArray), .int .i64 0, .int .i64 2000, .int .i64 3, .int .i64 1800, .int .i64 10, .int .i64 2, .int .i64 3, .int .i64 0, .int .i64 0], .agg #[.string s, .string (⟨#[]⟩ : ByteArray), .string (⟨#[112, 105, 110, 101]⟩ : ByteArray), .int .i64 0, .int .i64 0, .int .i64 0, .int .i64 0, .int .i64 0, .int .i64 0, .int .i64 2000, .int .i64 0, .slice none 0 0, .int .i64 0, .int .i64 1700, .int .i64 1850, .int .i64 0, .bool true, .int .i64 2]] (by rfl) rfl rfl (by first | rfl | (simp only [List.map_toArray, List.map_cons, List.map_nil]; rfl)) ?_
    refine (order_Fits.calls 50 (⟨#[]⟩ : ByteArray) (⟨#[112, 105, 110, 101]⟩ : ByteArray) 0 2000 3 1800 10 2 3 0 0 s (⟨#[]⟩ : ByteArray) (⟨#[112, 105, 110, 101]⟩ : ByteArray) 0 0 0 0 0 0 2000 0 _ _ ([] : List S176) 0 1700 1850 0 true 2 0 _ ?_ ?_ (awake_fits _)).mono ?_
    ·exact Kd.C_nil _ _
    ·exact Nat.le_refl _
    rintro e w20 ⟨rfl, hb⟩
    refine ⟨_, rfl, ?_⟩
    replace HB := q_ (pT HB.out hb)
    replace BKgx := q_ (bB BKgx.out hb)
    replace HWc := q_ (pT HWc.out hb)
    clear hb
    refine hK.out _ _ HWc.out (fun hHeld => ?_)
    clear hK K hHeld
    refine norm_ (a' := ?_) ?_ ?_
    rotate_left
    ·show Act.put _ (some 42) _ = _
     simp only [Act.put, List.setIfInBounds_toArray, List.set_cons_zero, List.set_cons_succ, i64_w, i32_w]
     rfl
    refine pure_ (i := 3) (N := some 43) (v := ?_) (a' := ?_) #[true, true, true, true, false, false, false, false, false, false, false, false, false, false, false, false, false, false, false, false, false, false, false, false, false, false, false, false, false, false, false, false, false] rfl rfl (any_of HT_.out (by kernel_rfl)) (fun _ _ _ h => h) (Or.inl ⟨by rfl, ?_⟩) ?_ ?_
    rotate_left
    ·intro w'
     go_simp
     with_reducible rfl
    rotate_left
    ·simp only [Act.put, List.setIfInBounds_toArray, List.set_cons_zero, List.set_cons_succ, i64_w, i32_w]
     rfl
    refine pure_ (i := 4) (N := some 44) (v := ?_) (a' := ?_) #[true, true, true, true, true, false, false, false, false, false, false, false, false, false, false, false, false, false, false, false, false, false, false, false, false, false, false, false, false, false, false, false, false] rfl rfl (any_of HT_.out (by kernel_rfl)) (fun _ _ _ h => h) (Or.inl ⟨by rfl, ?_⟩) ?_ ?_
    rotate_left
    ·intro w'
     go_simp
     with_reducible rfl
    rotate_left
    ·simp only [Act.put, List.setIfInBounds_toArray, List.set_cons_zero, List.set_cons_succ, i64_w, i32_w]
     rfl
    refine take_ (i := 5) (N := some 45) (v := ?_) (a' := ?_) #[true, true, true, true, true, true, false, false, false, false, false, false, false, false, false, false, false, false, false, false, false, false, false, false, false, false, false, false, false, false, false, false, false] rfl rfl (take_ofW HT_.out HW_.out (by kernel_rfl)) (fun _ _ _ h => h) (Or.inl ⟨by rfl, ?_⟩) HWc.out ?_ ?_
    rotate_left
    ·intro w' hw
     refine exec_load_blk 23 (.tmp 1) ?_ go ?_ (bB BKgo.out hw) hu23 rfl ?_
     ·exact rfl
     ·exact rfl
     ·kernel_rfl
    rotate_left
    ·simp only [Act.put, List.setIfInBounds_toArray, List.set_cons_zero, List.set_cons_succ, i64_w, i32_w]
     rfl
    refine take_ (i := 6) (N := some 46) (v := ?_) (a' := ?_) #[true, true, true, true, true, true, true, false, false, false, false, false, false, false, false, false, false, false, false, false, false, false, false, false, false, false, false, false, false, false, false, false, false] rfl rfl (take_ofW HT_.out HW_.out (by kernel_rfl)) (fun _ _ _ h => h) (Or.inl ⟨by rfl, ?_⟩) HWc.out ?_ ?_
    rotate_left
    ·intro w' hw
     refine exec_load_blk 38 (.tmp 3) ?_ gc ?_ (bB BKgc.out hw) hu38 rfl ?_
     ·exact rfl
     ·exact rfl
     ·kernel_rfl
    rotate_left
    ·simp only [Act.put, List.setIfInBounds_toArray, List.set_cons_zero, List.set_cons_succ, i64_w, i32_w]
     rfl
    refine one_ (i := 7) (N := some 47) #[true, true, true, true, true, true, true, true, false, false, false, false, false, false, false, false, false, false, false, false, false, false, false, false, false, false, false, false, false, false, false, false, false] rfl rfl (one_of HT_.out (by kernel_rfl)) (by decide) (fun K hK => ?_)
    refine goes_ Tryd.func14 (by kernel_rfl) rfl #[.agg #[.string (⟨#[]⟩ : ByteArray), .string (⟨#[112, 105, 110, 101]⟩ : ByteArray), .int .i64 0, .int .i64 2000, .int .i64 3, .int .i64 1800, .int .i64 10, .int .i64 2, .int .i64 3, .int .i64 0, .int .i64 0], .agg #[.string (⟨#[]⟩ : ByteArray), .string (⟨#[]⟩ : ByteArray), .string (⟨#[112, 105, 110, 101]⟩ : ByteArray), .int .i64 0, .int .i64 0, .int .i64 0, .int .i64 0, .int .i64 0, .int .i64 0, .int .i64 2000, .int .i64 0, .slice none 0 0, .int .i64 0, .int .i64 1700, .int .i64 1850, .int .i64 0, .bool true, .int .i64 4]] (by rfl) rfl rfl (by first | rfl | (simp only [List.map_toArray, List.map_cons, List.map_nil]; rfl)) ?_
    refine (order_Fits.calls 50 (⟨#[]⟩ : ByteArray) (⟨#[112, 105, 110, 101]⟩ : ByteArray) 0 2000 3 1800 10 2 3 0 0 (⟨#[]⟩ : ByteArray) (⟨#[]⟩ : ByteArray) (⟨#[112, 105, 110, 101]⟩ : ByteArray) 0 0 0 0 0 0 2000 0 _ _ ([] : List S176) 0 1700 1850 0 true 4 26 _ ?_ ?_ (awake_fits4 _)).mono ?_
    ·exact Kd.C_nil _ _
    ·exact Nat.le_refl _
    rintro e w21 ⟨rfl, hb⟩
    refine ⟨_, rfl, ?_⟩
    replace HB := q_ (pT HB.out hb)
    replace BKgx := q_ (bB BKgx.out hb)
    replace HWc := q_ (pT HWc.out hb)
    clear hb
    refine hK.out _ _ HWc.out (fun hHeld => ?_)
    clear hK K hHeld
    refine norm_ (a' := ?_) ?_ ?_
    rotate_left
    ·show Act.put _ (some 47) _ = _
     simp only [Act.put, List.setIfInBounds_toArray, List.set_cons_zero, List.set_cons_succ, i64_w, i32_w]
     rfl
    refine pure_ (i := 8) (N := some 48) (v := ?_) (a' := ?_) #[true, true, true, true, true, true, true, true, true, false, false, false, false, false, false, false, false, false, false, false, false, false, false, false, false, false, false, false, false, false, false, false, false] rfl rfl (any_of HT_.out (by kernel_rfl)) (fun _ _ _ h => h) (Or.inl ⟨by rfl, ?_⟩) ?_ ?_
    rotate_left
    ·intro w'
     go_simp
     with_reducible rfl
    rotate_left
    ·simp only [Act.put, List.setIfInBounds_toArray, List.set_cons_zero, List.set_cons_succ, i64_w, i32_w]
     rfl
    refine pure_ (i := 9) (N := some 49) (v := ?_) (a' := ?_) #[true, true, true, true, true, true, true, true, true, true, false, false, false, false, false, false, false, false, false, false, false, false, false, false, false, false, false, false, false, false, false, false, false] rfl rfl (any_of HT_.out (by kernel_rfl)) (fun _ _ _ h => h) (Or.inl ⟨by rfl, ?_⟩) ?_ ?_
    rotate_left
    ·intro w'
     go_simp
     with_reducible rfl
    rotate_left
    ·simp only [Act.put, List.setIfInBounds_toArray, List.set_cons_zero, List.set_cons_succ, i64_w, i32_w]
     rfl
    refine pure_ (i := 10) (N := some 50) (v := ?_) (a' := ?_) #[true, true, true, true, true, true, true, true, true, true, true, false, false, false, false, false, false, false, false, false, false, false, false, false, false, false, false, false, false, false, false, false, false] rfl rfl (any_of HT_.out (by kernel_rfl)) (fun _ _ _ h => h) (Or.inl ⟨by rfl, ?_⟩) ?_ ?_
    rotate_left
    ·intro w'
     go_simp
     with_reducible rfl
    rotate_left
    ·simp only [Act.put, List.setIfInBounds_toArray, List.set_cons_zero, List.set_cons_succ, i64_w, i32_w]
     rfl
    refine pure_ (i := 12) (N := some 52) (v := ?_) (a' := ?_) #[true, true, true, true, true, true, true, true, true, true, true, false, true, false, false, false, false, false, false, false, false, false, false, false, false, false, false, false, false, false, false, false, false] rfl rfl (any_of HT_.out (by kernel_rfl)) (fun _ _ _ h => h) (Or.inl ⟨by rfl, ?_⟩) ?_ ?_
    rotate_left
    ·intro w'
     go_simp
     with_reducible rfl
    rotate_left
    ·simp only [Act.put, List.setIfInBounds_toArray, List.set_cons_zero, List.set_cons_succ, i64_w, i32_w]
     rfl
    refine take_ (i := 11) (N := some 51) (v := ?_) (a' := ?_) #[true, true, true, true, true, true, true, true, true, true, true, true, true, false, false, false, false, false, false, false, false, false, false, false, false, false, false, false, false, false, false, false, false] rfl rfl (take_ofW HT_.out HW_.out (by kernel_rfl)) (fun _ _ _ h => h) (Or.inl ⟨by rfl, ?_⟩) HWc.out ?_ ?_
    rotate_left
    ·intro w' hw
     refine exec_load_blk 23 (.tmp 1) ?_ go ?_ (bB BKgo.out hw) hu23 rfl ?_
     ·exact rfl
     ·exact rfl
     ·kernel_rfl
    rotate_left
    ·simp only [Act.put, List.setIfInBounds_toArray, List.set_cons_zero, List.set_cons_succ, i64_w, i32_w]
     rfl
    refine one_ (i := 13) (N := some 53) #[true, true, true, true, true, true, true, true, true, true, true, true, true, true, false, false, false, false, false, false, false, false, false, false, false, false, false, false, false, false, false, false, false] rfl rfl (one_of HT_.out (by kernel_rfl)) (by decide) (fun K hK => ?_)
    refine goes_ Tryd.func20 (by kernel_rfl) rfl #[.agg #[.string (⟨#[]⟩ : ByteArray), .string (⟨#[112, 105, 110, 101]⟩ : ByteArray), .int .i64 0, .int .i64 2000, .int .i64 3, .int .i64 1800, .int .i64 10, .int .i64 2, .int .i64 3, .int .i64 0, .int .i64 0], .slice (some ⟨gl, 0, none⟩) (awL 8).length c4] (by rfl) rfl rfl (by first | rfl | (simp only [List.map_toArray, List.map_cons, List.map_nil]; rfl)) ?_
    refine (order_Filled.calls 50 (⟨#[]⟩ : ByteArray) (⟨#[112, 105, 110, 101]⟩ : ByteArray) 0 2000 3 1800 10 2 3 0 0 _ _ (awL 8) true _ ?_ ?_ awake_filled).mono ?_
    ·exact Kd.C_below HC.out HWc.out
    ·exact hc4
    rintro e w22 ⟨rfl, hb⟩
    refine ⟨_, rfl, ?_⟩
    replace HB := q_ (pT HB.out hb)
    replace BKgx := q_ (bB BKgx.out hb)
    replace HWc := q_ (pT HWc.out hb)
    clear hb
    refine hK.out _ _ HWc.out (fun hHeld => ?_)
    clear hK K hHeld
    refine norm_ (a' := ?_) ?_ ?_
    rotate_left
    ·show Act.put _ (some 53) _ = _
     simp only [Act.put, List.setIfInBounds_toArray, List.set_cons_zero, List.set_cons_succ, i64_w, i32_w]
     rfl
    refine pure_ (i := 14) (N := some 54) (v := ?_) (a' := ?_) #[true, true, true, true, true, true, true, true, true, true, true, true, true, true, true, false, false, false, false, false, false, false, false, false, false, false, false, false, false, false, false, false, false] rfl rfl (any_of HT_.out (by kernel_rfl)) (fun _ _ _ h => h) (Or.inl ⟨by rfl, ?_⟩) ?_ ?_
    rotate_left
    ·intro w'
     go_simp
     with_reducible rfl
    rotate_left
    ·simp only [Act.put, List.setIfInBounds_toArray, List.set_cons_zero, List.set_cons_succ, i64_w, i32_w]
     rfl
    refine pure_ (i := 15) (N := some 55) (v := ?_) (a' := ?_) #[true, true, true, true, true, true, true, true, true, true, true, true, true, true, true, true, false, false, false, false, false, false, false, false, false, false, false, false, false, false, false, false, false] rfl rfl (any_of HT_.out (by kernel_rfl)) (fun _ _ _ h => h) (Or.inl ⟨by rfl, ?_⟩) ?_ ?_
    rotate_left
    ·intro w'
     go_simp
     with_reducible rfl
    rotate_left
    ·simp only [Act.put, List.setIfInBounds_toArray, List.set_cons_zero, List.set_cons_succ, i64_w, i32_w]
     rfl
    refine pure_ (i := 16) (N := some 56) (v := ?_) (a' := ?_) #[true, true, true, true, true, true, true, true, true, true, true, true, true, true, true, true, true, false, false, false, false, false, false, false, false, false, false, false, false, false, false, false, false] rfl rfl (any_of HT_.out (by kernel_rfl)) (fun _ _ _ h => h) (Or.inl ⟨by rfl, ?_⟩) ?_ ?_
    rotate_left
    ·intro w'
     go_simp
     with_reducible rfl
    rotate_left
    ·simp only [Act.put, List.setIfInBounds_toArray, List.set_cons_zero, List.set_cons_succ, i64_w, i32_w]
     rfl
    refine pure_ (i := 18) (N := some 58) (v := ?_) (a' := ?_) #[true, true, true, true, true, true, true, true, true, true, true, true, true, true, true, true, true, false, true, false, false, false, false, false, false, false, false, false, false, false, false, false, false] rfl rfl (any_of HT_.out (by kernel_rfl)) (fun _ _ _ h => h) (Or.inl ⟨by rfl, ?_⟩) ?_ ?_
    rotate_left
    ·intro w'
     go_simp
     with_reducible rfl
    rotate_left
    ·simp only [Act.put, List.setIfInBounds_toArray, List.set_cons_zero, List.set_cons_succ, i64_w, i32_w]
     rfl
    refine pure_ (i := 19) (N := some 59) (v := ?_) (a' := ?_) #[true, true, true, true, true, true, true, true, true, true, true, true, true, true, true, true, true, false, true, true, false, false, false, false, false, false, false, false, false, false, false, false, false] rfl rfl (any_of HT_.out (by kernel_rfl)) (fun _ _ _ h => h) (Or.inl ⟨by rfl, ?_⟩) ?_ ?_
    rotate_left
    ·intro w'
     go_simp
     with_reducible rfl
    rotate_left
    ·simp only [Act.put, List.setIfInBounds_toArray, List.set_cons_zero, List.set_cons_succ, i64_w, i32_w]
     rfl
    refine take_ (i := 17) (N := some 57) (v := ?_) (a' := ?_) #[true, true, true, true, true, true, true, true, true, true, true, true, true, true, true, true, true, true, true, true, false, false, false, false, false, false, false, false, false, false, false, false, false] rfl rfl (take_ofW HT_.out HW_.out (by kernel_rfl)) (fun _ _ _ h => h) (Or.inl ⟨by rfl, ?_⟩) HWc.out ?_ ?_
    rotate_left
    ·intro w' hw
     refine exec_load_blk 23 (.tmp 1) ?_ go ?_ (bB BKgo.out hw) hu23 rfl ?_
     ·exact rfl
     ·exact rfl
     ·kernel_rfl
    rotate_left
    ·simp only [Act.put, List.setIfInBounds_toArray, List.set_cons_zero, List.set_cons_succ, i64_w, i32_w]
     rfl
    have hC1 : Kd.C k38 wr (some ⟨gl, 18, none⟩) ((awL 8).drop 1).length ((awL 8).drop 1) := by
     have h_ := Kd.C_drop (m := 1) (c := c4) HC.out (by decide) hc4
     rw [if_neg (by omega)] at h_
     exact h_
    refine one_ (i := 20) (N := some 60) #[true, true, true, true, true, true, true, true, true, true, true, true, true, true, true, true, true, true, true, true, true, false, false, false, false, false, false, false, false, false, false, false, false] rfl rfl (one_of HT_.out (by kernel_rfl)) (by decide) (fun K hK => ?_)
    refine goes_ Tryd.func20 (by kernel_rfl) rfl #[.agg #[.string (⟨#[]⟩ : ByteArray), .string (⟨#[112, 105, 110, 101]⟩ : ByteArray), .int .i64 0, .int .i64 2000, .int .i64 3, .int .i64 1800, .int .i64 10, .int .i64 2, .int .i64 3, .int .i64 0, .int .i64 0], .slice (some ⟨gl, 18, none⟩) ((awL 8).drop 1).length (c4 - 1)] (by rfl) rfl rfl (by first | rfl | (simp only [List.map_toArray, List.map_cons, List.map_nil]; rfl)) ?_
    refine (order_Filled.calls 50 (⟨#[]⟩ : ByteArray) (⟨#[112, 105, 110, 101]⟩ : ByteArray) 0 2000 3 1800 10 2 3 0 0 _ _ ((awL 8).drop 1) false _ ?_ ?_ awake_filled1).mono ?_
    ·exact Kd.C_below hC1 HWc.out
    ·exact (show 7 ≤ c4 - 1 by omega)
    rintro e w23 ⟨rfl, hb⟩
    refine ⟨_, rfl, ?_⟩
    replace HB := q_ (pT HB.out hb)
    replace BKgx := q_ (bB BKgx.out hb)
    replace HWc := q_ (pT HWc.out hb)
    clear hb
    refine hK.out _ _ HWc.out (fun hHeld => ?_)
    clear hK K hHeld
    refine norm_ (a' := ?_) ?_ ?_
    rotate_left
    ·show Act.put _ (some 60) _ = _
     simp only [Act.put, List.setIfInBounds_toArray, List.set_cons_zero, List.set_cons_succ, i64_w, i32_w]
     rfl
    refine pure_ (i := 21) (N := some 61) (v := ?_) (a' := ?_) #[true, true, true, true, true, true, true, true, true, true, true, true, true, true, true, true, true, true, true, true, true, true, false, false, false, false, false, false, false, false, false, false, false] rfl rfl (any_of HT_.out (by kernel_rfl)) (fun _ _ _ h => h) (Or.inl ⟨by rfl, ?_⟩) ?_ ?_
    rotate_left
    ·intro w'
     go_simp
     with_reducible rfl
    rotate_left
    ·simp only [Act.put, List.setIfInBounds_toArray, List.set_cons_zero, List.set_cons_succ, i64_w, i32_w]
     rfl
    refine pure_ (i := 22) (N := some 62) (v := ?_) (a' := ?_) #[true, true, true, true, true, true, true, true, true, true, true, true, true, true, true, true, true, true, true, true, true, true, true, false, false, false, false, false, false, false, false, false, false] rfl rfl (any_of HT_.out (by kernel_rfl)) (fun _ _ _ h => h) (Or.inl ⟨by rfl, ?_⟩) ?_ ?_
    rotate_left
    ·intro w'
     go_simp
     with_reducible rfl
    rotate_left
    ·simp only [Act.put, List.setIfInBounds_toArray, List.set_cons_zero, List.set_cons_succ, i64_w, i32_w]
     rfl
    refine pure_ (i := 24) (N := some 64) (v := ?_) (a' := ?_) #[true, true, true, true, true, true, true, true, true, true, true, true, true, true, true, true, true, true, true, true, true, true, true, false, true, false, false, false, false, false, false, false, false] rfl rfl (any_of HT_.out (by kernel_rfl)) (fun _ _ _ h => h) (Or.inl ⟨by rfl, ?_⟩) ?_ ?_
    rotate_left
    ·intro w'
     go_simp
     with_reducible rfl
    rotate_left
    ·simp only [Act.put, List.setIfInBounds_toArray, List.set_cons_zero, List.set_cons_succ, i64_w, i32_w]
     rfl
    refine pure_ (i := 25) (N := some 65) (v := ?_) (a' := ?_) #[true, true, true, true, true, true, true, true, true, true, true, true, true, true, true, true, true, true, true, true, true, true, true, false, true, true, false, false, false, false, false, false, false] rfl rfl (any_of HT_.out (by kernel_rfl)) (fun _ _ _ h => h) (Or.inl ⟨by rfl, ?_⟩) ?_ ?_
    rotate_left
    ·intro w'
     go_simp
     with_reducible rfl
    rotate_left
    ·simp only [Act.put, List.setIfInBounds_toArray, List.set_cons_zero, List.set_cons_succ, i64_w, i32_w]
     rfl
    refine pure_ (i := 26) (N := some 66) (v := ?_) (a' := ?_) #[true, true, true, true, true, true, true, true, true, true, true, true, true, true, true, true, true, true, true, true, true, true, true, false, true, true, true, false, false, false, false, false, false] rfl rfl (any_of HT_.out (by kernel_rfl)) (fun _ _ _ h => h) (Or.inl ⟨by rfl, ?_⟩) ?_ ?_
    rotate_left
    ·intro w'
     go_simp
     with_reducible rfl
    rotate_left
    ·simp only [Act.put, List.setIfInBounds_toArray, List.set_cons_zero, List.set_cons_succ, i64_w, i32_w]
     rfl
    refine pure_ (i := 27) (N := some 67) (v := ?_) (a' := ?_) #[true, true, true, true, true, true, true, true, true, true, true, true, true, true, true, true, true, true, true, true, true, true, true, false, true, true, true, true, false, false, false, false, false] rfl rfl (any_of HT_.out (by kernel_rfl)) (fun _ _ _ h => h) (Or.inl ⟨by rfl, ?_⟩) ?_ ?_
    rotate_left
    ·intro w'
     go_simp
     with_reducible rfl
    rotate_left
    ·simp only [Act.put, List.setIfInBounds_toArray, List.set_cons_zero, List.set_cons_succ, i64_w, i32_w]
     rfl
    refine take_ (i := 23) (N := some 63) (v := ?_) (a' := ?_) #[true, true, true, true, true, true, true, true, true, true, true, true, true, true, true, true, true, true, true, true, true, true, true, true, true, true, true, true, false, false, false, false, false] rfl rfl (take_ofW HT_.out HW_.out (by kernel_rfl)) (fun _ _ _ h => h) (Or.inl ⟨by rfl, ?_⟩) HWc.out ?_ ?_
    rotate_left
    ·intro w' hw
     refine exec_load_blk 23 (.tmp 1) ?_ go ?_ (bB BKgo.out hw) hu23 rfl ?_
     ·exact rfl
     ·exact rfl
     ·kernel_rfl
    rotate_left
    ·simp only [Act.put, List.setIfInBounds_toArray, List.set_cons_zero, List.set_cons_succ, i64_w, i32_w]
     rfl
    obtain ⟨c0, hc0l, hc0K, hc0⟩ : ∃ c0 : List Value, c0.length = 18 ∧ k38.K wr (awB 0) c0 ∧ ∀ j u, c0[j]? = some u → wr.cell? ((⟨gl, 0, none⟩ : Addr).add j) = some u := by
     obtain ⟨ad, e, h_⟩ := HC.out.2.2 (by decide)
     obtain ⟨c0, hl, hK, hcl⟩ := h_ 0 (awB 0) rfl
     injection e with e
     subst e
     exact ⟨c0, hl, hK, fun j u hj => by simpa using hcl j u hj⟩
    obtain ⟨A11, c11, hce⟩ : ∃ A11 c11, c0 = [.string (awId 0), .string (⟨#[]⟩ : ByteArray), .string (⟨#[112, 105, 110, 101]⟩ : ByteArray), .int .i64 0, .int .i64 0, .int .i64 0, .int .i64 0, .int .i64 0, .int .i64 0, .int .i64 2000, .int .i64 0, .slice A11 0 c11, .int .i64 0, .int .i64 1700, .int .i64 1850, .int .i64 0, .bool true, .int .i64 2] := by
     obtain ⟨A11, c11, e, _⟩ := k38_open hc0K
     exact ⟨A11, c11, e⟩
    subst hce
    replace hc0K := Aside0.mk hc0K
    replace hc0 := Aside0.mk hc0
    refine take_ (i := 28) (N := some 68) (v := ?_) (a' := ?_) #[true, true, true, true, true, true, true, true, true, true, true, true, true, true, true, true, true, true, true, true, true, true, true, true, true, true, true, true, true, false, false, false, false] rfl rfl (take_ofW HT_.out HW_.out (by kernel_rfl)) (fun _ _ _ h => h) (Or.inl ⟨by rfl, ?_⟩) HWc.out ?_ ?_
    rotate_left
    ·intro w' hw
     refine exec_load_at 38 (.tmp 67) ?_ ⟨gl, 0, none⟩ ?_ #[.string (awId 0), .string (⟨#[]⟩ : ByteArray), .string (⟨#[112, 105, 110, 101]⟩ : ByteArray), .int .i64 0, .int .i64 0, .int .i64 0, .int .i64 0, .int .i64 0, .int .i64 0, .int .i64 2000, .int .i64 0, .slice A11 0 c11, .int .i64 0, .int .i64 1700, .int .i64 1850, .int .i64 0, .bool true, .int .i64 2] (fun j v hv => pw_cell_below hw (hc0.out j v hv)) hu38 rfl ?_
     ·exact rfl
     ·exact rfl
     ·kernel_rfl
    rotate_left
    ·simp only [Act.put, List.setIfInBounds_toArray, List.set_cons_zero, List.set_cons_succ, i64_w, i32_w]
     rfl
    refine one_ (i := 29) (N := some 69) #[true, true, true, true, true, true, true, true, true, true, true, true, true, true, true, true, true, true, true, true, true, true, true, true, true, true, true, true, true, true, false, false, false] rfl rfl (one_of HT_.out (by kernel_rfl)) (by decide) (fun K hK => ?_)
    refine step_lit (by rfl) (some 69) rfl 1 #[.string (awId 0), .string (⟨#[]⟩ : ByteArray), .string (⟨#[112, 105, 110, 101]⟩ : ByteArray), .int .i64 0, .int .i64 0, .int .i64 0, .int .i64 0, .int .i64 0, .int .i64 0, .int .i64 2000, .int .i64 0, .slice A11 0 c11, .int .i64 0, .int .i64 1700, .int .i64 1850, .int .i64 0, .bool true, .int .i64 2] 38 ?_ ?_
    ·first
     | (go_simp; done)
     | (go_simp; rfl)
    intro g1 hg w24 hbox hb
    have BKg1 := q_ (C_of_blk1 k38 (x := awB 0) hbox (k38.K_below (pT HWc.out hb) hc0K.out))
    clear hg hbox
    replace HB := q_ (pT HB.out hb)
    replace BKgx := q_ (bB BKgx.out hb)
    replace HWc := q_ (pT HWc.out hb)
    clear hb
    refine hK.out _ _ HWc.out (fun hHeld => ?_)
    clear hK K hHeld
    refine norm_ (a' := ?_) ?_ ?_
    rotate_left
    ·show Act.put _ (some 69) _ = _
     simp only [Act.put, List.setIfInBounds_toArray, List.set_cons_zero, List.set_cons_succ, i64_w, i32_w]
     rfl
    refine one_ (i := 30) (N := some 70) #[true, true, true, true, true, true, true, true, true, true, true, true, true, true, true, true, true, true, true, true, true, true, true, true, true, true, true, true, true, true, true, false, false] rfl rfl (one_of HT_.out (by kernel_rfl)) (by decide) (fun K hK => ?_)
    have hC7 : Kd.C k38 wr (some ⟨gl, 0, none⟩) 7 ((awL 8).take 7) := Kd.C_take HC.out (by decide)
    obtain ⟨i38, hi38, hz38, hs38, hb38⟩ : ∃ i, Tryd.prog.info? 38 = some i ∧ i.zero = some (.agg #[.string (⟨#[]⟩ : ByteArray), .string (⟨#[]⟩ : ByteArray), .string (⟨#[]⟩ : ByteArray), .int .i64 0, .int .i64 0, .int .i64 0, .int .i64 0, .int .i64 0, .int .i64 0, .int .i64 0, .int .i64 0, .slice none 0 0, .int .i64 0, .int .i64 0, .int .i64 0, .int .i64 0, .bool false, .int .i64 0]) ∧ i.size = 18 ∧ i.bytes = 184 := by
     have h_ := awInfo38
     cases hq : Tryd.prog.info? 38 with
     | none => simp [hq] at h_
     | some i => rw [hq] at h_; simp only [Option.map_some, Option.some.injEq, Prod.mk.injEq] at h_; exact ⟨i, rfl, h_.1, h_.2.1, h_.2.2⟩
    refine step_append_grows k38 (by rfl) (.tmp 65) (.tmp 69) 42 38 (some 70) rfl rfl i38 (.agg #[.string (⟨#[]⟩ : ByteArray), .string (⟨#[]⟩ : ByteArray), .string (⟨#[]⟩ : ByteArray), .int .i64 0, .int .i64 0, .int .i64 0, .int .i64 0, .int .i64 0, .int .i64 0, .int .i64 0, .int .i64 0, .slice none 0 0, .int .i64 0, .int .i64 0, .int .i64 0, .int .i64 0, .bool false, .int .i64 0]) 184 Tryd.underlying42 hi38 hz38 hs38 hb38 rfl (by decide) ⟨gl, 0, none⟩ ⟨g1, 0, none⟩ 7 7 1 1 ((awL 8).take 7) [awB 0] (by rfl) (by rfl) (Kd.C_below hC7 HWc.out) BKg1.out (by decide) (by decide) (by decide) 8 rfl ?_
    intro w25 A8 c8 hC8 hc8 hb
    clear hi38 hz38 hs38 hb38 BKg1
    replace hC8 := Aside0.mk hC8
    replace HB := q_ (pT HB.out hb)
    replace BKgx := q_ (bB BKgx.out hb)
    replace HWc := q_ (pT HWc.out hb)
    clear hb
    refine hK.out _ _ HWc.out (fun hHeld => ?_)
    clear hK K hHeld
    refine norm_ (a' := ?_) ?_ ?_
    rotate_left
    ·show Act.put _ (some 70) _ = _
     simp only [Act.put, List.setIfInBounds_toArray, List.set_cons_zero, List.set_cons_succ, i64_w, i32_w]
     rfl
    have hC8b : Kd.C k38 w25 A8 ((awL 8).take 7 ++ [awB 0]).length ((awL 8).take 7 ++ [awB 0]) := hC8.out
    refine one_ (i := 31) (N := some 71) #[true, true, true, true, true, true, true, true, true, true, true, true, true, true, true, true, true, true, true, true, true, true, true, true, true, true, true, true, true, true, true, true, false] rfl rfl (one_of HT_.out (by kernel_rfl)) (by decide) (fun K hK => ?_)
    refine goes_ Tryd.func20 (by kernel_rfl) rfl #[.agg #[.string (⟨#[]⟩ : ByteArray), .string (⟨#[112, 105, 110, 101]⟩ : ByteArray), .int .i64 0, .int .i64 2000, .int .i64 3, .int .i64 1800, .int .i64 10, .int .i64 2, .int .i64 3, .int .i64 0, .int .i64 0], .slice A8 ((awL 8).take 7 ++ [awB 0]).length c8] (by rfl) rfl rfl (by first | rfl | (simp only [List.map_toArray, List.map_cons, List.map_nil]; rfl)) ?_
    refine (order_Filled.calls 50 (⟨#[]⟩ : ByteArray) (⟨#[112, 105, 110, 101]⟩ : ByteArray) 0 2000 3 1800 10 2 3 0 0 _ _ ((awL 8).take 7 ++ [awB 0]) false _ ?_ ?_ awake_filled2).mono ?_
    ·exact hC8b
    ·exact hc8
    rintro e w26 ⟨rfl, hb⟩
    refine ⟨_, rfl, ?_⟩
    replace HB := q_ (pT HB.out hb)
    replace BKgx := q_ (bB BKgx.out hb)
    replace HWc := q_ (pT HWc.out hb)
    clear hb
    refine hK.out _ _ HWc.out (fun hHeld => ?_)
    clear hK K hHeld
    refine norm_ (a' := ?_) ?_ ?_
    rotate_left
    ·show Act.put _ (some 71) _ = _
     simp only [Act.put, List.setIfInBounds_toArray, List.set_cons_zero, List.set_cons_succ, i64_w, i32_w]
     rfl
    clear hC8b hC8 hc8
    refine pure_ (i := 32) (N := some 72) (v := ?_) (a' := ?_) #[true, true, true, true, true, true, true, true, true, true, true, true, true, true, true, true, true, true, true, true, true, true, true, true, true, true, true, true, true, true, true, true, true] rfl rfl (any_of HT_.out (by kernel_rfl)) (fun _ _ _ h => h) (Or.inl ⟨by rfl, ?_⟩) ?_ ?_
    rotate_left
    ·intro w'
     go_simp
     with_reducible rfl
    rotate_left
    ·simp only [Act.put, List.setIfInBounds_toArray, List.set_cons_zero, List.set_cons_succ, i64_w, i32_w]
     rfl
    refine done_ (done_of HT_.out (by kernel_rfl)) ?_

    go_wp2_with (first | (refine wpList_load_cells (by rfl) 23 (.tmp 1) rfl ⟨go, 0, none⟩ (by rfl) _ _ (cells_of_blk (bB BKgo.out HWc.out)) Tryd.underlying23 rfl (by kernel_rfl) ?_) | (refine wpList_load_cells (by rfl) 23 (.tmp 8) rfl ⟨gx, 0, none⟩ (by rfl) _ _ (cells_of_blk BKgx.out) Tryd.underlying23 rfl (by kernel_rfl) ?_) | ((with_reducible refine gate_callee (f := 16) rfl ?_); (try (refine gate_guard (by rfl) ?_; dsimp only)); refine goesL_ (some 74) rfl rfl Tryd.func16 (by kernel_rfl) rfl #[.agg #[.string (⟨#[]⟩ : ByteArray), .string (⟨#[112, 105, 110, 101]⟩ : ByteArray), .int .i64 0, .int .i64 2000, .int .i64 3, .int .i64 1800, .int .i64 10, .int .i64 2, .int .i64 3, .int .i64 0, .int .i64 0]] rfl (by first | rfl | (simp only [List.map_toArray, List.map_cons, List.map_nil]; rfl)) ?_; refine (order_Least.calls (⟨#[]⟩ : ByteArray) (⟨#[112, 105, 110, 101]⟩ : ByteArray) 0 2000 3 1800 10 2 3 0 0 8 _ awake_least).mono ?_; rintro e w30 ⟨rfl, hb⟩; refine ⟨_, rfl, ?_⟩; replace HB := q_ (pT HB.out hb); replace HWc := q_ (pT HWc.out hb); replace BKgx := q_ (bB BKgx.out hb); clear hb) | ((with_reducible refine gate_callee (f := 18) rfl ?_); (try (refine gate_guard (by rfl) ?_; dsimp only)); refine goesL_ (some 78) rfl rfl Tryd.func18 (by kernel_rfl) rfl #[.agg #[.string (⟨#[]⟩ : ByteArray), .string (⟨#[112, 105, 110, 101]⟩ : ByteArray), .int .i64 0, .int .i64 2000, .int .i64 3, .int .i64 1800, .int .i64 10, .int .i64 2, .int .i64 3, .int .i64 0, .int .i64 0]] rfl (by first | rfl | (simp only [List.map_toArray, List.map_cons, List.map_nil]; rfl)) ?_; refine (order_Most.calls (⟨#[]⟩ : ByteArray) (⟨#[112, 105, 110, 101]⟩ : ByteArray) 0 2000 3 1800 10 2 3 0 0 13 _ awake_most).mono ?_; rintro e w31 ⟨rfl, hb⟩; refine ⟨_, rfl, ?_⟩; replace HB := q_ (pT HB.out hb); replace HWc := q_ (pT HWc.out hb); replace BKgx := q_ (bB BKgx.out hb); clear hb) | ((with_reducible refine gate_callee (f := 12) rfl ?_); (try (refine gate_guard (by rfl) ?_; dsimp only)); refine goesL_ (some 106) rfl rfl Tryd.func12 (by kernel_rfl) rfl #[.agg #[.string (⟨#[]⟩ : ByteArray), .string (⟨#[112, 105, 110, 101]⟩ : ByteArray), .int .i64 0, .int .i64 2000, .int .i64 3, .int .i64 1800, .int .i64 10, .int .i64 2, .int .i64 3, .int .i64 0, .int .i64 0], .slice none 0 0] rfl (by first | rfl | (simp only [List.map_toArray, List.map_cons, List.map_nil]; rfl)) ?_; refine (order_Check.calls 50 (⟨#[]⟩ : ByteArray) (⟨#[112, 105, 110, 101]⟩ : ByteArray) 0 2000 3 1800 10 2 3 0 0 none 0 [] 6 _ (Kd.C_nil _ _) (Nat.le_refl _) awake_check).mono ?_; rintro e w32 ⟨rfl, hb⟩; refine ⟨_, rfl, ?_⟩; replace HB := q_ (pT HB.out hb); replace HWc := q_ (pT HWc.out hb); replace BKgx := q_ (bB BKgx.out hb); clear hb))
    go_ret
    exact ⟨rfl, HB.out⟩
end Go.Proofs.YtblmgmhjlbkncaaDoor.PA
namespace Go.Proofs.YtblmgmhjlbkncaaDoor.PA
open Go.RowKit Go.Proofs.YtblmgmhjlbkncaaDoorW.PrintWords Go.Proofs.YtblmgmhjlbkncaaDoorW.PrintLast Go.Proofs.YtblmgmhjlbkncaaDoorW.PrintMore
attribute [local go_sem] max2_int min2_int max_two min_two max_three min_three max_four min_four
set_option linter.unusedVariables false
set_option linter.unusedSimpArgs false
theorem ow64_ {n : Int} (h0 : -9223372036854775808 ≤ n) (h1 : n ≤ 9223372036854775807) : wrap64 n = n := by unfold wrap64; omega
theorem own_base {w : World} {base n size : Nat} {e : TypeId} {v : Value} {cs : List Value} (h : w.ownsRow base e size v n cs) {k : Nat} (hk : v.ownBlock = some k) : base ≤ k := by
 rcases h.2 with ⟨rfl, _⟩ | ⟨g, cap, cur, rfl, hb, _⟩
 ·simp [Value.ownBlock] at hk
 ·simp [Value.ownBlock] at hk
  omega
theorem own_ne {w : World} {base n size : Nat} {e : TypeId} {v : Value} {cs : List Value} (h : w.ownsRow base e size v n cs) {g : Nat} {cells : Array Value} {t : TypeId} (hb : w.heap[g]? = some (.cells cells t (0, 0))) (hne : t ≠ e) : some g ≠ v.ownBlock := by
 intro hk
 obtain ⟨cells', h'⟩ := own_typed h g hk.symm
 rw [hb] at h'
 injection h' with h'
 injection h' with _ h2 _
 exact hne h2
theorem own_cap {w : World} {base n size : Nat} {e : TypeId} {v : Value} {cs : List Value} (h : w.ownsRow base e size v n cs) : ∀ A c, v = .slice A n c → n ≤ c := by
 intro A c hv
 rcases h.2 with ⟨hn, h0⟩ | ⟨g, cp, cur, hn, _, _, hle, _⟩
 ·rw [hv] at hn
  injection hn with _ h1 h2
  omega
 ·rw [hv] at hn
  injection hn with _ h1 h2
  omega
def sawmilllaw46_OrderCounts.f (k : Nat) (a0_0 : ByteArray) (a0_1 : ByteArray) (a0_2 : Int) (a0_3 : Int) (a0_4 : Int) (a0_5 : Int) (a0_6 : Int) (a0_7 : Int) (a0_8 : Int) (a0_9 : Int) (a0_10 : Int) (l1 : List S38) (a2 : Int) : Option Bool :=
 if (l1.length : Int) > 250 then some true else
 (order_Least.f a0_0 a0_1 a0_2 a0_3 a0_4 a0_5 a0_6 a0_7 a0_8 a0_9 a0_10).bind fun ta => (order_Most.f a0_0 a0_1 a0_2 a0_3 a0_4 a0_5 a0_6 a0_7 a0_8 a0_9 a0_10).bind fun tb =>
 if (ta = 0 ∧ tb = 0) ∨ (ta ≠ 0 ∧ tb ≠ 0 ∧ 1 ≤ ta ∧ ta ≤ a0_6 ∧ a0_6 ≤ tb ∧ tb ≤ 200) then
  (order_Filled.f k a0_0 a0_1 a0_2 a0_3 a0_4 a0_5 a0_6 a0_7 a0_8 a0_9 a0_10 l1).bind fun tf =>
   if tf = false ∨ a2 < 0 ∨ a2 > (l1.length : Int) then some true else
   if ta = 0 then none else
   (order_Filled.f k a0_0 a0_1 a0_2 a0_3 a0_4 a0_5 a0_6 a0_7 a0_8 a0_9 a0_10 (l1.drop a2.toNat ++ l1.take a2.toNat)).bind fun tm =>
    if tm = true ∧ ta ≤ (l1.length : Int) ∧ (l1.length : Int) ≤ tb then
     (order_Filled.f k a0_0 a0_1 a0_2 a0_3 a0_4 a0_5 a0_6 a0_7 a0_8 a0_9 a0_10 (l1.take (l1.length - 1))).bind fun tl => if tl = decide ((l1.length : Int) - 1 ≥ ta) then some true else none
    else none
 else none
set_option maxHeartbeats 8000000 in
set_option maxRecDepth 100000 in
theorem sawmilllaw46_OrderCounts.calls (k : Nat) (a0_0 : ByteArray) (a0_1 : ByteArray) (a0_2 : Int) (a0_3 : Int) (a0_4 : Int) (a0_5 : Int) (a0_6 : Int) (a0_7 : Int) (a0_8 : Int) (a0_9 : Int) (a0_10 : Int) (A1 : Option Addr) (c1 : Nat) (l1 : List S38) (a2 : Int) (r : Bool) (w : World) (hr1 : Kd.C k38 w A1 l1.length l1) (hc1 : l1.length ≤ c1) (h : sawmilllaw46_OrderCounts.f k a0_0 a0_1 a0_2 a0_3 a0_4 a0_5 a0_6 a0_7 a0_8 a0_9 a0_10 l1 a2 = some r) :
  Calls Tryd.prog 8 #[.agg #[.string a0_0, .string a0_1, .int .i64 a0_2, .int .i64 a0_3, .int .i64 a0_4, .int .i64 a0_5, .int .i64 a0_6, .int .i64 a0_7, .int .i64 a0_8, .int .i64 a0_9, .int .i64 a0_10], .slice A1 l1.length c1, .int .i64 a2] w fun e w' => e = .returned (.bool r) ∧ Below w.heap.size w w' := by
 have hu23 := Tryd.underlying23
 have HB := q_ (Below.refl w.heap.size w)
 have HR := Aside0.mk hr1
 have HL := Aside0.mk hc1
 clear hr1 hc1
 unfold sawmilllaw46_OrderCounts.f at h
 go_enter Tryd.func8, Tryd.ntmps8
 go_upto_region 1 with (first | ((with_reducible refine gate_dst (N := 3) rfl ?_); refine box_event ?hg (N := 3) ?hd (cs := #[.string a0_0, .string a0_1, .int .i64 a0_2, .int .i64 a0_3, .int .i64 a0_4, .int .i64 a0_5, .int .i64 a0_6, .int .i64 a0_7, .int .i64 a0_8, .int .i64 a0_9, .int .i64 a0_10]) (t := 23) ?hr ?_; (case hd => rfl); (case hg => rfl); (case hr => first | (go_simp; done) | (go_simp; rfl)); intro go hg w1 hbox hb; have BKo := Aside0.mk hbox; replace HB := q_ (pT HB.out hb); clear hb hbox hg))
 try simp only [Act.put, List.setIfInBounds_toArray, List.set_cons_zero, List.set_cons_succ]
 have czo := blk_all BKo.out
 simp only [CellsAt, List.toList_toArray, Nat.reduceAdd, and_true] at czo
 have fzo := bF BKo.out
 by_cases z1 : (l1.length : Int) > 250
 case pos =>
  rw [if_pos z1] at h
  obtain rfl := Option.some.inj h
  have z1a : decide ((l1.length : Int) > 250) = true := decide_eq_true z1
  go_wp2_with (first | ((with_reducible refine gate_callee (f := 11) rfl ?_); (try (refine gate_guard (by rfl) ?_; dsimp only)); refine goesL_ (some 13) rfl rfl Tryd.func11 (by kernel_rfl) rfl #[] rfl (by (try simp only [List.map_toArray, List.map_cons, List.map_nil]); first | done | rfl) ?_; refine (awake_calls _).mono ?_; rintro e w2 ⟨rfl, hb⟩; refine ⟨_, rfl, ?_⟩; replace HB := q_ (pT HB.out hb); replace BKo := q_ (bB BKo.out hb); clear hb))
  go_ret
  exact ⟨rfl, HB.out⟩
 rw [if_neg z1] at h
 have z1a : decide ((l1.length : Int) > 250) = false := decide_eq_false z1
 replace h := oB h
 obtain ⟨ta, hl_, h⟩ := h
 have HTa := Aside0.mk hl_
 clear hl_
 replace h := oB h
 obtain ⟨tb, hl_, h⟩ := h
 have HTb := Aside0.mk hl_
 clear hl_
 have h' := Aside0.mk h
 clear h
 go_wp2
 clear czo fzo
 replace BKo := q_ (bW BKo.out)
 replace HB := q_ (pd_ HB.out)
 try simp only [Act.put, List.setIfInBounds_toArray, List.set_cons_zero, List.set_cons_succ]
 refine start_ (n := 6) (S := fun w' => w'.heap[go]? = some (.cells #[.string a0_0, .string a0_1, .int .i64 a0_2, .int .i64 a0_3, .int .i64 a0_4, .int .i64 a0_5, .int .i64 a0_6, .int .i64 a0_7, .int .i64 a0_8, .int .i64 a0_9, .int .i64 a0_10] 23 (0, 0))) (ds := []) #[false, false, false, false, false, false] (by kernel_rfl) rfl rfl BKo.out (fun hHeld => ?_)
 clear hHeld
 generalize w1.drew = w3 at BKo HB ⊢
 refine take_ (i := 0) (N := some 14) (v := ?_) (a' := ?_) #[true, false, false, false, false, false] rfl rfl (by kernel_rfl) (fun _ _ _ h => h) (Or.inl ⟨by rfl, ?_⟩) BKo.out ?_ ?_
 rotate_left
 ·intro w' s0
  refine exec_load_blk 23 (.tmp 3) ?_ go ?_ s0 hu23 rfl ?_
  ·exact rfl
  ·exact rfl
  ·kernel_rfl
 rotate_left
 ·simp only [Act.put, List.setIfInBounds_toArray, List.set_cons_zero, List.set_cons_succ, i64_w, i32_w]
  rfl
 refine take_ (i := 2) (N := some 16) (v := ?_) (a' := ?_) #[true, false, true, false, false, false] rfl rfl (by kernel_rfl) (fun _ _ _ h => h) (Or.inl ⟨by rfl, ?_⟩) BKo.out ?_ ?_
 rotate_left
 ·intro w' s0
  refine exec_load_blk 23 (.tmp 3) ?_ go ?_ s0 hu23 rfl ?_
  ·exact rfl
  ·exact rfl
  ·kernel_rfl
 rotate_left
 ·simp only [Act.put, List.setIfInBounds_toArray, List.set_cons_zero, List.set_cons_succ, i64_w, i32_w]
  rfl
 refine one_ (i := 1) (N := some 15) #[true, true, true, false, false, false] rfl rfl (by kernel_rfl) (by decide) (fun K hK => ?_)
 refine goes_ Tryd.func16 (by kernel_rfl) rfl #[.agg #[.string a0_0, .string a0_1, .int .i64 a0_2, .int .i64 a0_3, .int .i64 a0_4, .int .i64 a0_5, .int .i64 a0_6, .int .i64 a0_7, .int .i64 a0_8, .int .i64 a0_9, .int .i64 a0_10]] (by rfl) rfl rfl (by (try simp only [List.map_toArray, List.map_cons, List.map_nil]); first | done | rfl) ?_
 refine (order_Least.calls a0_0 a0_1 a0_2 a0_3 a0_4 a0_5 a0_6 a0_7 a0_8 a0_9 a0_10 ta _ HTa.out).mono ?_
 rintro e w4 ⟨rfl, hb⟩
 refine ⟨_, rfl, ?_⟩
 replace HB := q_ (pT HB.out hb)
 replace BKo := q_ (bB BKo.out hb)
 clear hb
 refine hK.out _ _ BKo.out (fun hHeld => ?_)
 clear hK K hHeld
 refine norm_ (a' := ?_) ?_ ?_
 rotate_left
 ·show Act.put _ (some 15) _ = _
  simp only [Act.put, List.setIfInBounds_toArray, List.set_cons_zero, List.set_cons_succ, i64_w, i32_w]
  rfl
 refine one_ (i := 3) (N := some 17) #[true, true, true, true, false, false] rfl rfl (by kernel_rfl) (by decide) (fun K hK => ?_)
 refine goes_ Tryd.func18 (by kernel_rfl) rfl #[.agg #[.string a0_0, .string a0_1, .int .i64 a0_2, .int .i64 a0_3, .int .i64 a0_4, .int .i64 a0_5, .int .i64 a0_6, .int .i64 a0_7, .int .i64 a0_8, .int .i64 a0_9, .int .i64 a0_10]] (by rfl) rfl rfl (by (try simp only [List.map_toArray, List.map_cons, List.map_nil]); first | done | rfl) ?_
 refine (order_Most.calls a0_0 a0_1 a0_2 a0_3 a0_4 a0_5 a0_6 a0_7 a0_8 a0_9 a0_10 tb _ HTb.out).mono ?_
 rintro e w5 ⟨rfl, hb⟩
 refine ⟨_, rfl, ?_⟩
 replace HB := q_ (pT HB.out hb)
 replace BKo := q_ (bB BKo.out hb)
 clear hb
 refine hK.out _ _ BKo.out (fun hHeld => ?_)
 clear hK K hHeld
 refine norm_ (a' := ?_) ?_ ?_
 rotate_left
 ·show Act.put _ (some 17) _ = _
  simp only [Act.put, List.setIfInBounds_toArray, List.set_cons_zero, List.set_cons_succ, i64_w, i32_w]
  rfl
 refine pure_ (i := 4) (N := some 7) (v := ?_) (a' := ?_) #[true, true, true, true, true, false] rfl rfl (by kernel_rfl) (fun _ _ _ h => h) (Or.inl ⟨by rfl, ?_⟩) ?_ ?_
 rotate_left
 ·intro w'
  go_simp
  with_reducible rfl
 rotate_left
 ·simp only [Act.put, List.setIfInBounds_toArray, List.set_cons_zero, List.set_cons_succ, i64_w, i32_w]
  rfl
 refine pure_ (i := 5) (N := some 8) (v := ?_) (a' := ?_) #[true, true, true, true, true, true] rfl rfl (by kernel_rfl) (fun _ _ _ h => h) (Or.inl ⟨by rfl, ?_⟩) ?_ ?_
 rotate_left
 ·intro w'
  go_simp
  with_reducible rfl
 rotate_left
 ·simp only [Act.put, List.setIfInBounds_toArray, List.set_cons_zero, List.set_cons_succ, i64_w, i32_w]
  rfl
 refine done_ (by kernel_rfl) ?_
 have czo := blk_all BKo.out
 simp only [CellsAt, List.toList_toArray, Nat.reduceAdd, and_true] at czo
 have fzo := bF BKo.out
 have h := h'.out
 clear h'
 by_cases c2 : (ta = 0 ∧ tb = 0) ∨ (ta ≠ 0 ∧ tb ≠ 0 ∧ 1 ≤ ta ∧ ta ≤ a0_6 ∧ a0_6 ≤ tb ∧ tb ≤ 200)
 case neg => rw [if_neg c2] at h; exact absurd h (by simp)
 rw [if_pos c2] at h
 replace h := oB h
 obtain ⟨tf, hl_, h⟩ := h
 have HTf := Aside0.mk hl_
 clear hl_
 have h' := Aside0.mk h
 clear h
 rcases c2 with ⟨rfl, rfl⟩ | ⟨c2a, c2b, c2c, c2d, c2e, c2f⟩
 case inl =>
  have h := h'.out
  clear h'
  cases tf with
  | false =>
   rw [if_pos (Or.inl rfl)] at h
   obtain rfl := Option.some.inj h
   go_wp2_with (first | (refine wpList_load_cells (by rfl) 23 (.tmp 3) rfl ⟨go, 0, none⟩ (by rfl) _ _ (cells_of_blk BKo.out) Tryd.underlying23 rfl (by kernel_rfl) ?_) | ((with_reducible refine gate_callee (f := 20) rfl ?_); (try (refine gate_guard (by rfl) ?_; dsimp only)); refine goesL_ (some 49) rfl rfl Tryd.func20 (by kernel_rfl) rfl #[.agg #[.string a0_0, .string a0_1, .int .i64 a0_2, .int .i64 a0_3, .int .i64 a0_4, .int .i64 a0_5, .int .i64 a0_6, .int .i64 a0_7, .int .i64 a0_8, .int .i64 a0_9, .int .i64 a0_10], .slice A1 l1.length c1] rfl (by (try simp only [List.map_toArray, List.map_cons, List.map_nil]); first | done | rfl) ?_; refine (order_Filled.calls k a0_0 a0_1 a0_2 a0_3 a0_4 a0_5 a0_6 a0_7 a0_8 a0_9 a0_10 A1 c1 l1 _ _ (Kd.C_below HR.out HB.out) HL.out HTf.out).mono ?_; rintro e w6 ⟨rfl, hb⟩; refine ⟨_, rfl, ?_⟩; replace HB := q_ (pT HB.out hb); replace BKo := q_ (bB BKo.out hb); clear hb) | ((with_reducible refine gate_callee (f := 11) rfl ?_); (try (refine gate_guard (by rfl) ?_; dsimp only)); refine goesL_ (some 61) rfl rfl Tryd.func11 (by kernel_rfl) rfl #[] rfl (by (try simp only [List.map_toArray, List.map_cons, List.map_nil]); first | done | rfl) ?_; refine (awake_calls _).mono ?_; rintro e w7 ⟨rfl, hb⟩; refine ⟨_, rfl, ?_⟩; replace HB := q_ (pT HB.out hb); replace BKo := q_ (bB BKo.out hb); clear hb))
   go_ret
   exact ⟨rfl, HB.out⟩
  | true =>
   by_cases c3 : a2 < 0
   case pos =>
    rw [if_pos (Or.inr (Or.inl c3))] at h
    obtain rfl := Option.some.inj h
    have c3a : decide (a2 < 0) = true := decide_eq_true c3
    go_wp2_with (first | (refine wpList_load_cells (by rfl) 23 (.tmp 3) rfl ⟨go, 0, none⟩ (by rfl) _ _ (cells_of_blk BKo.out) Tryd.underlying23 rfl (by kernel_rfl) ?_) | ((with_reducible refine gate_callee (f := 20) rfl ?_); (try (refine gate_guard (by rfl) ?_; dsimp only)); refine goesL_ (some 49) rfl rfl Tryd.func20 (by kernel_rfl) rfl #[.agg #[.string a0_0, .string a0_1, .int .i64 a0_2, .int .i64 a0_3, .int .i64 a0_4, .int .i64 a0_5, .int .i64 a0_6, .int .i64 a0_7, .int .i64 a0_8, .int .i64 a0_9, .int .i64 a0_10], .slice A1 l1.length c1] rfl (by (try simp only [List.map_toArray, List.map_cons, List.map_nil]); first | done | rfl) ?_; refine (order_Filled.calls k a0_0 a0_1 a0_2 a0_3 a0_4 a0_5 a0_6 a0_7 a0_8 a0_9 a0_10 A1 c1 l1 _ _ (Kd.C_below HR.out HB.out) HL.out HTf.out).mono ?_; rintro e w6 ⟨rfl, hb⟩; refine ⟨_, rfl, ?_⟩; replace HB := q_ (pT HB.out hb); replace BKo := q_ (bB BKo.out hb); clear hb) | ((with_reducible refine gate_callee (f := 11) rfl ?_); (try (refine gate_guard (by rfl) ?_; dsimp only)); refine goesL_ (some 61) rfl rfl Tryd.func11 (by kernel_rfl) rfl #[] rfl (by (try simp only [List.map_toArray, List.map_cons, List.map_nil]); first | done | rfl) ?_; refine (awake_calls _).mono ?_; rintro e w7 ⟨rfl, hb⟩; refine ⟨_, rfl, ?_⟩; replace HB := q_ (pT HB.out hb); replace BKo := q_ (bB BKo.out hb); clear hb))
    go_ret
    exact ⟨rfl, HB.out⟩
   by_cases c4 : a2 > (l1.length : Int)
   case pos =>
    rw [if_pos (Or.inr (Or.inr c4))] at h
    obtain rfl := Option.some.inj h
    have c3a : decide (a2 < 0) = false := decide_eq_false c3
    have c4a : decide (a2 > (l1.length : Int)) = true := decide_eq_true c4
    go_wp2_with (first | (refine wpList_load_cells (by rfl) 23 (.tmp 3) rfl ⟨go, 0, none⟩ (by rfl) _ _ (cells_of_blk BKo.out) Tryd.underlying23 rfl (by kernel_rfl) ?_) | ((with_reducible refine gate_callee (f := 20) rfl ?_); (try (refine gate_guard (by rfl) ?_; dsimp only)); refine goesL_ (some 49) rfl rfl Tryd.func20 (by kernel_rfl) rfl #[.agg #[.string a0_0, .string a0_1, .int .i64 a0_2, .int .i64 a0_3, .int .i64 a0_4, .int .i64 a0_5, .int .i64 a0_6, .int .i64 a0_7, .int .i64 a0_8, .int .i64 a0_9, .int .i64 a0_10], .slice A1 l1.length c1] rfl (by (try simp only [List.map_toArray, List.map_cons, List.map_nil]); first | done | rfl) ?_; refine (order_Filled.calls k a0_0 a0_1 a0_2 a0_3 a0_4 a0_5 a0_6 a0_7 a0_8 a0_9 a0_10 A1 c1 l1 _ _ (Kd.C_below HR.out HB.out) HL.out HTf.out).mono ?_; rintro e w6 ⟨rfl, hb⟩; refine ⟨_, rfl, ?_⟩; replace HB := q_ (pT HB.out hb); replace BKo := q_ (bB BKo.out hb); clear hb) | ((with_reducible refine gate_callee (f := 11) rfl ?_); (try (refine gate_guard (by rfl) ?_; dsimp only)); refine goesL_ (some 61) rfl rfl Tryd.func11 (by kernel_rfl) rfl #[] rfl (by (try simp only [List.map_toArray, List.map_cons, List.map_nil]); first | done | rfl) ?_; refine (awake_calls _).mono ?_; rintro e w7 ⟨rfl, hb⟩; refine ⟨_, rfl, ?_⟩; replace HB := q_ (pT HB.out hb); replace BKo := q_ (bB BKo.out hb); clear hb))
    go_ret
    exact ⟨rfl, HB.out⟩
   rw [if_neg (by rintro (e | e | e); exact absurd e (by decide); exact c3 e; exact c4 e)] at h
   have c3a : decide (a2 < 0) = false := decide_eq_false c3
   have c4a : decide (a2 > (l1.length : Int)) = false := decide_eq_false c4
   rw [if_pos rfl] at h
   exact absurd h (by simp)
 have c2g : (ta != 0) = true := bne_iff_ne.mpr c2a
 have c2h : (ta == 0) = false := oC c2a
 have c2i : (tb == 0) = false := oC c2b
 have c2j : decide (ta < 1) = false := decide_eq_false (by omega)
 have c2k : decide (ta > a0_6) = false := decide_eq_false (by omega)
 have c2l : decide (tb < a0_6) = false := decide_eq_false (by omega)
 have c2m : decide (tb > 200) = false := decide_eq_false (by omega)
 have h := h'.out
 clear h'
 cases tf with
 | false =>
  rw [if_pos (Or.inl rfl)] at h
  obtain rfl := Option.some.inj h
  go_wp2_with (first | (refine wpList_load_cells (by rfl) 23 (.tmp 3) rfl ⟨go, 0, none⟩ (by rfl) _ _ (cells_of_blk BKo.out) Tryd.underlying23 rfl (by kernel_rfl) ?_) | ((with_reducible refine gate_callee (f := 20) rfl ?_); (try (refine gate_guard (by rfl) ?_; dsimp only)); refine goesL_ (some 49) rfl rfl Tryd.func20 (by kernel_rfl) rfl #[.agg #[.string a0_0, .string a0_1, .int .i64 a0_2, .int .i64 a0_3, .int .i64 a0_4, .int .i64 a0_5, .int .i64 a0_6, .int .i64 a0_7, .int .i64 a0_8, .int .i64 a0_9, .int .i64 a0_10], .slice A1 l1.length c1] rfl (by (try simp only [List.map_toArray, List.map_cons, List.map_nil]); first | done | rfl) ?_; refine (order_Filled.calls k a0_0 a0_1 a0_2 a0_3 a0_4 a0_5 a0_6 a0_7 a0_8 a0_9 a0_10 A1 c1 l1 _ _ (Kd.C_below HR.out HB.out) HL.out HTf.out).mono ?_; rintro e w6 ⟨rfl, hb⟩; refine ⟨_, rfl, ?_⟩; replace HB := q_ (pT HB.out hb); replace BKo := q_ (bB BKo.out hb); clear hb) | ((with_reducible refine gate_callee (f := 11) rfl ?_); (try (refine gate_guard (by rfl) ?_; dsimp only)); refine goesL_ (some 61) rfl rfl Tryd.func11 (by kernel_rfl) rfl #[] rfl (by (try simp only [List.map_toArray, List.map_cons, List.map_nil]); first | done | rfl) ?_; refine (awake_calls _).mono ?_; rintro e w7 ⟨rfl, hb⟩; refine ⟨_, rfl, ?_⟩; replace HB := q_ (pT HB.out hb); replace BKo := q_ (bB BKo.out hb); clear hb))
  go_ret
  exact ⟨rfl, HB.out⟩
 | true =>
  by_cases c3 : a2 < 0
  case pos =>
   rw [if_pos (Or.inr (Or.inl c3))] at h
   obtain rfl := Option.some.inj h
   have c3a : decide (a2 < 0) = true := decide_eq_true c3
   go_wp2_with (first | (refine wpList_load_cells (by rfl) 23 (.tmp 3) rfl ⟨go, 0, none⟩ (by rfl) _ _ (cells_of_blk BKo.out) Tryd.underlying23 rfl (by kernel_rfl) ?_) | ((with_reducible refine gate_callee (f := 20) rfl ?_); (try (refine gate_guard (by rfl) ?_; dsimp only)); refine goesL_ (some 49) rfl rfl Tryd.func20 (by kernel_rfl) rfl #[.agg #[.string a0_0, .string a0_1, .int .i64 a0_2, .int .i64 a0_3, .int .i64 a0_4, .int .i64 a0_5, .int .i64 a0_6, .int .i64 a0_7, .int .i64 a0_8, .int .i64 a0_9, .int .i64 a0_10], .slice A1 l1.length c1] rfl (by (try simp only [List.map_toArray, List.map_cons, List.map_nil]); first | done | rfl) ?_; refine (order_Filled.calls k a0_0 a0_1 a0_2 a0_3 a0_4 a0_5 a0_6 a0_7 a0_8 a0_9 a0_10 A1 c1 l1 _ _ (Kd.C_below HR.out HB.out) HL.out HTf.out).mono ?_; rintro e w6 ⟨rfl, hb⟩; refine ⟨_, rfl, ?_⟩; replace HB := q_ (pT HB.out hb); replace BKo := q_ (bB BKo.out hb); clear hb) | ((with_reducible refine gate_callee (f := 11) rfl ?_); (try (refine gate_guard (by rfl) ?_; dsimp only)); refine goesL_ (some 61) rfl rfl Tryd.func11 (by kernel_rfl) rfl #[] rfl (by (try simp only [List.map_toArray, List.map_cons, List.map_nil]); first | done | rfl) ?_; refine (awake_calls _).mono ?_; rintro e w7 ⟨rfl, hb⟩; refine ⟨_, rfl, ?_⟩; replace HB := q_ (pT HB.out hb); replace BKo := q_ (bB BKo.out hb); clear hb))
   go_ret
   exact ⟨rfl, HB.out⟩
  by_cases c4 : a2 > (l1.length : Int)
  case pos =>
   rw [if_pos (Or.inr (Or.inr c4))] at h
   obtain rfl := Option.some.inj h
   have c3a : decide (a2 < 0) = false := decide_eq_false c3
   have c4a : decide (a2 > (l1.length : Int)) = true := decide_eq_true c4
   go_wp2_with (first | (refine wpList_load_cells (by rfl) 23 (.tmp 3) rfl ⟨go, 0, none⟩ (by rfl) _ _ (cells_of_blk BKo.out) Tryd.underlying23 rfl (by kernel_rfl) ?_) | ((with_reducible refine gate_callee (f := 20) rfl ?_); (try (refine gate_guard (by rfl) ?_; dsimp only)); refine goesL_ (some 49) rfl rfl Tryd.func20 (by kernel_rfl) rfl #[.agg #[.string a0_0, .string a0_1, .int .i64 a0_2, .int .i64 a0_3, .int .i64 a0_4, .int .i64 a0_5, .int .i64 a0_6, .int .i64 a0_7, .int .i64 a0_8, .int .i64 a0_9, .int .i64 a0_10], .slice A1 l1.length c1] rfl (by (try simp only [List.map_toArray, List.map_cons, List.map_nil]); first | done | rfl) ?_; refine (order_Filled.calls k a0_0 a0_1 a0_2 a0_3 a0_4 a0_5 a0_6 a0_7 a0_8 a0_9 a0_10 A1 c1 l1 _ _ (Kd.C_below HR.out HB.out) HL.out HTf.out).mono ?_; rintro e w6 ⟨rfl, hb⟩; refine ⟨_, rfl, ?_⟩; replace HB := q_ (pT HB.out hb); replace BKo := q_ (bB BKo.out hb); clear hb) | ((with_reducible refine gate_callee (f := 11) rfl ?_); (try (refine gate_guard (by rfl) ?_; dsimp only)); refine goesL_ (some 61) rfl rfl Tryd.func11 (by kernel_rfl) rfl #[] rfl (by (try simp only [List.map_toArray, List.map_cons, List.map_nil]); first | done | rfl) ?_; refine (awake_calls _).mono ?_; rintro e w7 ⟨rfl, hb⟩; refine ⟨_, rfl, ?_⟩; replace HB := q_ (pT HB.out hb); replace BKo := q_ (bB BKo.out hb); clear hb))
   go_ret
   exact ⟨rfl, HB.out⟩
  rw [if_neg (by rintro (e | e | e); exact absurd e (by decide); exact c3 e; exact c4 e)] at h
  have c3a : decide (a2 < 0) = false := decide_eq_false c3
  have c4a : decide (a2 > (l1.length : Int)) = false := decide_eq_false c4
  rw [if_neg c2a] at h
  replace h := oB h
  obtain ⟨tm, hl_, h⟩ := h
  have HTm := Aside0.mk hl_
  clear hl_
  by_cases c5 : tm = true ∧ ta ≤ (l1.length : Int) ∧ (l1.length : Int) ≤ tb
  case neg => rw [if_neg c5] at h; exact absurd h (by simp)
  rw [if_pos c5] at h
  obtain ⟨rfl, c5b, c5c⟩ := c5
  replace h := oB h
  obtain ⟨tl, hl_, h⟩ := h
  have HTl := Aside0.mk hl_
  clear hl_
  by_cases c6 : tl = decide ((l1.length : Int) - 1 ≥ ta)
  case neg => rw [if_neg c6] at h; exact absurd h (by simp)
  rw [if_pos c6] at h
  obtain rfl := Option.some.inj h
  obtain ⟨n, rfl⟩ : ∃ n : Nat, a2 = n := ⟨a2.toNat, by omega⟩
  rw [Int.toNat_natCast] at HTm
  have hn : n ≤ l1.length := by omega
  have hpos : 0 < l1.length := by omega
  obtain ⟨ad, rfl⟩ : ∃ ad, A1 = some ad := by
   obtain ⟨ad, e, _⟩ := HR.out.2.2 hpos
   exact ⟨ad, e⟩
  have hlc := HL.out
  have hs18 : k38.sz = 18 := rfl
  have hD := Kd.C_drop (m := n) (c := c1) HR.out hn hlc
  obtain ⟨AD1, hAD1⟩ : ∃ a, (if c1 = n then some ad else some (ad.add (n * 18))) = some a := by split <;> exact ⟨_, rfl⟩
  have hAD2 : (if c1 = n then some ad else Option.map (fun x => x.add (n * k38.sz)) (some ad)) = some AD1 := hAD1
  rw [hAD2] at hD
  obtain ⟨nw1, hrep1, hcel1⟩ := ReadsRow.inner_ hD
  have hT := Kd.C_take (m := n) HR.out hn
  obtain ⟨nw2, hrep2, hcel2⟩ := ReadsRow.inner_ hT
  have hl1_ : nw1.length = (l1.length - n) * 18 := by rw [hrep1.1, List.length_drop, hs18]
  have hl2_ : nw2.length = n * 18 := by rw [hrep2.1, List.length_take, Nat.min_eq_left hn, hs18]
  have ho1_ := Kd.reps_one hrep1 (by decide) (fun p c h => k38.K_one h)
  have ho2_ := Kd.reps_one hrep2 (by decide) (fun p c h => k38.K_one h)
  have hlenT : (l1.take (l1.length - 1)).length = l1.length - 1 := by rw [List.length_take]; omega
  have hlenP : 0 + (l1.length - n) + n = l1.length := by omega
  have hlenQ : (l1.drop n ++ l1.take n).length = l1.length := by rw [List.length_append, List.length_drop, List.length_take]; omega
  have hFM : ∀ W A c, Kd.C k38 W A l1.length (l1.drop n ++ l1.take n) → l1.length ≤ c → Calls Tryd.prog 20 #[.agg #[.string a0_0, .string a0_1, .int .i64 a0_2, .int .i64 a0_3, .int .i64 a0_4, .int .i64 a0_5, .int .i64 a0_6, .int .i64 a0_7, .int .i64 a0_8, .int .i64 a0_9, .int .i64 a0_10], .slice A l1.length c] W fun e w' => e = .returned (.bool true) ∧ Below W.heap.size W w' := by
   intro W A c hC_ hc_
   have hq_ := order_Filled.calls k a0_0 a0_1 a0_2 a0_3 a0_4 a0_5 a0_6 a0_7 a0_8 a0_9 a0_10 A c (l1.drop n ++ l1.take n) true W (by rw [hlenQ]; exact hC_) (by rw [hlenQ]; exact hc_) HTm.out
   rw [hlenQ] at hq_
   exact hq_
  have hFL : ∀ W, Below w.heap.size w W → Calls Tryd.prog 20 #[.agg #[.string a0_0, .string a0_1, .int .i64 a0_2, .int .i64 a0_3, .int .i64 a0_4, .int .i64 a0_5, .int .i64 a0_6, .int .i64 a0_7, .int .i64 a0_8, .int .i64 a0_9, .int .i64 a0_10], .slice (some ad) (l1.length - 1) c1] W fun e w' => e = .returned (.bool tl) ∧ Below W.heap.size W w' := by
   intro W hW
   have hC_ := Kd.C_below (Kd.C_take (m := l1.length - 1) HR.out (by omega)) hW
   have hq_ := order_Filled.calls k a0_0 a0_1 a0_2 a0_3 a0_4 a0_5 a0_6 a0_7 a0_8 a0_9 a0_10 (some ad) c1 (l1.take (l1.length - 1)) tl W hC_ (by omega) HTl.out
   rw [hlenT] at hq_
   exact hq_
  obtain ⟨i38, hi38, hz38, hs38, hb38⟩ : ∃ i, Tryd.prog.info? 38 = some i ∧ i.zero = some (.agg #[(.string ⟨#[]⟩), (.string ⟨#[]⟩), (.string ⟨#[]⟩), (.int .i64 0), (.int .i64 0), (.int .i64 0), (.int .i64 0), (.int .i64 0), (.int .i64 0), (.int .i64 0), (.int .i64 0), (.slice none 0 0), (.int .i64 0), (.int .i64 0), (.int .i64 0), (.int .i64 0), (.bool false), (.int .i64 0)]) ∧ i.size = 18 ∧ i.bytes = 184 := by
   have h_ := awInfo38
   cases hq : Tryd.prog.info? 38 with
   | none => simp [hq] at h_
   | some i => rw [hq] at h_; simp only [Option.map_some, Option.some.injEq, Prod.mk.injEq] at h_; exact ⟨i, rfl, h_.1, h_.2.1, h_.2.2⟩
  replace hi38 := Aside0.mk hi38
  replace hz38 := Aside0.mk hz38
  replace hs38 := Aside0.mk hs38
  replace hb38 := Aside0.mk hb38
  replace hl1_ := Aside0.mk hl1_
  replace hl2_ := Aside0.mk hl2_
  replace ho1_ := Aside0.mk ho1_
  replace ho2_ := Aside0.mk ho2_
  replace hcel1 := Aside0.mk hcel1
  replace hcel2 := Aside0.mk hcel2
  replace hrep1 := Aside0.mk hrep1
  replace hrep2 := Aside0.mk hrep2
  replace hFL := Aside0.mk hFL
  replace hFM := Aside0.mk hFM
  replace hlenT := Aside0.mk hlenT
  replace hlenP := Aside0.mk hlenP
  replace hlenQ := Aside0.mk hlenQ
  clear hD hT hAD2
  have c7a : decide ((l1.length : Int) < ta) = false := decide_eq_false (by omega)
  have c7b : decide ((l1.length : Int) > tb) = false := decide_eq_false (by omega)
  go_wp2_with (first | (refine wpList_load_cells (by rfl) 23 (.tmp 3) rfl ⟨go, 0, none⟩ (by rfl) _ _ (cells_of_blk BKo.out) Tryd.underlying23 rfl (by kernel_rfl) ?_) | ((with_reducible refine gate_callee (f := 20) rfl ?_); (try (refine gate_guard (by rfl) ?_; dsimp only)); refine goesL_ (some 49) rfl rfl Tryd.func20 (by kernel_rfl) rfl #[.agg #[.string a0_0, .string a0_1, .int .i64 a0_2, .int .i64 a0_3, .int .i64 a0_4, .int .i64 a0_5, .int .i64 a0_6, .int .i64 a0_7, .int .i64 a0_8, .int .i64 a0_9, .int .i64 a0_10], .slice (some ad) l1.length c1] rfl (by (try simp only [List.map_toArray, List.map_cons, List.map_nil]); first | done | rfl) ?_; refine (order_Filled.calls k a0_0 a0_1 a0_2 a0_3 a0_4 a0_5 a0_6 a0_7 a0_8 a0_9 a0_10 (some ad) c1 l1 _ _ (Kd.C_below HR.out HB.out) HL.out HTf.out).mono ?_; rintro e w6 ⟨rfl, hb⟩; refine ⟨_, rfl, ?_⟩; replace HB := q_ (pT HB.out hb); replace BKo := q_ (bB BKo.out hb); clear hb) | ((with_reducible refine gate_builtin (b := .append) (xs := #[.tmp 62, .tmp 65]) rfl ?_); at_builtin; refine wpList_append_own _ rfl (.tmp 62) (.tmp 65) 42 rfl w.heap.size 38 i38 (.agg #[(.string ⟨#[]⟩), (.string ⟨#[]⟩), (.string ⟨#[]⟩), (.int .i64 0), (.int .i64 0), (.int .i64 0), (.int .i64 0), (.int .i64 0), (.int .i64 0), (.int .i64 0), (.int .i64 0), (.slice none 0 0), (.int .i64 0), (.int .i64 0), (.int .i64 0), (.int .i64 0), (.bool false), (.int .i64 0)]) 18 184 Tryd.underlying42 hi38.out hz38.out hs38.out hb38.out rfl (by decide) (.slice none 0 0) (0) [] (by rfl) (World.ownsRow_nil _ _ _ _) AD1 (l1.length - n) (c1 - n) nw1 (by rfl) hl1_.out (fun j u hj => pw_cell_below HB.out (hcel1.out j u hj)) ho1_.out (by simp only [maxLen]; omega) (by omega) (pZ HB.out) ?_; intro v1 w7 hown hgr hnil_; have hrow : ∀ k_, (Value.slice none 0 0).ownBlock = some k_ → w.heap.size ≤ k_ := (fun k_ hk => by simp [Value.ownBlock] at hk); replace BKo := q_ (blk_grown BKo.out hgr (by simp [Value.ownBlock])); replace HB := q_ (pw_below_grown HB.out _ (pZ HB.out) hgr hrow); clear hgr hnil_ hrow; have HO1 := Aside0.mk hown; clear hown) | ((with_reducible refine gate_builtin (b := .append) (xs := #[.tmp 67, .tmp 70]) rfl ?_); at_builtin; refine wpList_append_own _ rfl (.tmp 67) (.tmp 70) 42 rfl w.heap.size 38 i38 (.agg #[(.string ⟨#[]⟩), (.string ⟨#[]⟩), (.string ⟨#[]⟩), (.int .i64 0), (.int .i64 0), (.int .i64 0), (.int .i64 0), (.int .i64 0), (.int .i64 0), (.int .i64 0), (.int .i64 0), (.slice none 0 0), (.int .i64 0), (.int .i64 0), (.int .i64 0), (.int .i64 0), (.bool false), (.int .i64 0)]) 18 184 Tryd.underlying42 hi38.out hz38.out hs38.out hb38.out rfl (by decide) v1 (0 + (l1.length - n)) ([] ++ nw1) (by rfl) (HO1.out) ad (n) (c1) nw2 (by rfl) hl2_.out (fun j u hj => pw_cell_below HB.out (hcel2.out j u hj)) ho2_.out (by simp only [maxLen]; omega) (by omega) (pZ HB.out) ?_; intro v2 w8 hown hgr hnil_; have hrow : ∀ k_, v1.ownBlock = some k_ → w.heap.size ≤ k_ := (fun k_ hk => own_base HO1.out hk); replace BKo := q_ (blk_grown BKo.out hgr (own_ne HO1.out BKo.out (by decide))); replace HB := q_ (pw_below_grown HB.out _ (pZ HB.out) hgr hrow); clear hgr hnil_ hrow; rw [hlenP.out] at hown; have hrr := Reps.imp_ (Kd.reps_append hrep1.out hrep2.out) (fun p c h => k38.K_below HB.out h); have hle9 := own_cap hown; obtain ⟨A9, c9, rfl, hC9⟩ := own_reads_row (by exact hown) hrr hlenQ.out; replace hle9 := hle9 A9 c9 rfl; have HC9 := Aside0.mk hC9; clear hown hrr hC9 HO1) | ((with_reducible refine gate_dst (N := 85) rfl ?_); (with_reducible refine gate_callee (f := 20) rfl ?_); (try (refine gate_guard (by rfl) ?_; dsimp only)); refine goesL_ (some 85) rfl rfl Tryd.func20 (by kernel_rfl) rfl #[.agg #[.string a0_0, .string a0_1, .int .i64 a0_2, .int .i64 a0_3, .int .i64 a0_4, .int .i64 a0_5, .int .i64 a0_6, .int .i64 a0_7, .int .i64 a0_8, .int .i64 a0_9, .int .i64 a0_10], .slice A9 l1.length c9] rfl (by (try simp only [List.map_toArray, List.map_cons, List.map_nil]); first | done | rfl) ?_; refine (hFM.out _ A9 c9 HC9.out hle9).mono ?_; rintro e w9 ⟨rfl, hb⟩; refine ⟨_, rfl, ?_⟩; clear HC9; replace HB := q_ (pT HB.out hb); replace BKo := q_ (bB BKo.out hb); clear hb))
  obtain ⟨p1, hp1⟩ : ∃ p1 : Nat, l1.length - 1 = p1 := ⟨_, rfl⟩
  have hw1 : wrap64 ((l1.length : Int) - 1) = (p1 : Int) := by rw [ow64_ (by omega) (by omega)]; omega
  have hp2 : p1 ≤ c1 := by omega
  have hp3 : ((p1 : Int) ≤ (c1 : Int)) = True := eq_true (by omega)
  replace hFL := hFL.out
  rw [hp1] at hFL
  replace hFL := Aside0.mk hFL
  rw [show (l1.length : Int) - 1 = (p1 : Int) by omega] at c6
  obtain ⟨q9, hq9⟩ : ∃ q, decide ((p1 : Int) ≥ ta) = q := ⟨_, rfl⟩
  rw [hq9] at c6
  subst c6
  clear hp1
  clear czo fzo
  replace BKo := q_ (bW BKo.out)
  replace HB := q_ (pd_ HB.out)
  try simp only [Act.put, List.setIfInBounds_toArray, List.set_cons_zero, List.set_cons_succ]
  refine start_ (n := 17) (S := fun w' => w'.heap[go]? = some (.cells #[.string a0_0, .string a0_1, .int .i64 a0_2, .int .i64 a0_3, .int .i64 a0_4, .int .i64 a0_5, .int .i64 a0_6, .int .i64 a0_7, .int .i64 a0_8, .int .i64 a0_9, .int .i64 a0_10] 23 (0, 0))) (ds := []) #[false, false, false, false, false, false, false, false, false, false, false, false, false, false, false, false, false] (by kernel_rfl) rfl rfl BKo.out (fun hHeld => ?_)
  clear hHeld
  generalize w9.drew = w10 at BKo HB ⊢
  refine pure_ (i := 1) (N := some 89) (v := ?_) (a' := ?_) #[false, true, false, false, false, false, false, false, false, false, false, false, false, false, false, false, false] rfl rfl (by kernel_rfl) (fun _ _ _ h => h) (Or.inl ⟨by rfl, ?_⟩) ?_ ?_
  rotate_left
  ·intro w'
   go_simp
   with_reducible rfl
  rotate_left
  ·simp only [Act.put, List.setIfInBounds_toArray, List.set_cons_zero, List.set_cons_succ, i64_w, i32_w]
   rfl
  refine pure_ (i := 2) (N := some 90) (v := ?_) (a' := ?_) #[false, true, true, false, false, false, false, false, false, false, false, false, false, false, false, false, false] rfl rfl (by kernel_rfl) (fun _ _ _ h => h) (Or.inl ⟨by rfl, ?_⟩) ?_ ?_
  rotate_left
  ·intro w'
   go_simp
   with_reducible rfl
  rotate_left
  ·simp only [Act.put, List.setIfInBounds_toArray, List.set_cons_zero, List.set_cons_succ, i64_w, i32_w]
   rfl
  refine pure_ (i := 3) (N := some 91) (v := ?_) (a' := ?_) #[false, true, true, true, false, false, false, false, false, false, false, false, false, false, false, false, false] rfl rfl (by kernel_rfl) (fun _ _ _ h => h) (Or.inl ⟨by rfl, ?_⟩) ?_ ?_
  rotate_left
  ·intro w'
   go_simp
   with_reducible rfl
  rotate_left
  ·simp only [Act.put, List.setIfInBounds_toArray, List.set_cons_zero, List.set_cons_succ, i64_w, i32_w]
   rfl
  refine pure_ (i := 4) (N := some 92) (v := ?_) (a' := ?_) #[false, true, true, true, true, false, false, false, false, false, false, false, false, false, false, false, false] rfl rfl (by kernel_rfl) (fun _ _ _ h => h) (Or.inl ⟨by rfl, ?_⟩) ?_ ?_
  rotate_left
  ·intro w'
   go_simp
   with_reducible rfl
  rotate_left
  ·simp only [Act.put, List.setIfInBounds_toArray, List.set_cons_zero, List.set_cons_succ, i64_w, i32_w]
   rfl
  refine pure_ (i := 5) (N := some 93) (v := ?_) (a' := ?_) #[false, true, true, true, true, true, false, false, false, false, false, false, false, false, false, false, false] rfl rfl (by kernel_rfl) (fun _ _ _ h => h) (Or.inl ⟨by rfl, ?_⟩) ?_ ?_
  rotate_left
  ·intro w'
   go_simp
   with_reducible rfl
  rotate_left
  ·simp only [Act.put, List.setIfInBounds_toArray, List.set_cons_zero, List.set_cons_succ, i64_w, i32_w]
   rfl
  refine pure_ (i := 7) (N := some 95) (v := ?_) (a' := ?_) #[false, true, true, true, true, true, false, true, false, false, false, false, false, false, false, false, false] rfl rfl (by kernel_rfl) (fun _ _ _ h => h) (Or.inl ⟨by rfl, ?_⟩) ?_ ?_
  rotate_left
  ·intro w'
   go_simp
   with_reducible rfl
  rotate_left
  ·simp only [Act.put, List.setIfInBounds_toArray, List.set_cons_zero, List.set_cons_succ, i64_w, i32_w]
   rfl
  refine pure_ (i := 8) (N := some 96) (v := ?_) (a' := ?_) #[false, true, true, true, true, true, false, true, true, false, false, false, false, false, false, false, false] rfl rfl (by kernel_rfl) (fun _ _ _ h => h) (Or.inl ⟨by rfl, ?_⟩) ?_ ?_
  rotate_left
  ·intro w'
   go_simp
   with_reducible rfl
  rotate_left
  ·simp only [Act.put, List.setIfInBounds_toArray, List.set_cons_zero, List.set_cons_succ, i64_w, i32_w]
   rfl
  refine pure_ (i := 9) (N := some 97) (v := ?_) (a' := ?_) #[false, true, true, true, true, true, false, true, true, true, false, false, false, false, false, false, false] rfl rfl (by kernel_rfl) (fun _ _ _ h => h) (Or.inl ⟨by rfl, ?_⟩) ?_ ?_
  rotate_left
  ·intro w'
   go_simp
   with_reducible rfl
  rotate_left
  ·simp only [Act.put, List.setIfInBounds_toArray, List.set_cons_zero, List.set_cons_succ, i64_w, i32_w]
   rfl
  refine pure_ (i := 10) (N := some 98) (v := ?_) (a' := ?_) #[false, true, true, true, true, true, false, true, true, true, true, false, false, false, false, false, false] rfl rfl (by kernel_rfl) (fun _ _ _ h => h) (Or.inl ⟨by rfl, ?_⟩) ?_ ?_
  rotate_left
  ·intro w'
   go_simp
   with_reducible rfl
  rotate_left
  ·simp only [Act.put, List.setIfInBounds_toArray, List.set_cons_zero, List.set_cons_succ, i64_w, i32_w]
   rfl
  refine pure_ (i := 11) (N := some 99) (v := ?_) (a' := ?_) #[false, true, true, true, true, true, false, true, true, true, true, true, false, false, false, false, false] rfl rfl (by kernel_rfl) (fun _ _ _ h => h) (Or.inl ⟨by rfl, ?_⟩) ?_ ?_
  rotate_left
  ·intro w'
   go_simp
   with_reducible rfl
  rotate_left
  ·simp only [Act.put, List.setIfInBounds_toArray, List.set_cons_zero, List.set_cons_succ, i64_w, i32_w]
   rfl
  refine take_ (i := 0) (N := some 88) (v := ?_) (a' := ?_) #[true, true, true, true, true, true, false, true, true, true, true, true, false, false, false, false, false] rfl rfl (by kernel_rfl) (fun _ _ _ h => h) (Or.inl ⟨by rfl, ?_⟩) BKo.out ?_ ?_
  rotate_left
  ·intro w' s0
   refine exec_load_blk 23 (.tmp 3) ?_ go ?_ s0 hu23 rfl ?_
   ·exact rfl
   ·exact rfl
   ·kernel_rfl
  rotate_left
  ·simp only [Act.put, List.setIfInBounds_toArray, List.set_cons_zero, List.set_cons_succ, i64_w, i32_w]
   rfl
  refine one_ (i := 6) (N := some 94) #[true, true, true, true, true, true, true, true, true, true, true, true, false, false, false, false, false] rfl rfl (by kernel_rfl) (by decide) (fun K hK => ?_)
  refine goes_ Tryd.func20 (by kernel_rfl) rfl #[.agg #[.string a0_0, .string a0_1, .int .i64 a0_2, .int .i64 a0_3, .int .i64 a0_4, .int .i64 a0_5, .int .i64 a0_6, .int .i64 a0_7, .int .i64 a0_8, .int .i64 a0_9, .int .i64 a0_10], .slice (some ad) p1 c1] (by rfl) rfl rfl (by (try simp only [List.map_toArray, List.map_cons, List.map_nil]); first | done | rfl) ?_
  refine (hFL.out _ HB.out).mono ?_
  rintro e w11 ⟨rfl, hb⟩
  refine ⟨_, rfl, ?_⟩
  replace HB := q_ (pT HB.out hb)
  replace BKo := q_ (bB BKo.out hb)
  clear hb
  refine hK.out _ _ BKo.out (fun hHeld => ?_)
  clear hK K hHeld
  refine norm_ (a' := ?_) ?_ ?_
  rotate_left
  ·show Act.put _ (some 94) _ = _
   simp only [Act.put, List.setIfInBounds_toArray, List.set_cons_zero, List.set_cons_succ, i64_w, i32_w]
   rfl
  refine pure_ (i := 12) (N := some 100) (v := ?_) (a' := ?_) #[true, true, true, true, true, true, true, true, true, true, true, true, true, false, false, false, false] rfl rfl (by kernel_rfl) (fun _ _ _ h => h) (Or.inl ⟨by rfl, ?_⟩) ?_ ?_
  rotate_left
  ·intro w'
   go_simp
   with_reducible rfl
  rotate_left
  ·simp only [Act.put, List.setIfInBounds_toArray, List.set_cons_zero, List.set_cons_succ, i64_w, i32_w]
   rfl
  refine pure_ (i := 13) (N := some 101) (v := ?_) (a' := ?_) #[true, true, true, true, true, true, true, true, true, true, true, true, true, true, false, false, false] rfl rfl (by kernel_rfl) (fun _ _ _ h => h) (Or.inl ⟨by rfl, ?_⟩) ?_ ?_
  rotate_left
  ·intro w'
   go_simp
   with_reducible rfl
  rotate_left
  ·simp only [Act.put, List.setIfInBounds_toArray, List.set_cons_zero, List.set_cons_succ, i64_w, i32_w]
   rfl
  refine one_ (i := 14) (N := some 102) #[true, true, true, true, true, true, true, true, true, true, true, true, true, true, true, false, false] rfl rfl (by kernel_rfl) (by decide) (fun K hK => ?_)
  refine goes_ Tryd.func11 (by kernel_rfl) rfl #[] (by rfl) rfl rfl (by (try simp only [List.map_toArray, List.map_cons, List.map_nil]); first | done | rfl) ?_
  refine (awake_calls _).mono ?_
  rintro e w12 ⟨rfl, hb⟩
  refine ⟨_, rfl, ?_⟩
  replace HB := q_ (pT HB.out hb)
  replace BKo := q_ (bB BKo.out hb)
  clear hb
  refine hK.out _ _ BKo.out (fun hHeld => ?_)
  clear hK K hHeld
  refine norm_ (a' := ?_) ?_ ?_
  rotate_left
  ·show Act.put _ (some 102) _ = _
   simp only [Act.put, List.setIfInBounds_toArray, List.set_cons_zero, List.set_cons_succ, i64_w, i32_w]
   rfl
  refine pure_ (i := 15) (N := some 103) (v := ?_) (a' := ?_) #[true, true, true, true, true, true, true, true, true, true, true, true, true, true, true, true, false] rfl rfl (by kernel_rfl) (fun _ _ _ h => h) (Or.inl ⟨by rfl, ?_⟩) ?_ ?_
  rotate_left
  ·intro w'
   go_simp
   with_reducible rfl
  rotate_left
  ·simp only [Act.put, List.setIfInBounds_toArray, List.set_cons_zero, List.set_cons_succ, i64_w, i32_w]
   rfl
  refine pure_ (i := 16) (N := some 6) (v := ?_) (a' := ?_) #[true, true, true, true, true, true, true, true, true, true, true, true, true, true, true, true, true] rfl rfl (by kernel_rfl) (fun _ _ _ h => h) (Or.inl ⟨by rfl, ?_⟩) ?_ ?_
  rotate_left
  ·intro w'
   go_simp
   with_reducible rfl
  rotate_left
  ·simp only [Act.put, List.setIfInBounds_toArray, List.set_cons_zero, List.set_cons_succ, i64_w, i32_w]
   rfl
  refine done_ (by kernel_rfl) ?_
  have czo := blk_all BKo.out
  simp only [CellsAt, List.toList_toArray, Nat.reduceAdd, and_true] at czo
  have fzo := bF BKo.out
  go_wp2
  go_ret
  exact ⟨rfl, HB.out⟩
end Go.Proofs.YtblmgmhjlbkncaaDoor.PA
namespace Go.Proofs.YtblmgmhjlbkncaaDoor.PA
open Go.RowKit Go.Proofs.YtblmgmhjlbkncaaDoorW.PrintWords Go.Proofs.YtblmgmhjlbkncaaDoorW.PrintLast Go.Proofs.YtblmgmhjlbkncaaDoorW.PrintMore
attribute [local go_sem] max2_int min2_int max_two min_two max_three min_three max_four min_four
set_option linter.unusedVariables false
set_option linter.unusedSimpArgs false
def sawmillref46_Sound.f (a0_0 : ByteArray) (a0_1 : ByteArray) (a0_2 : Int) (a0_3 : Int) (a0_4 : Int) (a0_5 : Int) (a0_6 : Int) (a0_7 : Int) (a0_8 : Int) (a0_9 : Int) (a0_10 : Int) : Option (Bool) := if a0_6 ≥ 1 then (if a0_6 ≤ 200 then (if a0_7 ≥ 0 then (if a0_7 < a0_6 then (if a0_8 ≥ 0 then (some (decide (a0_8 ≤ (wrap64 (200 - a0_6))))) else (some false)) else (some false)) else (some false)) else (some false)) else (some false)
end Go.Proofs.YtblmgmhjlbkncaaDoor.PA
namespace Go.Proofs.YtblmgmhjlbkncaaDoor.PA
open Go.RowKit Go.Proofs.YtblmgmhjlbkncaaDoorW.PrintWords Go.Proofs.YtblmgmhjlbkncaaDoorW.PrintLast Go.Proofs.YtblmgmhjlbkncaaDoorW.PrintMore
attribute [local go_sem] max2_int min2_int max_two min_two max_three min_three max_four min_four
set_option linter.unusedVariables false
set_option linter.unusedSimpArgs false
end Go.Proofs.YtblmgmhjlbkncaaDoor.PA
namespace Go.Proofs.YtblmgmhjlbkncaaDoor.PA
open Go.RowKit Go.Proofs.YtblmgmhjlbkncaaDoorW.PrintWords Go.Proofs.YtblmgmhjlbkncaaDoorW.PrintLast Go.Proofs.YtblmgmhjlbkncaaDoorW.PrintMore
attribute [local go_sem] max2_int min2_int max_two min_two max_three min_three max_four min_four
set_option linter.unusedVariables false
set_option linter.unusedSimpArgs false
end Go.Proofs.YtblmgmhjlbkncaaDoor.PA
namespace Go.Proofs.YtblmgmhjlbkncaaDoor.PA
open Go.RowKit Go.Proofs.YtblmgmhjlbkncaaDoorW.PrintWords Go.Proofs.YtblmgmhjlbkncaaDoorW.PrintLast Go.Proofs.YtblmgmhjlbkncaaDoorW.PrintMore
attribute [local go_sem] max2_int min2_int max_two min_two max_three min_three max_four min_four
set_option linter.unusedVariables false
set_option linter.unusedSimpArgs false
end Go.Proofs.YtblmgmhjlbkncaaDoor.PA
namespace Go.Proofs.YtblmgmhjlbkncaaDoor.PA
open Go.RowKit Go.Proofs.YtblmgmhjlbkncaaDoorW.PrintWords Go.Proofs.YtblmgmhjlbkncaaDoorW.PrintLast Go.Proofs.YtblmgmhjlbkncaaDoorW.PrintMore
attribute [local go_sem] max2_int min2_int max_two min_two max_three min_three max_four min_four
set_option linter.unusedVariables false
set_option linter.unusedSimpArgs false
end Go.Proofs.YtblmgmhjlbkncaaDoor.PA
namespace Go.Proofs.YtblmgmhjlbkncaaDoor.PA
open Go.RowKit Go.Proofs.YtblmgmhjlbkncaaDoorW.PrintWords Go.Proofs.YtblmgmhjlbkncaaDoorW.PrintLast Go.Proofs.YtblmgmhjlbkncaaDoorW.PrintMore
attribute [local go_sem] max2_int min2_int max_two min_two max_three min_three max_four min_four
set_option linter.unusedVariables false
set_option linter.unusedSimpArgs false
def sawmillref30_within.f (a0_0 : Int) (a0_1 : Int) (a1 : Int) (a2 : Int) : Option (Bool) := if a0_0 ≥ a1 then (if a0_0 ≤ a2 then (if a0_1 ≥ a1 then (some (decide (a0_1 ≤ a2))) else (some false)) else (some false)) else (some false)
def sawmillref30_length.f (a0_0 : Int) (a0_1 : Int) : Option (Int) := some (wrap64 (a0_1 - a0_0))
def sawmillref30_Length.f (a0_0 : ByteArray) (a0_1 : ByteArray) (a0_2 : ByteArray) (a0_3 : Int) (a0_4 : Int) (a0_5 : Int) (a0_6 : Int) (a0_7 : Int) (a0_8 : Int) (a0_9 : Int) (a0_10 : Int) (l0_11 : List (S176)) (a0_12 : Int) (a0_13 : Int) (a0_14 : Int) (a0_15 : Int) (a0_16 : Bool) (a0_17 : Int) : Option (Int) := (sawmillref30_within.f a0_8 a0_9 0 20000).bind fun t320 => (if t320 = true then ((sawmillref30_length.f a0_8 a0_9).bind fun t321 => (some (mx 0 t321))) else (some 0))
def sawmillref36_Check.j0 : Nat → Bool → Int → Int → Int → Option (Int)
 | 0, _, _, _, _ => none
 | k + 1, x20, x323000, x323001, x323002 => if x20 = true then (some 25) else (if x323002 < 0 then (some 9) else (if x323002 > 1099511627776 then (some 9) else (some 0)))
def sawmillref36_Check.f (k : Nat) (a0_0 : Int) (a0_1 : Int) (a0_2 : Int) : Option (Int) := if a0_0 < 0 then (sawmillref36_Check.j0 k true a0_0 a0_1 a0_2) else (if a0_0 > 20000 then (sawmillref36_Check.j0 k true a0_0 a0_1 a0_2) else (if a0_1 < 0 then (sawmillref36_Check.j0 k true a0_0 a0_1 a0_2) else (sawmillref36_Check.j0 k (decide (a0_1 > 20000)) a0_0 a0_1 a0_2)))
theorem sawmillref36_Check.mono_l : ∀ k, (∀ y0 y1 y2 y3, LeO (sawmillref36_Check.j0 k y0 y1 y2 y3) (sawmillref36_Check.j0 (k + 1) y0 y1 y2 y3))
 | 0 => fun _ _ _ _ r h => by simp [sawmillref36_Check.j0] at h
 | k + 1 => by
  have ih0 := sawmillref36_Check.mono_l k
  ·intro y0 y1 y2 y3
   unfold sawmillref36_Check.j0
   repeat' first
   | (with_reducible exact ih0 _ _ _ _)
   | (with_reducible exact LeO.refl _)
   | (with_reducible exact LeO.none _)
   | (with_reducible refine LeO.ite ?_ ?_)
   | (with_reducible refine LeO.bind ?_ (fun _ => ?_))
   | exact ih0 _ _ _ _
   | exact LeO.none _
   | refine LeO.ite ?_ ?_
   | refine LeO.bind ?_ (fun _ => ?_)
theorem sawmillref36_Check.mono : ∀ a0 a1 a2 k, LeO (sawmillref36_Check.f k a0 a1 a2) (sawmillref36_Check.f (k + 1) a0 a1 a2) := by
 intro a0 a1 a2 k
 have ih0 := sawmillref36_Check.mono_l k
 unfold sawmillref36_Check.f
 repeat' first
   | (with_reducible exact ih0 _ _ _ _)
   | (with_reducible exact LeO.refl _)
   | (with_reducible exact LeO.none _)
   | (with_reducible refine LeO.ite ?_ ?_)
   | (with_reducible refine LeO.bind ?_ (fun _ => ?_))
   | exact ih0 _ _ _ _
   | exact LeO.none _
   | refine LeO.ite ?_ ?_
   | refine LeO.bind ?_ (fun _ => ?_)
def sawmillref36_Mean.f (k : Nat) (a0_0 : Int) (a0_1 : Int) (a0_2 : Int) : Option (Int) := (sawmillref36_Check.f k a0_0 a0_1 a0_2).bind fun t324 => (if t324 = 0 then (some (wrap64 (Int.tdiv (wrap64 (a0_0 + (wrap64 (2 * a0_1)))) 3))) else (some 0))
theorem sawmillref36_Mean.mono : ∀ a0 a1 a2 k, LeO (sawmillref36_Mean.f k a0 a1 a2) (sawmillref36_Mean.f (k + 1) a0 a1 a2) := by
 intro a0 a1 a2 k
 unfold sawmillref36_Mean.f
 repeat' first
   | (with_reducible exact sawmillref36_Check.mono _ _ _ _)
   | (with_reducible exact LeO.refl _)
   | (with_reducible exact LeO.none _)
   | (with_reducible refine LeO.ite ?_ ?_)
   | (with_reducible refine LeO.bind ?_ (fun _ => ?_))
   | exact sawmillref36_Check.mono _ _ _ _
   | exact LeO.none _
   | refine LeO.ite ?_ ?_
   | refine LeO.bind ?_ (fun _ => ?_)
end Go.Proofs.YtblmgmhjlbkncaaDoor.PA
