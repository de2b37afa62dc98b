/- Each Go function that the law reaches as a Lean function, and that its call comes to that function's answer. -/
import Derived.Test.YtblmgmhjlbkncaaDoorCOrderTexts2
import Derived.Test.YtblmgmhjlbkncaaDoorVOrderTexts
import Derived.Test.YtblmgmhjlbkncaaDoorProg
import Derived.Test.YtblmgmhjlbkncaaDoorShelf
import Derived.Below
import Derived.Deep.Draws
import Derived.Deep.AppendLies
import Derived.Maps.AppendAt
import Derived.OwnWalk
import Derived.Laws.BytesArg
import Derived.Laws.MakeOwn
import Derived.Laws.OwnMore
import Derived.Deep.OwnRows
import Derived.Tactics
import Derived.Lib.ConvBytes
import Derived.Laws.Slices
import Derived.WalkKit
import Derived.KernelRfl
import Derived.RowKit3
import Derived.Deep.LoopGhost
import Derived.Deep.QuietTactic
import Derived.BigQuiet
import Derived.WideLaws
import Derived.Deep.DeepCutAuto
import Derived.Deep.CutBlock
import Derived.Deep.RegionHeld3
import Derived.Laws.Rows
import Derived.Lib.AppendStr
import Derived.ArgAppend
import Derived.Laws.IdiomCopy
import Derived.OrdersHeld
import Derived.Laws.BitsLemmas
import Derived.RowKit
import Derived.LoopN
import Derived.Laws.EntriesVeiled
import Derived.LaidSub
import Derived.MakeChecks
import Derived.Lib.LaidTab
import Derived.Maps.OwnOps
import Derived.Maps.Views
import Derived.Maps.Keyed
import Derived.Shelf.SlicesQ.Load
import Derived.Laws.Tables
namespace Go.Proofs.YtblmgmhjlbkncaaDoor.PA
open Go.RowKit Go.Proofs.YtblmgmhjlbkncaaDoorW.PrintWords Go.Proofs.YtblmgmhjlbkncaaDoorW.PrintLast Go.Proofs.YtblmgmhjlbkncaaDoorW.PrintMore
attribute [local go_sem] max2_int min2_int max_two min_two max_three min_three max_four min_four
set_option linter.unusedVariables false
set_option linter.unusedSimpArgs false
def wire_Reader_Err.f (s0_0 : ByteArray) (s0_1 : Int) (s0_2 : Int) : Option (Int × ByteArray × Int × Int) := some (s0_2, s0_0, s0_1, s0_2)
set_option maxHeartbeats 8000000 in
set_option maxRecDepth 100000 in
theorem wire_Reader_Err.calls (g : Nat) (s0_0 : ByteArray) (s0_1 : Int) (s0_2 : Int) (r1 : Int) (r2 : ByteArray) (r3 : Int) (r4 : Int) (w0 w : World) (hI : IsS104 w0 w g s0_0 s0_1 s0_2) (hB : Below w0.heap.size w0 w) (h : wire_Reader_Err.f s0_0 s0_1 s0_2 = some (r1, r2, r3, r4)) :
  Calls Tryd.prog 82 #[.pointer (some ⟨g, 0, none⟩)] w fun e w' => e = .returned (.int .i64 r1) ∧ IsS104 w0 w' g r2 r3 r4 ∧ Below w0.heap.size w0 w' ∧ KeepBut w w' g none := by
 have HI0 := Aside0.mk hI
 have HK := q_ (KeepBut.refl w g none)
 have HL := Aside0.mk hB.size
 clear hI
 have HW0 := Aside0.mk hB.size
 have HB := Aside0.mk hB
 clear hB
 have H : (some (s0_2, s0_0, s0_1, s0_2)) = some (r1, r2, r3, r4) := h
 clear h
 simp only [Option.some.injEq, Prod.mk.injEq] at H
 obtain ⟨rfl, rfl, rfl, rfl⟩ := H
 obtain ⟨HGz2, hgz2⟩ := HI0.out
 have hcz2_0 := cellS104_0 HGz2
 have hcz2_1 := cellS104_1 HGz2
 have hcz2_2 := cellS104_2 HGz2
 have hfz2_0 := bF HGz2 0
 have hfz2_1 := bF HGz2 1
 have hfz2_2 := bF HGz2 2
 clear HGz2 hgz2
 go_enter Tryd.func82, Tryd.ntmps82
 go_wp2
 go_ret
 exact ⟨by first | rfl | (simp [*] <;> rfl), by repeat (first | (with_reducible first | exact HI0.out | apply IsS104.alloc | apply IsS104.drewN | apply IsS104.drew | apply IsS104.set_0 | apply IsS104.set_1 | apply IsS104.set_2) | exact HI0.out), by repeat (first | (with_reducible first | exact HB.out | apply pA | apply pN | apply p1 | refine pS ?_ (IsS104.ge HI0.out)) | exact HB.out), by repeat (first | (with_reducible first | exact HK.out | apply KeepBut.set_ | apply keep_drewN | apply keep_drew | apply keep_alloc) | exact HK.out)⟩
def wire_Reader_Left.f (s0_0 : ByteArray) (s0_1 : Int) (s0_2 : Int) : Option (Int × ByteArray × Int × Int) := some (wrap64 ((s0_0.size : Int) - s0_1), s0_0, s0_1, s0_2)
set_option maxHeartbeats 8000000 in
set_option maxRecDepth 100000 in
theorem wire_Reader_Left.calls (g : Nat) (s0_0 : ByteArray) (s0_1 : Int) (s0_2 : Int) (r1 : Int) (r2 : ByteArray) (r3 : Int) (r4 : Int) (w0 w : World) (hI : IsS104 w0 w g s0_0 s0_1 s0_2) (hB : Below w0.heap.size w0 w) (h : wire_Reader_Left.f s0_0 s0_1 s0_2 = some (r1, r2, r3, r4)) :
  Calls Tryd.prog 83 #[.pointer (some ⟨g, 0, none⟩)] w fun e w' => e = .returned (.int .i64 r1) ∧ IsS104 w0 w' g r2 r3 r4 ∧ Below w0.heap.size w0 w' ∧ KeepBut w w' g none := by
 have HI0 := Aside0.mk hI
 have HK := q_ (KeepBut.refl w g none)
 have HL := Aside0.mk hB.size
 clear hI
 have HW0 := Aside0.mk hB.size
 have HB := Aside0.mk hB
 clear hB
 have H : (some (wrap64 ((s0_0.size : Int) - s0_1), s0_0, s0_1, s0_2)) = some (r1, r2, r3, r4) := h
 clear h
 simp only [Option.some.injEq, Prod.mk.injEq] at H
 obtain ⟨rfl, rfl, rfl, rfl⟩ := H
 obtain ⟨HGz2, hgz2⟩ := HI0.out
 have hcz2_0 := cellS104_0 HGz2
 have hcz2_1 := cellS104_1 HGz2
 have hcz2_2 := cellS104_2 HGz2
 have hfz2_0 := bF HGz2 0
 have hfz2_1 := bF HGz2 1
 have hfz2_2 := bF HGz2 2
 clear HGz2 hgz2
 go_enter Tryd.func83, Tryd.ntmps83
 go_wp2
 repeat (go_quiet (fail); try go_wp2)
 go_ret
 exact ⟨by first | rfl | (simp [*] <;> rfl), by repeat (first | (with_reducible first | exact HI0.out | apply IsS104.alloc | apply IsS104.drewN | apply IsS104.drew | apply IsS104.set_0 | apply IsS104.set_1 | apply IsS104.set_2) | exact HI0.out), by repeat (first | (with_reducible first | exact HB.out | apply pA | apply pN | apply p1 | refine pS ?_ (IsS104.ge HI0.out)) | exact HB.out), by repeat (first | (with_reducible first | exact HK.out | apply KeepBut.set_ | apply keep_drewN | apply keep_drew | apply keep_alloc) | exact HK.out)⟩
def wire_Reader_End.f (s0_0 : ByteArray) (s0_1 : Int) (s0_2 : Int) : Option (Int × ByteArray × Int × Int) := (wire_Reader_Err.f s0_0 s0_1 s0_2).bind fun bt236 => (if bt236.1 = 0 then ((wire_Reader_Left.f bt236.2.1 bt236.2.2.1 bt236.2.2.2).bind fun bt240 => (if bt240.1 = 0 then (some (bt236.1, bt240.2.1, bt240.2.2.1, bt240.2.2.2)) else (some (4, bt240.2.1, bt240.2.2.1, bt240.2.2.2)))) else (some (bt236.1, bt236.2.1, bt236.2.2.1, bt236.2.2.2)))
set_option maxHeartbeats 8000000 in
set_option maxRecDepth 100000 in
theorem wire_Reader_End.calls (g : Nat) (s0_0 : ByteArray) (s0_1 : Int) (s0_2 : Int) (r1 : Int) (r2 : ByteArray) (r3 : Int) (r4 : Int) (w0 w : World) (hI : IsS104 w0 w g s0_0 s0_1 s0_2) (hB : Below w0.heap.size w0 w) (h : wire_Reader_End.f s0_0 s0_1 s0_2 = some (r1, r2, r3, r4)) :
  Calls Tryd.prog 54 #[.pointer (some ⟨g, 0, none⟩)] w fun e w' => e = .returned (.int .i64 r1) ∧ IsS104 w0 w' g r2 r3 r4 ∧ Below w0.heap.size w0 w' ∧ KeepBut w w' g none := by
 have HI0 := Aside0.mk hI
 have HK := q_ (KeepBut.refl w g none)
 have HL := Aside0.mk hB.size
 clear hI
 have HW0 := Aside0.mk hB.size
 have HB := Aside0.mk hB
 clear hB
 have H : ((wire_Reader_Err.f s0_0 s0_1 s0_2).bind fun bt236 => (if bt236.1 = 0 then ((wire_Reader_Left.f bt236.2.1 bt236.2.2.1 bt236.2.2.2).bind fun bt240 => (if bt240.1 = 0 then (some (bt236.1, bt240.2.1, bt240.2.2.1, bt240.2.2.2)) else (some (4, bt240.2.1, bt240.2.2.1, bt240.2.2.2)))) else (some (bt236.1, bt236.2.1, bt236.2.2.1, bt236.2.2.2)))) = some (r1, r2, r3, r4) := h
 clear h
 replace H := oB H
 obtain ⟨⟨t236, t237, t238, t239⟩, A20, H⟩ := H
 replace H : (if t236 = 0 then ((wire_Reader_Left.f t237 t238 t239).bind fun bt240 => (if bt240.1 = 0 then (some (t236, bt240.2.1, bt240.2.2.1, bt240.2.2.2)) else (some (4, bt240.2.1, bt240.2.2.1, bt240.2.2.2)))) else (some (t236, t237, t238, t239))) = some (r1, r2, r3, r4) := H
 have A2 := Aside0.mk A20
 clear A20
 by_cases c3 : t236 = 0
 ·rw [if_pos c3] at H
  have c3b0 : (t236 == 0) = true := beq_iff_eq.mpr c3
  have c3b1 : (t236 != 0) = false := oD c3
  clear c3
  replace H := oB H
  obtain ⟨⟨t240, t241, t242, t243⟩, A40, H⟩ := H
  replace H : (if t240 = 0 then (some (t236, t241, t242, t243)) else (some (4, t241, t242, t243))) = some (r1, r2, r3, r4) := H
  have A4 := Aside0.mk A40
  clear A40
  by_cases c5 : t240 = 0
  ·rw [if_pos c5] at H
   have c5b0 : (t240 == 0) = true := beq_iff_eq.mpr c5
   have c5b1 : (t240 != 0) = false := oD c5
   clear c5
   simp only [Option.some.injEq, Prod.mk.injEq] at H
   obtain ⟨rfl, rfl, rfl, rfl⟩ := H
   go_enter Tryd.func54, Tryd.ntmps54
   go_wp2_with (first | ((with_reducible refine gate_callee (f := 82) rfl ?_); refine goesL_ (some 5) rfl rfl Tryd.func82 (by kernel_rfl) rfl #[.pointer (some ⟨g, 0, none⟩)] rfl (by first | rfl | (simp only [List.map_toArray]; rfl)) ?_; (with_reducible refine (wire_Reader_Err.calls g s0_0 s0_1 s0_2 t236 t237 t238 t239 w0 _ ?side1 ?side2 A2.out).mono ?_); (case side1 => repeat (first | (with_reducible first | exact HI0.out | apply IsS104.alloc | apply IsS104.drewN | apply IsS104.drew | apply IsS104.set_0 | apply IsS104.set_1 | apply IsS104.set_2) | exact HI0.out)); (case side2 => repeat (first | (with_reducible first | exact HB.out | apply pA | apply pN | apply p1 | refine pS ?_ (IsS104.ge HI0.out)) | exact HB.out)); rintro e w6 ⟨rfl, hi, hb, hk⟩; refine ⟨_, rfl, ?_⟩; have n0_ := q_ (KeepBut.trans (by repeat (first | (with_reducible first | exact HK.out | apply KeepBut.set_ | apply keep_drewN | apply keep_drew | apply keep_alloc) | exact HK.out)) hk (.inl rfl)); have n1_ := q_ (hb); have n2_ := q_ (hi); clear HK; clear HB; clear HI0; have HK := n0_; have HB := n1_; have HI0 := n2_; clear n0_ n1_ n2_; (try clear hb); (try clear hb2); (try clear hk); (try clear hi)) | (go_at_call 83; (with_reducible refine (wire_Reader_Left.calls g t237 t238 t239 t240 t241 t242 t243 w0 _ ?side1 ?side2 A4.out).mono ?_); (case side1 => repeat (first | (with_reducible first | exact HI0.out | apply IsS104.alloc | apply IsS104.drewN | apply IsS104.drew | apply IsS104.set_0 | apply IsS104.set_1 | apply IsS104.set_2) | exact HI0.out)); (case side2 => repeat (first | (with_reducible first | exact HB.out | apply pA | apply pN | apply p1 | refine pS ?_ (IsS104.ge HI0.out)) | exact HB.out)); rintro e w7 ⟨rfl, hi, hb, hk⟩; have n0_ := q_ (KeepBut.trans (by repeat (first | (with_reducible first | exact HK.out | apply KeepBut.set_ | apply keep_drewN | apply keep_drew | apply keep_alloc) | exact HK.out)) hk (.inl rfl)); have n1_ := q_ (hb); have n2_ := q_ (hi); clear HK; clear HB; clear HI0; have HK := n0_; have HB := n1_; have HI0 := n2_; clear n0_ n1_ n2_; (try clear hb); (try clear hb2); (try clear hk); (try clear hi)))
   go_ret
   exact ⟨by first | rfl | (simp [*] <;> rfl), by repeat (first | (with_reducible first | exact HI0.out | apply IsS104.alloc | apply IsS104.drewN | apply IsS104.drew | apply IsS104.set_0 | apply IsS104.set_1 | apply IsS104.set_2) | exact HI0.out), by repeat (first | (with_reducible first | exact HB.out | apply pA | apply pN | apply p1 | refine pS ?_ (IsS104.ge HI0.out)) | exact HB.out), by repeat (first | (with_reducible first | exact HK.out | apply KeepBut.set_ | apply keep_drewN | apply keep_drew | apply keep_alloc) | exact HK.out)⟩
  ·rw [if_neg c5] at H
   have c5b0 : (t240 == 0) = false := oC c5
   have c5b1 : (t240 != 0) = true := bne_iff_ne.mpr c5
   simp only [Option.some.injEq, Prod.mk.injEq] at H
   obtain ⟨rfl, rfl, rfl, rfl⟩ := H
   go_enter Tryd.func54, Tryd.ntmps54
   go_wp2_with (first | ((with_reducible refine gate_callee (f := 82) rfl ?_); refine goesL_ (some 5) rfl rfl Tryd.func82 (by kernel_rfl) rfl #[.pointer (some ⟨g, 0, none⟩)] rfl (by first | rfl | (simp only [List.map_toArray]; rfl)) ?_; (with_reducible refine (wire_Reader_Err.calls g s0_0 s0_1 s0_2 t236 t237 t238 t239 w0 _ ?side1 ?side2 A2.out).mono ?_); (case side1 => repeat (first | (with_reducible first | exact HI0.out | apply IsS104.alloc | apply IsS104.drewN | apply IsS104.drew | apply IsS104.set_0 | apply IsS104.set_1 | apply IsS104.set_2) | exact HI0.out)); (case side2 => repeat (first | (with_reducible first | exact HB.out | apply pA | apply pN | apply p1 | refine pS ?_ (IsS104.ge HI0.out)) | exact HB.out)); rintro e w8 ⟨rfl, hi, hb, hk⟩; refine ⟨_, rfl, ?_⟩; have n0_ := q_ (KeepBut.trans (by repeat (first | (with_reducible first | exact HK.out | apply KeepBut.set_ | apply keep_drewN | apply keep_drew | apply keep_alloc) | exact HK.out)) hk (.inl rfl)); have n1_ := q_ (hb); have n2_ := q_ (hi); clear HK; clear HB; clear HI0; have HK := n0_; have HB := n1_; have HI0 := n2_; clear n0_ n1_ n2_; (try clear hb); (try clear hb2); (try clear hk); (try clear hi)) | (go_at_call 83; (with_reducible refine (wire_Reader_Left.calls g t237 t238 t239 t240 t241 t242 t243 w0 _ ?side1 ?side2 A4.out).mono ?_); (case side1 => repeat (first | (with_reducible first | exact HI0.out | apply IsS104.alloc | apply IsS104.drewN | apply IsS104.drew | apply IsS104.set_0 | apply IsS104.set_1 | apply IsS104.set_2) | exact HI0.out)); (case side2 => repeat (first | (with_reducible first | exact HB.out | apply pA | apply pN | apply p1 | refine pS ?_ (IsS104.ge HI0.out)) | exact HB.out)); rintro e w9 ⟨rfl, hi, hb, hk⟩; have n0_ := q_ (KeepBut.trans (by repeat (first | (with_reducible first | exact HK.out | apply KeepBut.set_ | apply keep_drewN | apply keep_drew | apply keep_alloc) | exact HK.out)) hk (.inl rfl)); have n1_ := q_ (hb); have n2_ := q_ (hi); clear HK; clear HB; clear HI0; have HK := n0_; have HB := n1_; have HI0 := n2_; clear n0_ n1_ n2_; (try clear hb); (try clear hb2); (try clear hk); (try clear hi)))
   go_ret
   exact ⟨by first | rfl | (simp [*] <;> rfl), by repeat (first | (with_reducible first | exact HI0.out | apply IsS104.alloc | apply IsS104.drewN | apply IsS104.drew | apply IsS104.set_0 | apply IsS104.set_1 | apply IsS104.set_2) | exact HI0.out), by repeat (first | (with_reducible first | exact HB.out | apply pA | apply pN | apply p1 | refine pS ?_ (IsS104.ge HI0.out)) | exact HB.out), by repeat (first | (with_reducible first | exact HK.out | apply KeepBut.set_ | apply keep_drewN | apply keep_drew | apply keep_alloc) | exact HK.out)⟩
 ·rw [if_neg c3] at H
  have c3b0 : (t236 == 0) = false := oC c3
  have c3b1 : (t236 != 0) = true := bne_iff_ne.mpr c3
  simp only [Option.some.injEq, Prod.mk.injEq] at H
  obtain ⟨rfl, rfl, rfl, rfl⟩ := H
  go_enter Tryd.func54, Tryd.ntmps54
  go_wp2_with (first | ((with_reducible refine gate_callee (f := 82) rfl ?_); refine goesL_ (some 5) rfl rfl Tryd.func82 (by kernel_rfl) rfl #[.pointer (some ⟨g, 0, none⟩)] rfl (by first | rfl | (simp only [List.map_toArray]; rfl)) ?_; (with_reducible refine (wire_Reader_Err.calls g s0_0 s0_1 s0_2 t236 t237 t238 t239 w0 _ ?side1 ?side2 A2.out).mono ?_); (case side1 => repeat (first | (with_reducible first | exact HI0.out | apply IsS104.alloc | apply IsS104.drewN | apply IsS104.drew | apply IsS104.set_0 | apply IsS104.set_1 | apply IsS104.set_2) | exact HI0.out)); (case side2 => repeat (first | (with_reducible first | exact HB.out | apply pA | apply pN | apply p1 | refine pS ?_ (IsS104.ge HI0.out)) | exact HB.out)); rintro e w10 ⟨rfl, hi, hb, hk⟩; refine ⟨_, rfl, ?_⟩; have n0_ := q_ (KeepBut.trans (by repeat (first | (with_reducible first | exact HK.out | apply KeepBut.set_ | apply keep_drewN | apply keep_drew | apply keep_alloc) | exact HK.out)) hk (.inl rfl)); have n1_ := q_ (hb); have n2_ := q_ (hi); clear HK; clear HB; clear HI0; have HK := n0_; have HB := n1_; have HI0 := n2_; clear n0_ n1_ n2_; (try clear hb); (try clear hb2); (try clear hk); (try clear hi)))
  go_ret
  exact ⟨by first | rfl | (simp [*] <;> rfl), by repeat (first | (with_reducible first | exact HI0.out | apply IsS104.alloc | apply IsS104.drewN | apply IsS104.drew | apply IsS104.set_0 | apply IsS104.set_1 | apply IsS104.set_2) | exact HI0.out), by repeat (first | (with_reducible first | exact HB.out | apply pA | apply pN | apply p1 | refine pS ?_ (IsS104.ge HI0.out)) | exact HB.out), by repeat (first | (with_reducible first | exact HK.out | apply KeepBut.set_ | apply keep_drewN | apply keep_drew | apply keep_alloc) | exact HK.out)⟩
def order_Decode.f (k : Nat) (a0 : ByteArray) : Option (ByteArray × ByteArray × Int × Int × Int × Int × Int × Int × Int × Int × Int × Int) := (wire_NewReader.f a0).bind fun bt245 => ((wire_Reader_Text.f k bt245.1 bt245.2.1 bt245.2.2 16).bind fun bt249 => ((wire_Reader_Text.f k bt249.2.1 bt249.2.2.1 bt249.2.2.2 16).bind fun bt253 => ((wire_Reader_Ints.f k bt253.2.1 bt253.2.2.1 bt253.2.2.2 9 (-1099511627776) 1099511627776).bind fun bt258 => ((wire_Reader_End.f bt258.2.1 bt258.2.2.1 bt258.2.2.2).bind fun bt264 => (if bt264.1 = 0 then (if (bt258.1.length : Int) = 9 then (if 0 < (bt258.1.length : Int) then (if 1 < (bt258.1.length : Int) then (if 2 < (bt258.1.length : Int) then (if 3 < (bt258.1.length : Int) then (if 4 < (bt258.1.length : Int) then (if 5 < (bt258.1.length : Int) then (if 6 < (bt258.1.length : Int) then (if 7 < (bt258.1.length : Int) then (if 8 < (bt258.1.length : Int) then (some (bt249.1, bt253.1, rd bt258.1 0, rd bt258.1 1, rd bt258.1 2, rd bt258.1 3, rd bt258.1 4, rd bt258.1 5, rd bt258.1 6, rd bt258.1 7, rd bt258.1 8, 0)) else (none)) else (none)) else (none)) else (none)) else (none)) else (none)) else (none)) else (none)) else (none)) else (some ((⟨#[]⟩ : ByteArray), (⟨#[]⟩ : ByteArray), 0, 0, 0, 0, 0, 0, 0, 0, 0, 5))) else (some ((⟨#[]⟩ : ByteArray), (⟨#[]⟩ : ByteArray), 0, 0, 0, 0, 0, 0, 0, 0, 0, 5)))))))
def order_Decode.T6 : Bool × List (List Nat × List Nat) := (true, [([], []), ([0], [0]), ([1], [1]), ([], []), ([3], [3]), ([4], [4]), ([], []), ([6], [6]), ([7], [7]), ([], []), ([9], [9]), ([10], [10]), ([0, 1, 2], []), ([12, 2, 0, 1, 2], [2, 12]), ([0, 1, 2, 3, 4, 5, 12, 13], []), ([14, 5, 13, 0, 1, 2, 3, 4, 5, 12, 13], [5, 14]), ([0, 1, 2, 3, 4, 5, 6, 7, 8, 12, 13, 14, 15], []), ([16, 8, 15, 0, 1, 2, 3, 4, 5, 6, 7, 8, 12, 13, 14, 15], [8, 16]), ([0, 1, 2, 3, 4, 5, 6, 7, 8, 9, 10, 11, 12, 13, 14, 15, 16, 17], []), ([18, 11, 17, 0, 1, 2, 3, 4, 5, 6, 7, 8, 9, 10, 11, 12, 13, 14, 15, 16, 17], [11, 18])])
def order_Decode.B6 : List Nat := [0, 1, 3, 0, 8, 24, 0, 64, 192, 0, 512, 1536, 7, 4103, 12351, 28735, 61951, 127487, 262143, 524287]
theorem order_Decode.tab6 : rtab .any (opsOf Tryd.f24 6) = order_Decode.T6 := by kernel_rfl
theorem order_Decode.bits6 : waitsOk order_Decode.T6.2 order_Decode.B6 = true := by kernel_rfl
def order_Decode.T7 : Bool × List (List Nat × List Nat) := (true, [([], []), ([0], [0]), ([1], [1]), ([], []), ([3], [3]), ([4], [4]), ([], []), ([6], [6]), ([7], [7]), ([], []), ([9], [9]), ([10], [10]), ([], []), ([12], [12]), ([13], [13]), ([0, 1, 2], []), ([15, 2, 0, 1, 2], [2, 15]), ([0, 1, 2, 3, 4, 5, 15, 16], []), ([17, 5, 16, 0, 1, 2, 3, 4, 5, 15, 16], [5, 17]), ([0, 1, 2, 3, 4, 5, 6, 7, 8, 15, 16, 17, 18], []), ([19, 8, 18, 0, 1, 2, 3, 4, 5, 6, 7, 8, 15, 16, 17, 18], [8, 19]), ([0, 1, 2, 3, 4, 5, 6, 7, 8, 9, 10, 11, 15, 16, 17, 18, 19, 20], []), ([21, 11, 20, 0, 1, 2, 3, 4, 5, 6, 7, 8, 9, 10, 11, 15, 16, 17, 18, 19, 20], [11, 21]), ([0, 1, 2, 3, 4, 5, 6, 7, 8, 9, 10, 11, 12, 13, 14, 15, 16, 17, 18, 19, 20, 21, 22], []), ([23, 14, 22, 0, 1, 2, 3, 4, 5, 6, 7, 8, 9, 10, 11, 12, 13, 14, 15, 16, 17, 18, 19, 20, 21, 22], [14, 23])])
def order_Decode.B7 : List Nat := [0, 1, 3, 0, 8, 24, 0, 64, 192, 0, 512, 1536, 0, 4096, 12288, 7, 32775, 98367, 229439, 492031, 1016319, 2068479, 4165631, 8388607, 16777215]
theorem order_Decode.tab7 : rtab .any (opsOf Tryd.f24 7) = order_Decode.T7 := by kernel_rfl
theorem order_Decode.bits7 : waitsOk order_Decode.T7.2 order_Decode.B7 = true := by kernel_rfl
set_option maxHeartbeats 8000000 in
set_option maxRecDepth 100000 in
theorem order_Decode.calls (k : Nat) (a0 : ByteArray) (r1 : ByteArray) (r2 : ByteArray) (r3 : Int) (r4 : Int) (r5 : Int) (r6 : Int) (r7 : Int) (r8 : Int) (r9 : Int) (r10 : Int) (r11 : Int) (r12 : Int) (w : World) (h : order_Decode.f k a0 = some (r1, r2, r3, r4, r5, r6, r7, r8, r9, r10, r11, r12)) :
  Calls Tryd.prog 24 #[.string a0] w fun e w' => e = .returned (.tuple #[.agg #[.string r1, .string r2, .int .i64 r3, .int .i64 r4, .int .i64 r5, .int .i64 r6, .int .i64 r7, .int .i64 r8, .int .i64 r9, .int .i64 r10, .int .i64 r11], .int .i64 r12]) ∧ Below w.heap.size w w' := by
 have hu23 := Tryd.underlying23
 have HB := q_ (Below.refl w.heap.size w)
 have H : ((wire_NewReader.f a0).bind fun bt245 => ((wire_Reader_Text.f k bt245.1 bt245.2.1 bt245.2.2 16).bind fun bt249 => ((wire_Reader_Text.f k bt249.2.1 bt249.2.2.1 bt249.2.2.2 16).bind fun bt253 => ((wire_Reader_Ints.f k bt253.2.1 bt253.2.2.1 bt253.2.2.2 9 (-1099511627776) 1099511627776).bind fun bt258 => ((wire_Reader_End.f bt258.2.1 bt258.2.2.1 bt258.2.2.2).bind fun bt264 => (if bt264.1 = 0 then (if (bt258.1.length : Int) = 9 then (if 0 < (bt258.1.length : Int) then (if 1 < (bt258.1.length : Int) then (if 2 < (bt258.1.length : Int) then (if 3 < (bt258.1.length : Int) then (if 4 < (bt258.1.length : Int) then (if 5 < (bt258.1.length : Int) then (if 6 < (bt258.1.length : Int) then (if 7 < (bt258.1.length : Int) then (if 8 < (bt258.1.length : Int) then (some (bt249.1, bt253.1, rd bt258.1 0, rd bt258.1 1, rd bt258.1 2, rd bt258.1 3, rd bt258.1 4, rd bt258.1 5, rd bt258.1 6, rd bt258.1 7, rd bt258.1 8, 0)) else (none)) else (none)) else (none)) else (none)) else (none)) else (none)) else (none)) else (none)) else (none)) else (some ((⟨#[]⟩ : ByteArray), (⟨#[]⟩ : ByteArray), 0, 0, 0, 0, 0, 0, 0, 0, 0, 5))) else (some ((⟨#[]⟩ : ByteArray), (⟨#[]⟩ : ByteArray), 0, 0, 0, 0, 0, 0, 0, 0, 0, 5)))))))) = some (r1, r2, r3, r4, r5, r6, r7, r8, r9, r10, r11, r12) := h
 clear h
 replace H := oB H
 obtain ⟨⟨t245, t246, t247⟩, A20, H⟩ := H
 replace H : ((wire_Reader_Text.f k t245 t246 t247 16).bind fun bt249 => ((wire_Reader_Text.f k bt249.2.1 bt249.2.2.1 bt249.2.2.2 16).bind fun bt253 => ((wire_Reader_Ints.f k bt253.2.1 bt253.2.2.1 bt253.2.2.2 9 (-1099511627776) 1099511627776).bind fun bt258 => ((wire_Reader_End.f bt258.2.1 bt258.2.2.1 bt258.2.2.2).bind fun bt264 => (if bt264.1 = 0 then (if (bt258.1.length : Int) = 9 then (if 0 < (bt258.1.length : Int) then (if 1 < (bt258.1.length : Int) then (if 2 < (bt258.1.length : Int) then (if 3 < (bt258.1.length : Int) then (if 4 < (bt258.1.length : Int) then (if 5 < (bt258.1.length : Int) then (if 6 < (bt258.1.length : Int) then (if 7 < (bt258.1.length : Int) then (if 8 < (bt258.1.length : Int) then (some (bt249.1, bt253.1, rd bt258.1 0, rd bt258.1 1, rd bt258.1 2, rd bt258.1 3, rd bt258.1 4, rd bt258.1 5, rd bt258.1 6, rd bt258.1 7, rd bt258.1 8, 0)) else (none)) else (none)) else (none)) else (none)) else (none)) else (none)) else (none)) else (none)) else (none)) else (some ((⟨#[]⟩ : ByteArray), (⟨#[]⟩ : ByteArray), 0, 0, 0, 0, 0, 0, 0, 0, 0, 5))) else (some ((⟨#[]⟩ : ByteArray), (⟨#[]⟩ : ByteArray), 0, 0, 0, 0, 0, 0, 0, 0, 0, 5))))))) = some (r1, r2, r3, r4, r5, r6, r7, r8, r9, r10, r11, r12) := H
 have A2 := Aside0.mk A20
 clear A20
 replace H := oB H
 obtain ⟨⟨t249, t250, t251, t252⟩, A30, H⟩ := H
 replace H : ((wire_Reader_Text.f k t250 t251 t252 16).bind fun bt253 => ((wire_Reader_Ints.f k bt253.2.1 bt253.2.2.1 bt253.2.2.2 9 (-1099511627776) 1099511627776).bind fun bt258 => ((wire_Reader_End.f bt258.2.1 bt258.2.2.1 bt258.2.2.2).bind fun bt264 => (if bt264.1 = 0 then (if (bt258.1.length : Int) = 9 then (if 0 < (bt258.1.length : Int) then (if 1 < (bt258.1.length : Int) then (if 2 < (bt258.1.length : Int) then (if 3 < (bt258.1.length : Int) then (if 4 < (bt258.1.length : Int) then (if 5 < (bt258.1.length : Int) then (if 6 < (bt258.1.length : Int) then (if 7 < (bt258.1.length : Int) then (if 8 < (bt258.1.length : Int) then (some (t249, bt253.1, rd bt258.1 0, rd bt258.1 1, rd bt258.1 2, rd bt258.1 3, rd bt258.1 4, rd bt258.1 5, rd bt258.1 6, rd bt258.1 7, rd bt258.1 8, 0)) else (none)) else (none)) else (none)) else (none)) else (none)) else (none)) else (none)) else (none)) else (none)) else (some ((⟨#[]⟩ : ByteArray), (⟨#[]⟩ : ByteArray), 0, 0, 0, 0, 0, 0, 0, 0, 0, 5))) else (some ((⟨#[]⟩ : ByteArray), (⟨#[]⟩ : ByteArray), 0, 0, 0, 0, 0, 0, 0, 0, 0, 5)))))) = some (r1, r2, r3, r4, r5, r6, r7, r8, r9, r10, r11, r12) := H
 have A3 := Aside0.mk A30
 clear A30
 replace H := oB H
 obtain ⟨⟨t253, t254, t255, t256⟩, A40, H⟩ := H
 replace H : ((wire_Reader_Ints.f k t254 t255 t256 9 (-1099511627776) 1099511627776).bind fun bt258 => ((wire_Reader_End.f bt258.2.1 bt258.2.2.1 bt258.2.2.2).bind fun bt264 => (if bt264.1 = 0 then (if (bt258.1.length : Int) = 9 then (if 0 < (bt258.1.length : Int) then (if 1 < (bt258.1.length : Int) then (if 2 < (bt258.1.length : Int) then (if 3 < (bt258.1.length : Int) then (if 4 < (bt258.1.length : Int) then (if 5 < (bt258.1.length : Int) then (if 6 < (bt258.1.length : Int) then (if 7 < (bt258.1.length : Int) then (if 8 < (bt258.1.length : Int) then (some (t249, t253, rd bt258.1 0, rd bt258.1 1, rd bt258.1 2, rd bt258.1 3, rd bt258.1 4, rd bt258.1 5, rd bt258.1 6, rd bt258.1 7, rd bt258.1 8, 0)) else (none)) else (none)) else (none)) else (none)) else (none)) else (none)) else (none)) else (none)) else (none)) else (some ((⟨#[]⟩ : ByteArray), (⟨#[]⟩ : ByteArray), 0, 0, 0, 0, 0, 0, 0, 0, 0, 5))) else (some ((⟨#[]⟩ : ByteArray), (⟨#[]⟩ : ByteArray), 0, 0, 0, 0, 0, 0, 0, 0, 0, 5))))) = some (r1, r2, r3, r4, r5, r6, r7, r8, r9, r10, r11, r12) := H
 have A4 := Aside0.mk A40
 clear A40
 replace H := oB H
 obtain ⟨⟨t258, t261, t262, t263⟩, A50, H⟩ := H
 replace H : ((wire_Reader_End.f t261 t262 t263).bind fun bt264 => (if bt264.1 = 0 then (if (t258.length : Int) = 9 then (if 0 < (t258.length : Int) then (if 1 < (t258.length : Int) then (if 2 < (t258.length : Int) then (if 3 < (t258.length : Int) then (if 4 < (t258.length : Int) then (if 5 < (t258.length : Int) then (if 6 < (t258.length : Int) then (if 7 < (t258.length : Int) then (if 8 < (t258.length : Int) then (some (t249, t253, rd t258 0, rd t258 1, rd t258 2, rd t258 3, rd t258 4, rd t258 5, rd t258 6, rd t258 7, rd t258 8, 0)) else (none)) else (none)) else (none)) else (none)) else (none)) else (none)) else (none)) else (none)) else (none)) else (some ((⟨#[]⟩ : ByteArray), (⟨#[]⟩ : ByteArray), 0, 0, 0, 0, 0, 0, 0, 0, 0, 5))) else (some ((⟨#[]⟩ : ByteArray), (⟨#[]⟩ : ByteArray), 0, 0, 0, 0, 0, 0, 0, 0, 0, 5)))) = some (r1, r2, r3, r4, r5, r6, r7, r8, r9, r10, r11, r12) := H
 have A5 := Aside0.mk A50
 clear A50
 replace H := oB H
 obtain ⟨⟨t264, t265, t266, t267⟩, A60, H⟩ := H
 replace H : (if t264 = 0 then (if (t258.length : Int) = 9 then (if 0 < (t258.length : Int) then (if 1 < (t258.length : Int) then (if 2 < (t258.length : Int) then (if 3 < (t258.length : Int) then (if 4 < (t258.length : Int) then (if 5 < (t258.length : Int) then (if 6 < (t258.length : Int) then (if 7 < (t258.length : Int) then (if 8 < (t258.length : Int) then (some (t249, t253, rd t258 0, rd t258 1, rd t258 2, rd t258 3, rd t258 4, rd t258 5, rd t258 6, rd t258 7, rd t258 8, 0)) else (none)) else (none)) else (none)) else (none)) else (none)) else (none)) else (none)) else (none)) else (none)) else (some ((⟨#[]⟩ : ByteArray), (⟨#[]⟩ : ByteArray), 0, 0, 0, 0, 0, 0, 0, 0, 0, 5))) else (some ((⟨#[]⟩ : ByteArray), (⟨#[]⟩ : ByteArray), 0, 0, 0, 0, 0, 0, 0, 0, 0, 5))) = some (r1, r2, r3, r4, r5, r6, r7, r8, r9, r10, r11, r12) := H
 have A6 := Aside0.mk A60
 clear A60
 by_cases c7 : t264 = 0
 ·rw [if_pos c7] at H
  have c7b0 : (t264 == 0) = true := beq_iff_eq.mpr c7
  have c7b1 : (t264 != 0) = false := oD c7
  clear c7
  by_cases c8 : (t258.length : Int) = 9
  ·rw [if_pos c8] at H
   have c8b0 : ((t258.length : Int) == 9) = true := beq_iff_eq.mpr c8
   have c8b1 : ((t258.length : Int) != 9) = false := oD c8
   clear c8
   by_cases c9 : 0 < (t258.length : Int)
   ·rw [if_pos c9] at H
    have c9b0 : decide (0 < (t258.length : Int)) = true := decide_eq_true c9
    have c9b1 : decide (0 < t258.length) = true := decide_eq_true (by omega)
    clear c9
    by_cases c10 : 1 < (t258.length : Int)
    ·rw [if_pos c10] at H
     have c10b0 : decide (1 < (t258.length : Int)) = true := decide_eq_true c10
     have c10b1 : decide (1 < t258.length) = true := decide_eq_true (by omega)
     clear c10
     by_cases c11 : 2 < (t258.length : Int)
     ·rw [if_pos c11] at H
      have c11b0 : decide (2 < (t258.length : Int)) = true := decide_eq_true c11
      have c11b1 : decide (2 < t258.length) = true := decide_eq_true (by omega)
      clear c11
      by_cases c12 : 3 < (t258.length : Int)
      ·rw [if_pos c12] at H
       have c12b0 : decide (3 < (t258.length : Int)) = true := decide_eq_true c12
       have c12b1 : decide (3 < t258.length) = true := decide_eq_true (by omega)
       clear c12
       by_cases c13 : 4 < (t258.length : Int)
       ·rw [if_pos c13] at H
        have c13b0 : decide (4 < (t258.length : Int)) = true := decide_eq_true c13
        have c13b1 : decide (4 < t258.length) = true := decide_eq_true (by omega)
        clear c13
        by_cases c14 : 5 < (t258.length : Int)
        ·rw [if_pos c14] at H
         have c14b0 : decide (5 < (t258.length : Int)) = true := decide_eq_true c14
         have c14b1 : decide (5 < t258.length) = true := decide_eq_true (by omega)
         clear c14
         by_cases c15 : 6 < (t258.length : Int)
         ·rw [if_pos c15] at H
          have c15b0 : decide (6 < (t258.length : Int)) = true := decide_eq_true c15
          have c15b1 : decide (6 < t258.length) = true := decide_eq_true (by omega)
          clear c15
          by_cases c16 : 7 < (t258.length : Int)
          ·rw [if_pos c16] at H
           have c16b0 : decide (7 < (t258.length : Int)) = true := decide_eq_true c16
           have c16b1 : decide (7 < t258.length) = true := decide_eq_true (by omega)
           clear c16
           by_cases c17 : 8 < (t258.length : Int)
           ·rw [if_pos c17] at H
            have c17b0 : decide (8 < (t258.length : Int)) = true := decide_eq_true c17
            have c17b1 : decide (8 < t258.length) = true := decide_eq_true (by omega)
            clear c17
            simp only [Option.some.injEq, Prod.mk.injEq] at H
            obtain ⟨rfl, rfl, rfl, rfl, rfl, rfl, rfl, rfl, rfl, rfl, rfl, rfl⟩ := H
            go_enter Tryd.func24, Tryd.ntmps24
            try go_wp2_with (first | (refine wpList_load_cells (by rfl) 23 _ (by exact rfl) ⟨gb244, 0, none⟩ (by rfl) _ _ (cells_of_blk (by (with_reducible repeat (first | refine bN ?_ _ | refine bW ?_ | refine bA ?_ _)); exact BK244.out)) Tryd.underlying23 rfl (by kernel_rfl) ?_) | (refine wpList_load_cells (by rfl) 23 _ (by exact rfl) ⟨gb257, 0, none⟩ (by rfl) _ _ (cells_of_blk (by (with_reducible repeat (first | refine bN ?_ _ | refine bW ?_ | refine bA ?_ _)); exact BK257.out)) Tryd.underlying23 rfl (by kernel_rfl) ?_) | ((with_reducible refine gate_dst (N := 2) rfl ?_); (try (refine gate_guard (by rfl) ?_; dsimp only)); refine box_event ?hg (N := 2) ?hd (cs := #[.string (⟨#[]⟩ : ByteArray), .string (⟨#[]⟩ : ByteArray), .int .i64 0, .int .i64 0, .int .i64 0, .int .i64 0, .int .i64 0, .int .i64 0, .int .i64 0, .int .i64 0, .int .i64 0]) (t := 23) ?hr ?_; (case hd => rfl); (case hg => rfl); (case hr => first | (go_simp; done) | (go_simp; rfl)); intro gb244 hg w18 hbox hb; have n0_ := q_ (pT (by repeat (first | (with_reducible first | exact HB.out | apply pA | apply pN | apply p1) | exact HB.out)) hb); have n1_ := q_ (hbox); have n2_ := q_ ((by rw [hg]; exact (pZ (by repeat (first | (with_reducible first | exact HB.out | apply pA | apply pN | apply p1) | exact HB.out))) : w.heap.size ≤ gb244)); have n3_ := n2_; clear HB; have HB := n0_; have BK244 := n1_; have GW244 := n2_; have GE244 := n3_; clear n0_ n1_ n2_ n3_; clear hb hbox hg) | ((with_reducible refine gate_callee (f := 51) rfl ?_); refine goesL_ (some 8) rfl rfl Tryd.func51 (by kernel_rfl) rfl #[.string a0] rfl (by first | rfl | (simp only [List.map_toArray]; rfl)) ?_; (with_reducible refine (wire_NewReader.calls a0 t245 t246 t247 w _ ?side1 A2.out).mono ?_); (case side1 => repeat (first | (with_reducible first | exact HB.out | apply pA | apply pN | apply p1 | refine pS ?_ GE244.out) | exact HB.out)); rintro e w19 ⟨g248, rfl, hi, hb, hb2⟩; refine ⟨_, rfl, ?_⟩; have n0_ := q_ (bB (g := gb244) (by (with_reducible repeat (first | refine bN ?_ _ | refine bW ?_ | refine bA ?_ _)); exact BK244.out) hb2); have n1_ := q_ (hb); have n2_ := q_ (hi); have n3_ := q_ (IsS104.ne_blk hi (bB (g := gb244) (by (with_reducible repeat (first | refine bN ?_ _ | refine bW ?_ | refine bA ?_ _)); exact BK244.out) hb2) (by decide)); have n4_ := q_ (Ne.symm (IsS104.ne_blk hi (bB (g := gb244) (by (with_reducible repeat (first | refine bN ?_ _ | refine bW ?_ | refine bA ?_ _)); exact BK244.out) hb2) (by decide))); clear BK244; clear HB; have BK244 := n0_; have HB := n1_; have HI248 := n2_; have NB248_244 := n3_; have NB244_248 := n4_; clear n0_ n1_ n2_ n3_ n4_; (try clear hb); (try clear hb2); (try clear hk); (try clear hi)) | ((with_reducible refine gate_callee (f := 52) rfl ?_); refine goesL_ (some 10) rfl rfl Tryd.func52 (by kernel_rfl) rfl #[.pointer (some ⟨g248, 0, none⟩), .int .i64 16] rfl (by first | rfl | (simp only [List.map_toArray]; rfl)) ?_; (with_reducible refine (wire_Reader_Text.calls k g248 t245 t246 t247 16 t249 t250 t251 t252 w _ ?side1 ?side2 A3.out).mono ?_); (case side1 => repeat (first | (with_reducible first | exact HI248.out | apply IsS104.alloc | apply IsS104.drewN | apply IsS104.drew | apply IsS104.set_0 | apply IsS104.set_1 | apply IsS104.set_2 | refine IsS104.far ?_ NB248_244.out _) | exact HI248.out)); (case side2 => repeat (first | (with_reducible first | exact HB.out | apply pA | apply pN | apply p1 | refine pS ?_ (IsS104.ge HI248.out) | refine pS ?_ GE244.out) | exact HB.out)); rintro e w20 ⟨rfl, hi, hb, hk⟩; refine ⟨_, rfl, ?_⟩; have n0_ := q_ (KeepBut.blk hk (g' := gb244) (by (with_reducible repeat (first | refine bN ?_ _ | refine bW ?_ | refine bA ?_ _)); exact BK244.out) NB244_248.out (by simp)); have n1_ := q_ (hb); have n2_ := q_ (hi); clear BK244; clear HB; clear HI248; have BK244 := n0_; have HB := n1_; have HI248 := n2_; clear n0_ n1_ n2_; (try clear hb); (try clear hb2); (try clear hk); (try clear hi)) | ((with_reducible refine gate_callee (f := 52) rfl ?_); refine goesL_ (some 12) rfl rfl Tryd.func52 (by kernel_rfl) rfl #[.pointer (some ⟨g248, 0, none⟩), .int .i64 16] rfl (by first | rfl | (simp only [List.map_toArray]; rfl)) ?_; (with_reducible refine (wire_Reader_Text.calls k g248 t250 t251 t252 16 t253 t254 t255 t256 w _ ?side1 ?side2 A4.out).mono ?_); (case side1 => repeat (first | (with_reducible first | exact HI248.out | apply IsS104.alloc | apply IsS104.drewN | apply IsS104.drew | apply IsS104.set_0 | apply IsS104.set_1 | apply IsS104.set_2 | refine IsS104.far ?_ NB248_244.out _) | exact HI248.out)); (case side2 => repeat (first | (with_reducible first | exact HB.out | apply pA | apply pN | apply p1 | refine pS ?_ (IsS104.ge HI248.out) | refine pS ?_ GE244.out) | exact HB.out)); rintro e w21 ⟨rfl, hi, hb, hk⟩; refine ⟨_, rfl, ?_⟩; have n0_ := q_ (KeepBut.blk hk (g' := gb244) (by (with_reducible repeat (first | refine bN ?_ _ | refine bW ?_ | refine bA ?_ _)); exact BK244.out) NB244_248.out (by simp)); have n1_ := q_ (hb); have n2_ := q_ (hi); clear BK244; clear HB; clear HI248; have BK244 := n0_; have HB := n1_; have HI248 := n2_; clear n0_ n1_ n2_; (try clear hb); (try clear hb2); (try clear hk); (try clear hi)) | ((with_reducible refine gate_dst (N := 5) rfl ?_); (try (refine gate_guard (by rfl) ?_; dsimp only)); refine box_event ?hg (N := 5) ?hd (cs := #[.string (⟨#[]⟩ : ByteArray), .string (⟨#[]⟩ : ByteArray), .int .i64 0, .int .i64 0, .int .i64 0, .int .i64 0, .int .i64 0, .int .i64 0, .int .i64 0, .int .i64 0, .int .i64 0]) (t := 23) ?hr ?_; (case hd => rfl); (case hg => rfl); (case hr => first | (go_simp; done) | (go_simp; rfl)); intro gb257 hg w22 hbox hb; have n0_ := q_ (bB (g := gb244) (by (with_reducible repeat (first | refine bN ?_ _ | refine bW ?_ | refine bA ?_ _)); exact BK244.out) hb); have n1_ := q_ (IsS104.below (by repeat (first | (with_reducible first | exact HI248.out | apply IsS104.alloc | apply IsS104.drewN | apply IsS104.drew | apply IsS104.set_0 | apply IsS104.set_1 | apply IsS104.set_2 | refine IsS104.far ?_ NB248_244.out _) | exact HI248.out)) hb); have n2_ := q_ (pT (by repeat (first | (with_reducible first | exact HB.out | apply pA | apply pN | apply p1 | refine pS ?_ (IsS104.ge HI248.out) | refine pS ?_ GE244.out) | exact HB.out)) hb); have n3_ := q_ (hbox); have n4_ := q_ ((by rw [hg]; exact (pZ (by repeat (first | (with_reducible first | exact HB.out | apply pA | apply pN | apply p1 | refine pS ?_ (IsS104.ge HI248.out) | refine pS ?_ GE244.out) | exact HB.out))) : w.heap.size ≤ gb257)); have n5_ := n4_; have n6_ := q_ ((by rw [hg]; exact Nat.ne_of_lt (blk_lt (g := gb244) (by (with_reducible repeat (first | refine bN ?_ _ | refine bW ?_ | refine bA ?_ _)); exact BK244.out)) : gb244 ≠ gb257)); have n7_ := q_ ((by rw [hg]; exact Nat.ne_of_gt (blk_lt (g := gb244) (by (with_reducible repeat (first | refine bN ?_ _ | refine bW ?_ | refine bA ?_ _)); exact BK244.out)) : gb257 ≠ gb244)); have n8_ := q_ ((by rw [hg]; exact Nat.ne_of_lt (IsS104.lt (show IsS104 w _ g248 t254 t255 t256 from by repeat (first | (with_reducible first | exact HI248.out | apply IsS104.alloc | apply IsS104.drewN | apply IsS104.drew | apply IsS104.set_0 | apply IsS104.set_1 | apply IsS104.set_2 | refine IsS104.far ?_ NB248_244.out _) | exact HI248.out))) : g248 ≠ gb257)); have n9_ := q_ ((by rw [hg]; exact Nat.ne_of_gt (IsS104.lt (show IsS104 w _ g248 t254 t255 t256 from by repeat (first | (with_reducible first | exact HI248.out | apply IsS104.alloc | apply IsS104.drewN | apply IsS104.drew | apply IsS104.set_0 | apply IsS104.set_1 | apply IsS104.set_2 | refine IsS104.far ?_ NB248_244.out _) | exact HI248.out))) : gb257 ≠ g248)); clear BK244; clear HI248; clear HB; have BK244 := n0_; have HI248 := n1_; have HB := n2_; have BK257 := n3_; have GW257 := n4_; have GE257 := n5_; have NB244_257 := n6_; have NB257_244 := n7_; have NB248_257 := n8_; have NB257_248 := n9_; clear n0_ n1_ n2_ n3_ n4_ n5_ n6_ n7_ n8_ n9_; clear hb hbox hg; have hnb23 := NB257_244.out; have hnc23 := NB244_257.out; have hnb24 := NB257_248.out; have hnc24 := NB248_257.out; have hcz25 := blk_all BK257.out; simp only [CellsAt, List.toList_toArray, Nat.reduceAdd, and_true] at hcz25; have hfz25 := bF BK257.out) | ((with_reducible refine gate_callee (f := 53) rfl ?_); refine goesL_ (some 15) rfl rfl Tryd.func53 (by kernel_rfl) rfl #[.pointer (some ⟨g248, 0, none⟩), .int .i64 9, .int .i64 (-1099511627776), .int .i64 1099511627776] rfl (by first | rfl | (simp only [List.map_toArray]; rfl)) ?_; (with_reducible refine (wire_Reader_Ints.calls k g248 t254 t255 t256 9 (-1099511627776) 1099511627776 t258 t261 t262 t263 w _ ?side1 ?side2 A5.out).mono ?_); (case side1 => repeat (first | (with_reducible first | exact HI248.out | apply IsS104.alloc | apply IsS104.drewN | apply IsS104.drew | apply IsS104.set_0 | apply IsS104.set_1 | apply IsS104.set_2 | refine IsS104.far ?_ NB248_244.out _ | refine IsS104.far ?_ NB248_257.out _) | exact HI248.out)); (case side2 => repeat (first | (with_reducible first | exact HB.out | apply pA | apply pN | apply p1 | refine pS ?_ (IsS104.ge HI248.out) | refine pS ?_ GE244.out | refine pS ?_ GE257.out) | exact HB.out)); rintro e w26 ⟨v259, rfl, ho0, hi, hb, hk⟩; refine ⟨_, rfl, ?_⟩; have n0_ := q_ (KeepBut.blk hk (g' := gb244) (o := .cells #[.string (⟨#[]⟩ : ByteArray), .string (⟨#[]⟩ : ByteArray), .int .i64 0, .int .i64 0, .int .i64 0, .int .i64 0, .int .i64 0, .int .i64 0, .int .i64 0, .int .i64 0, .int .i64 0] 23 (0, 0)) (by (with_reducible repeat (first | refine bN ?_ _ | refine bW ?_ | refine bA ?_ _)); refine blk_far ?_ NB244_257.out _; (with_reducible repeat (first | refine bN ?_ _ | refine bW ?_ | refine bA ?_ _)); refine blk_far ?_ NB244_257.out _; (with_reducible repeat (first | refine bN ?_ _ | refine bW ?_ | refine bA ?_ _)); refine blk_far ?_ NB244_257.out _; (with_reducible repeat (first | refine bN ?_ _ | refine bW ?_ | refine bA ?_ _)); refine blk_far ?_ NB244_257.out _; (with_reducible repeat (first | refine bN ?_ _ | refine bW ?_ | refine bA ?_ _)); refine blk_far ?_ NB244_257.out _; (with_reducible repeat (first | refine bN ?_ _ | refine bW ?_ | refine bA ?_ _)); refine blk_far ?_ NB244_257.out _; (with_reducible repeat (first | refine bN ?_ _ | refine bW ?_ | refine bA ?_ _)); refine blk_far ?_ NB244_257.out _; (with_reducible repeat (first | refine bN ?_ _ | refine bW ?_ | refine bA ?_ _)); refine blk_far ?_ NB244_257.out _; (with_reducible repeat (first | refine bN ?_ _ | refine bW ?_ | refine bA ?_ _)); refine blk_far ?_ NB244_257.out _; (with_reducible repeat (first | refine bN ?_ _ | refine bW ?_ | refine bA ?_ _)); refine blk_far ?_ NB244_257.out _; (with_reducible repeat (first | refine bN ?_ _ | refine bW ?_ | refine bA ?_ _)); refine blk_far ?_ NB244_257.out _; (with_reducible repeat (first | refine bN ?_ _ | refine bW ?_ | refine bA ?_ _)); exact BK244.out) NB244_248.out (by simp)); have n1_ := q_ (KeepBut.blk hk (g' := gb257) (o := .cells #[.string t249, .string t253, .int .i64 0, .int .i64 0, .int .i64 0, .int .i64 0, .int .i64 0, .int .i64 0, .int .i64 0, .int .i64 0, .int .i64 0] 23 (0, 0)) (by (with_reducible repeat (first | refine bN ?_ _ | refine bW ?_ | refine bA ?_ _)); refine blk_put (cs := #[.string t249, .string t253, .int .i64 0, .int .i64 0, .int .i64 0, .int .i64 0, .int .i64 0, .int .i64 0, .int .i64 0, .int .i64 0, .int .i64 0]) ?_ 10 _ rfl; (with_reducible repeat (first | refine bN ?_ _ | refine bW ?_ | refine bA ?_ _)); refine blk_put (cs := #[.string t249, .string t253, .int .i64 0, .int .i64 0, .int .i64 0, .int .i64 0, .int .i64 0, .int .i64 0, .int .i64 0, .int .i64 0, .int .i64 0]) ?_ 9 _ rfl; (with_reducible repeat (first | refine bN ?_ _ | refine bW ?_ | refine bA ?_ _)); refine blk_put (cs := #[.string t249, .string t253, .int .i64 0, .int .i64 0, .int .i64 0, .int .i64 0, .int .i64 0, .int .i64 0, .int .i64 0, .int .i64 0, .int .i64 0]) ?_ 8 _ rfl; (with_reducible repeat (first | refine bN ?_ _ | refine bW ?_ | refine bA ?_ _)); refine blk_put (cs := #[.string t249, .string t253, .int .i64 0, .int .i64 0, .int .i64 0, .int .i64 0, .int .i64 0, .int .i64 0, .int .i64 0, .int .i64 0, .int .i64 0]) ?_ 7 _ rfl; (with_reducible repeat (first | refine bN ?_ _ | refine bW ?_ | refine bA ?_ _)); refine blk_put (cs := #[.string t249, .string t253, .int .i64 0, .int .i64 0, .int .i64 0, .int .i64 0, .int .i64 0, .int .i64 0, .int .i64 0, .int .i64 0, .int .i64 0]) ?_ 6 _ rfl; (with_reducible repeat (first | refine bN ?_ _ | refine bW ?_ | refine bA ?_ _)); refine blk_put (cs := #[.string t249, .string t253, .int .i64 0, .int .i64 0, .int .i64 0, .int .i64 0, .int .i64 0, .int .i64 0, .int .i64 0, .int .i64 0, .int .i64 0]) ?_ 5 _ rfl; (with_reducible repeat (first | refine bN ?_ _ | refine bW ?_ | refine bA ?_ _)); refine blk_put (cs := #[.string t249, .string t253, .int .i64 0, .int .i64 0, .int .i64 0, .int .i64 0, .int .i64 0, .int .i64 0, .int .i64 0, .int .i64 0, .int .i64 0]) ?_ 4 _ rfl; (with_reducible repeat (first | refine bN ?_ _ | refine bW ?_ | refine bA ?_ _)); refine blk_put (cs := #[.string t249, .string t253, .int .i64 0, .int .i64 0, .int .i64 0, .int .i64 0, .int .i64 0, .int .i64 0, .int .i64 0, .int .i64 0, .int .i64 0]) ?_ 3 _ rfl; (with_reducible repeat (first | refine bN ?_ _ | refine bW ?_ | refine bA ?_ _)); refine blk_put (cs := #[.string t249, .string t253, .int .i64 0, .int .i64 0, .int .i64 0, .int .i64 0, .int .i64 0, .int .i64 0, .int .i64 0, .int .i64 0, .int .i64 0]) ?_ 2 _ rfl; (with_reducible repeat (first | refine bN ?_ _ | refine bW ?_ | refine bA ?_ _)); refine blk_put (cs := #[.string t249, .string (⟨#[]⟩ : ByteArray), .int .i64 0, .int .i64 0, .int .i64 0, .int .i64 0, .int .i64 0, .int .i64 0, .int .i64 0, .int .i64 0, .int .i64 0]) ?_ 1 _ rfl; (with_reducible repeat (first | refine bN ?_ _ | refine bW ?_ | refine bA ?_ _)); refine blk_put (cs := #[.string (⟨#[]⟩ : ByteArray), .string (⟨#[]⟩ : ByteArray), .int .i64 0, .int .i64 0, .int .i64 0, .int .i64 0, .int .i64 0, .int .i64 0, .int .i64 0, .int .i64 0, .int .i64 0]) ?_ 0 _ rfl; (with_reducible repeat (first | refine bN ?_ _ | refine bW ?_ | refine bA ?_ _)); exact BK257.out) NB257_248.out (by simp)); have n2_ := q_ (Kd.R_lower ho0 (pZ (by repeat (first | (with_reducible first | exact HB.out | apply pA | apply pN | apply p1 | refine pS ?_ (IsS104.ge HI248.out) | refine pS ?_ GE244.out | refine pS ?_ GE257.out) | exact HB.out)))); have n3_ := q_ (hb); have n4_ := q_ (hi); clear BK244; clear BK257; clear HB; clear HI248; have BK244 := n0_; have BK257 := n1_; have HO260 := n2_; have HB := n3_; have HI248 := n4_; clear n0_ n1_ n2_ n3_ n4_; (try clear hb); (try clear hb2); (try clear hk); (try clear hi); (try clear ho0)) | ((with_reducible refine gate_callee (f := 54) rfl ?_); refine goesL_ (some 17) rfl rfl Tryd.func54 (by kernel_rfl) rfl #[.pointer (some ⟨g248, 0, none⟩)] rfl (by first | rfl | (simp only [List.map_toArray]; rfl)) ?_; (with_reducible refine (wire_Reader_End.calls g248 t261 t262 t263 t264 t265 t266 t267 w _ ?side1 ?side2 A6.out).mono ?_); (case side1 => repeat (first | (with_reducible first | exact HI248.out | apply IsS104.alloc | apply IsS104.drewN | apply IsS104.drew | apply IsS104.set_0 | apply IsS104.set_1 | apply IsS104.set_2 | refine IsS104.far ?_ NB248_244.out _ | refine IsS104.far ?_ NB248_257.out _) | exact HI248.out)); (case side2 => repeat (first | (with_reducible first | exact HB.out | apply pA | apply pN | apply p1 | refine pS ?_ (IsS104.ge HI248.out) | refine pS ?_ GE244.out | refine pS ?_ GE257.out) | exact HB.out)); rintro e w27 ⟨rfl, hi, hb, hk⟩; refine ⟨_, rfl, ?_⟩; have n0_ := q_ (KeepBut.blk hk (g' := gb244) (by (with_reducible repeat (first | refine bN ?_ _ | refine bW ?_ | refine bA ?_ _)); exact BK244.out) NB244_248.out (by simp)); have n1_ := q_ (KeepBut.blk hk (g' := gb257) (by (with_reducible repeat (first | refine bN ?_ _ | refine bW ?_ | refine bA ?_ _)); exact BK257.out) NB257_248.out (by simp)); have n2_ := q_ (Kd.R_mono (Kd.R_keep (IsS104.apart (show IsS104 w _ g248 t261 t262 t263 from by repeat (first | (with_reducible first | exact HI248.out | apply IsS104.alloc | apply IsS104.drewN | apply IsS104.drew | apply IsS104.set_0 | apply IsS104.set_1 | apply IsS104.set_2 | refine IsS104.far ?_ NB248_244.out _ | refine IsS104.far ?_ NB248_257.out _) | exact HI248.out)) (by (with_reducible repeat (first | apply Kd.R_alloc | apply Kd.R_drewN | apply Kd.R_drew)); exact HO260.out) (by decide)) hk (fun _ h => h.2)) (fun _ h => h.1)); have n3_ := q_ (hb); have n4_ := q_ (hi); clear BK244; clear BK257; clear HO260; clear HB; clear HI248; have BK244 := n0_; have BK257 := n1_; have HO260 := n2_; have HB := n3_; have HI248 := n4_; clear n0_ n1_ n2_ n3_ n4_; (try clear hb); (try clear hb2); (try clear hk); (try clear hi); obtain ⟨Ao28, co28, eo28⟩ := Kd.R_slice HO260.out; subst eo28))
            have n0_ := q_ (Kd.R_drew HO260.out)
            have n1_ := q_ (bW BK244.out)
            have n2_ := q_ (bW BK257.out)
            have n3_ := q_ (IsS104.drew HI248.out)
            have n4_ := q_ (p1 HB.out)
            clear HO260
            clear BK244
            clear BK257
            clear HI248
            clear HB
            have HO260 := n0_
            have BK244 := n1_
            have BK257 := n2_
            have HI248 := n3_
            have HB := n4_
            clear n0_ n1_ n2_ n3_ n4_
            have p268 : 0 ≤ (0 : Int) := (by omega)
            have q268 : 0 < (t258.length : Int) := of_decide_eq_true (by first | (with_reducible assumption) | assumption)
            obtain ⟨ad268, e268, hx268_0⟩ := Kd.at_int (Kd.R_reads' HO260.out).2.2 0 p268 q268
            cases e268
            have qi268 : (0 < t258.length) = True := eq_true (by omega)
            (try rw [show ((0 : Int)).toNat = 0 from rfl] at hx268_0)
            (try rw [Addr.add_zero'] at hx268_0)
            replace p268 := eq_true p268
            replace q268 := eq_true q268
            have p269 : 0 ≤ (1 : Int) := (by omega)
            have q269 : 1 < (t258.length : Int) := of_decide_eq_true (by first | (with_reducible assumption) | assumption)
            obtain ⟨ad269, e269, hx269_0⟩ := Kd.at_int (Kd.R_reads' HO260.out).2.2 1 p269 q269
            obtain rfl : ad268 = ad269 := (by injection e269)
            (try simp only [show (1 : Int).toNat = 1 from rfl, Nat.reduceMul, Nat.reduceEqDiff, Go.Addr.add, ↓reduceIte] at hx269_0)
            have qi269 : (1 < t258.length) = True := eq_true (by omega)
            (try rw [show ((1 : Int)).toNat = 1 from rfl] at hx269_0)
            replace p269 := eq_true p269
            replace q269 := eq_true q269
            have p270 : 0 ≤ (2 : Int) := (by omega)
            have q270 : 2 < (t258.length : Int) := of_decide_eq_true (by first | (with_reducible assumption) | assumption)
            obtain ⟨ad270, e270, hx270_0⟩ := Kd.at_int (Kd.R_reads' HO260.out).2.2 2 p270 q270
            obtain rfl : ad268 = ad270 := (by injection e270)
            (try simp only [show (2 : Int).toNat = 2 from rfl, Nat.reduceMul, Nat.reduceEqDiff, Go.Addr.add, ↓reduceIte] at hx270_0)
            have qi270 : (2 < t258.length) = True := eq_true (by omega)
            (try rw [show ((2 : Int)).toNat = 2 from rfl] at hx270_0)
            replace p270 := eq_true p270
            replace q270 := eq_true q270
            have p271 : 0 ≤ (3 : Int) := (by omega)
            have q271 : 3 < (t258.length : Int) := of_decide_eq_true (by first | (with_reducible assumption) | assumption)
            obtain ⟨ad271, e271, hx271_0⟩ := Kd.at_int (Kd.R_reads' HO260.out).2.2 3 p271 q271
            obtain rfl : ad268 = ad271 := (by injection e271)
            (try simp only [show (3 : Int).toNat = 3 from rfl, Nat.reduceMul, Nat.reduceEqDiff, Go.Addr.add, ↓reduceIte] at hx271_0)
            have qi271 : (3 < t258.length) = True := eq_true (by omega)
            (try rw [show ((3 : Int)).toNat = 3 from rfl] at hx271_0)
            replace p271 := eq_true p271
            replace q271 := eq_true q271
            refine start_ (n := 20) (S := fun w' => w'.cell? ad268 = some (.int .i64 (rd t258 0)) ∧ w'.cell? ⟨ad268.block, ad268.off + 1, none⟩ = some (.int .i64 (rd t258 1)) ∧ w'.cell? ⟨ad268.block, ad268.off + 2, none⟩ = some (.int .i64 (rd t258 2)) ∧ w'.cell? ⟨ad268.block, ad268.off + 3, none⟩ = some (.int .i64 (rd t258 3))) (ds := []) #[false, false, false, false, false, false, false, false, false, false, false, false, false, false, false, false, false, false, false, false] (by kernel_rfl) rfl rfl ⟨hx268_0, hx269_0, hx270_0, hx271_0⟩ (fun hHeld => ?_); refine with_tabW order_Decode.tab6 order_Decode.bits6 (fun HT_ HW_ => ?_)
            generalize w27.drew = w29 at HO260 BK244 BK257 HI248 HB hx268_0 hx269_0 hx270_0 hx271_0 hHeld ⊢
            refine pure_ (i := 0) (N := some 25) (v := ?_) (a' := ?_) #[true, false, false, false, false, false, false, false, false, false, false, false, false, false, false, false, false, false, false, false] rfl rfl (any_of HT_.out (by kernel_rfl)) (fun _ _ _ h => h) (Or.inl ⟨by rfl, ?_⟩) ?_ ?_
            rotate_left
            ·intro w'
             go_simp
             with_reducible rfl
            rotate_left
            ·simp only [Act.put, List.setIfInBounds_toArray, List.set_cons_zero, List.set_cons_succ, i64_w, i32_w]
             rfl
            refine pure_ (i := 1) (N := some 26) (v := ?_) (a' := ?_) #[true, true, false, false, false, false, false, false, false, false, false, false, false, false, false, false, false, false, false, false] rfl rfl (any_of HT_.out (by kernel_rfl)) (fun _ _ _ h => h) (Or.inl ⟨by rfl, ?_⟩) ?_ ?_
            rotate_left
            ·intro w'
             go_simp
             with_reducible rfl
            rotate_left
            ·simp only [Act.put, List.setIfInBounds_toArray, List.set_cons_zero, List.set_cons_succ, i64_w, i32_w]
             rfl
            refine pure_ (i := 3) (N := some 28) (v := ?_) (a' := ?_) #[true, true, false, true, false, false, false, false, false, false, false, false, false, false, false, false, false, false, false, false] rfl rfl (any_of HT_.out (by kernel_rfl)) (fun _ _ _ h => h) (Or.inl ⟨by rfl, ?_⟩) ?_ ?_
            rotate_left
            ·intro w'
             go_simp
             with_reducible rfl
            rotate_left
            ·simp only [Act.put, List.setIfInBounds_toArray, List.set_cons_zero, List.set_cons_succ, i64_w, i32_w]
             rfl
            refine pure_ (i := 4) (N := some 29) (v := ?_) (a' := ?_) #[true, true, false, true, true, false, false, false, false, false, false, false, false, false, false, false, false, false, false, false] rfl rfl (any_of HT_.out (by kernel_rfl)) (fun _ _ _ h => h) (Or.inl ⟨by rfl, ?_⟩) ?_ ?_
            rotate_left
            ·intro w'
             go_simp
             with_reducible rfl
            rotate_left
            ·simp only [Act.put, List.setIfInBounds_toArray, List.set_cons_zero, List.set_cons_succ, i64_w, i32_w]
             rfl
            refine pure_ (i := 6) (N := some 31) (v := ?_) (a' := ?_) #[true, true, false, true, true, false, true, false, false, false, false, false, false, false, false, false, false, false, false, false] rfl rfl (any_of HT_.out (by kernel_rfl)) (fun _ _ _ h => h) (Or.inl ⟨by rfl, ?_⟩) ?_ ?_
            rotate_left
            ·intro w'
             go_simp
             with_reducible rfl
            rotate_left
            ·simp only [Act.put, List.setIfInBounds_toArray, List.set_cons_zero, List.set_cons_succ, i64_w, i32_w]
             rfl
            refine pure_ (i := 7) (N := some 32) (v := ?_) (a' := ?_) #[true, true, false, true, true, false, true, true, false, false, false, false, false, false, false, false, false, false, false, false] rfl rfl (any_of HT_.out (by kernel_rfl)) (fun _ _ _ h => h) (Or.inl ⟨by rfl, ?_⟩) ?_ ?_
            rotate_left
            ·intro w'
             go_simp
             with_reducible rfl
            rotate_left
            ·simp only [Act.put, List.setIfInBounds_toArray, List.set_cons_zero, List.set_cons_succ, i64_w, i32_w]
             rfl
            refine pure_ (i := 9) (N := some 34) (v := ?_) (a' := ?_) #[true, true, false, true, true, false, true, true, false, true, false, false, false, false, false, false, false, false, false, false] rfl rfl (any_of HT_.out (by kernel_rfl)) (fun _ _ _ h => h) (Or.inl ⟨by rfl, ?_⟩) ?_ ?_
            rotate_left
            ·intro w'
             go_simp
             with_reducible rfl
            rotate_left
            ·simp only [Act.put, List.setIfInBounds_toArray, List.set_cons_zero, List.set_cons_succ, i64_w, i32_w]
             rfl
            refine pure_ (i := 10) (N := some 35) (v := ?_) (a' := ?_) #[true, true, false, true, true, false, true, true, false, true, true, false, false, false, false, false, false, false, false, false] rfl rfl (any_of HT_.out (by kernel_rfl)) (fun _ _ _ h => h) (Or.inl ⟨by rfl, ?_⟩) ?_ ?_
            rotate_left
            ·intro w'
             go_simp
             with_reducible rfl
            rotate_left
            ·simp only [Act.put, List.setIfInBounds_toArray, List.set_cons_zero, List.set_cons_succ, i64_w, i32_w]
             rfl
            refine take_ (i := 2) (N := some 27) (v := ?_) (a' := ?_) #[true, true, true, true, true, false, true, true, false, true, true, false, false, false, false, false, false, false, false, false] rfl rfl (take_ofW HT_.out HW_.out (by kernel_rfl)) (fun _ _ _ h => h) (Or.inl ⟨by rfl, ?_⟩) hHeld ?_ ?_
            rotate_left
            ·rintro w' ⟨s0, s1, s2, s3⟩
             go_simp
             with_reducible rfl
            rotate_left
            ·simp only [Act.put, List.setIfInBounds_toArray, List.set_cons_zero, List.set_cons_succ, i64_w, i32_w]
             rfl
            refine pure_ (i := 12) (N := some 37) (v := ?_) (a' := ?_) #[true, true, true, true, true, false, true, true, false, true, true, false, true, false, false, false, false, false, false, false] rfl rfl (any_of HT_.out (by kernel_rfl)) (fun _ _ _ h => h) (Or.inl ⟨by rfl, ?_⟩) ?_ ?_
            rotate_left
            ·intro w'
             go_simp
             with_reducible rfl
            rotate_left
            ·simp only [Act.put, List.setIfInBounds_toArray, List.set_cons_zero, List.set_cons_succ, i64_w, i32_w]
             rfl
            refine take_ (i := 5) (N := some 30) (v := ?_) (a' := ?_) #[true, true, true, true, true, true, true, true, false, true, true, false, true, false, false, false, false, false, false, false] rfl rfl (take_ofW HT_.out HW_.out (by kernel_rfl)) (fun _ _ _ h => h) (Or.inl ⟨by rfl, ?_⟩) hHeld ?_ ?_
            rotate_left
            ·rintro w' ⟨s0, s1, s2, s3⟩
             go_simp
             with_reducible rfl
            rotate_left
            ·simp only [Act.put, List.setIfInBounds_toArray, List.set_cons_zero, List.set_cons_succ, i64_w, i32_w]
             rfl
            refine take_ (i := 8) (N := some 33) (v := ?_) (a' := ?_) #[true, true, true, true, true, true, true, true, true, true, true, false, true, false, false, false, false, false, false, false] rfl rfl (take_ofW HT_.out HW_.out (by kernel_rfl)) (fun _ _ _ h => h) (Or.inl ⟨by rfl, ?_⟩) hHeld ?_ ?_
            rotate_left
            ·rintro w' ⟨s0, s1, s2, s3⟩
             go_simp
             with_reducible rfl
            rotate_left
            ·simp only [Act.put, List.setIfInBounds_toArray, List.set_cons_zero, List.set_cons_succ, i64_w, i32_w]
             rfl
            refine take_ (i := 11) (N := some 36) (v := ?_) (a' := ?_) #[true, true, true, true, true, true, true, true, true, true, true, true, true, false, false, false, false, false, false, false] rfl rfl (take_ofW HT_.out HW_.out (by kernel_rfl)) (fun _ _ _ h => h) (Or.inl ⟨by rfl, ?_⟩) hHeld ?_ ?_
            rotate_left
            ·rintro w' ⟨s0, s1, s2, s3⟩
             go_simp
             with_reducible rfl
            rotate_left
            ·simp only [Act.put, List.setIfInBounds_toArray, List.set_cons_zero, List.set_cons_succ, i64_w, i32_w]
             rfl
            refine one_ (i := 13) (N := none) #[true, true, true, true, true, true, true, true, true, true, true, true, true, true, false, false, false, false, false, false] rfl rfl (one_of HT_.out (by kernel_rfl)) (by decide) (fun K hK => ?_)
            have hs30 : w29.cell? ⟨gb257, 2, none⟩ = some (.int .i64 0) := (bC BK257.out 2).trans rfl
            have hfs30 := bF BK257.out 2
            have hns30_0 := NB244_257.out
            have hms30_0 := NB257_244.out
            refine skip_ (w1 := ?_) (by rfl) rfl ?_ ?_
            rotate_left
            ·go_simp
             rfl
            have hq_1 := Kd.own_blk (Kd.R_ne HO260.out BK257.out (by decide))
            refine hK.out _ _ ⟨((cell_far (p := ⟨gb257, _, none⟩) (by first | exact hq_1 | (rw [add_block]; exact hq_1) | (show (Addr.add _ _).block ≠ _; rw [add_block]; exact hq_1) | (dsimp only; exact hq_1)) _).trans (hHeld.1)), ((cell_far (p := ⟨gb257, _, none⟩) (by first | exact hq_1 | (rw [add_block]; exact hq_1) | (show (Addr.add _ _).block ≠ _; rw [add_block]; exact hq_1) | (dsimp only; exact hq_1)) _).trans (hHeld.2.1)), ((cell_far (p := ⟨gb257, _, none⟩) (by first | exact hq_1 | (rw [add_block]; exact hq_1) | (show (Addr.add _ _).block ≠ _; rw [add_block]; exact hq_1) | (dsimp only; exact hq_1)) _).trans (hHeld.2.2.1)), ((cell_far (p := ⟨gb257, _, none⟩) (by first | exact hq_1 | (rw [add_block]; exact hq_1) | (show (Addr.add _ _).block ≠ _; rw [add_block]; exact hq_1) | (dsimp only; exact hq_1)) _).trans (hHeld.2.2.2))⟩ (fun hHeld => ?_)
            clear hK K
            refine pure_ (i := 14) (N := some 38) (v := ?_) (a' := ?_) #[true, true, true, true, true, true, true, true, true, true, true, true, true, true, true, false, false, false, false, false] rfl rfl (any_of HT_.out (by kernel_rfl)) (fun _ _ _ h => h) (Or.inl ⟨by rfl, ?_⟩) ?_ ?_
            rotate_left
            ·intro w'
             go_simp
             with_reducible rfl
            rotate_left
            ·simp only [Act.put, List.setIfInBounds_toArray, List.set_cons_zero, List.set_cons_succ, i64_w, i32_w]
             rfl
            refine one_ (i := 15) (N := none) #[true, true, true, true, true, true, true, true, true, true, true, true, true, true, true, true, false, false, false, false] rfl rfl (one_of HT_.out (by kernel_rfl)) (by decide) (fun K hK => ?_)
            have hs31 : w29.cell? ⟨gb257, 3, none⟩ = some (.int .i64 0) := (bC BK257.out 3).trans rfl
            have hfs31 := bF BK257.out 3
            have hns31_0 := NB244_257.out
            have hms31_0 := NB257_244.out
            refine skip_ (w1 := ?_) (by rfl) rfl ?_ ?_
            rotate_left
            ·go_simp
             rfl
            have hq_2 := Kd.own_blk (Kd.R_ne HO260.out BK257.out (by decide))
            refine hK.out _ _ ⟨((cell_far (p := ⟨gb257, _, none⟩) (by first | exact hq_2 | (rw [add_block]; exact hq_2) | (show (Addr.add _ _).block ≠ _; rw [add_block]; exact hq_2) | (dsimp only; exact hq_2)) _).trans (hHeld.1)), ((cell_far (p := ⟨gb257, _, none⟩) (by first | exact hq_2 | (rw [add_block]; exact hq_2) | (show (Addr.add _ _).block ≠ _; rw [add_block]; exact hq_2) | (dsimp only; exact hq_2)) _).trans (hHeld.2.1)), ((cell_far (p := ⟨gb257, _, none⟩) (by first | exact hq_2 | (rw [add_block]; exact hq_2) | (show (Addr.add _ _).block ≠ _; rw [add_block]; exact hq_2) | (dsimp only; exact hq_2)) _).trans (hHeld.2.2.1)), ((cell_far (p := ⟨gb257, _, none⟩) (by first | exact hq_2 | (rw [add_block]; exact hq_2) | (show (Addr.add _ _).block ≠ _; rw [add_block]; exact hq_2) | (dsimp only; exact hq_2)) _).trans (hHeld.2.2.2))⟩ (fun hHeld => ?_)
            clear hK K
            refine pure_ (i := 16) (N := some 39) (v := ?_) (a' := ?_) #[true, true, true, true, true, true, true, true, true, true, true, true, true, true, true, true, true, false, false, false] rfl rfl (any_of HT_.out (by kernel_rfl)) (fun _ _ _ h => h) (Or.inl ⟨by rfl, ?_⟩) ?_ ?_
            rotate_left
            ·intro w'
             go_simp
             with_reducible rfl
            rotate_left
            ·simp only [Act.put, List.setIfInBounds_toArray, List.set_cons_zero, List.set_cons_succ, i64_w, i32_w]
             rfl
            refine one_ (i := 17) (N := none) #[true, true, true, true, true, true, true, true, true, true, true, true, true, true, true, true, true, true, false, false] rfl rfl (one_of HT_.out (by kernel_rfl)) (by decide) (fun K hK => ?_)
            have hs32 : w29.cell? ⟨gb257, 4, none⟩ = some (.int .i64 0) := (bC BK257.out 4).trans rfl
            have hfs32 := bF BK257.out 4
            have hns32_0 := NB244_257.out
            have hms32_0 := NB257_244.out
            refine skip_ (w1 := ?_) (by rfl) rfl ?_ ?_
            rotate_left
            ·go_simp
             rfl
            have hq_3 := Kd.own_blk (Kd.R_ne HO260.out BK257.out (by decide))
            refine hK.out _ _ ⟨((cell_far (p := ⟨gb257, _, none⟩) (by first | exact hq_3 | (rw [add_block]; exact hq_3) | (show (Addr.add _ _).block ≠ _; rw [add_block]; exact hq_3) | (dsimp only; exact hq_3)) _).trans (hHeld.1)), ((cell_far (p := ⟨gb257, _, none⟩) (by first | exact hq_3 | (rw [add_block]; exact hq_3) | (show (Addr.add _ _).block ≠ _; rw [add_block]; exact hq_3) | (dsimp only; exact hq_3)) _).trans (hHeld.2.1)), ((cell_far (p := ⟨gb257, _, none⟩) (by first | exact hq_3 | (rw [add_block]; exact hq_3) | (show (Addr.add _ _).block ≠ _; rw [add_block]; exact hq_3) | (dsimp only; exact hq_3)) _).trans (hHeld.2.2.1)), ((cell_far (p := ⟨gb257, _, none⟩) (by first | exact hq_3 | (rw [add_block]; exact hq_3) | (show (Addr.add _ _).block ≠ _; rw [add_block]; exact hq_3) | (dsimp only; exact hq_3)) _).trans (hHeld.2.2.2))⟩ (fun hHeld => ?_)
            clear hK K
            refine pure_ (i := 18) (N := some 40) (v := ?_) (a' := ?_) #[true, true, true, true, true, true, true, true, true, true, true, true, true, true, true, true, true, true, true, false] rfl rfl (any_of HT_.out (by kernel_rfl)) (fun _ _ _ h => h) (Or.inl ⟨by rfl, ?_⟩) ?_ ?_
            rotate_left
            ·intro w'
             go_simp
             with_reducible rfl
            rotate_left
            ·simp only [Act.put, List.setIfInBounds_toArray, List.set_cons_zero, List.set_cons_succ, i64_w, i32_w]
             rfl
            refine one_ (i := 19) (N := none) #[true, true, true, true, true, true, true, true, true, true, true, true, true, true, true, true, true, true, true, true] rfl rfl (one_of HT_.out (by kernel_rfl)) (by decide) (fun K hK => ?_)
            have hs33 : w29.cell? ⟨gb257, 5, none⟩ = some (.int .i64 0) := (bC BK257.out 5).trans rfl
            have hfs33 := bF BK257.out 5
            have hns33_0 := NB244_257.out
            have hms33_0 := NB257_244.out
            refine skip_ (w1 := ?_) (by rfl) rfl ?_ ?_
            rotate_left
            ·go_simp
             rfl
            have hq_4 := Kd.own_blk (Kd.R_ne HO260.out BK257.out (by decide))
            refine hK.out _ _ ⟨((cell_far (p := ⟨gb257, _, none⟩) (by first | exact hq_4 | (rw [add_block]; exact hq_4) | (show (Addr.add _ _).block ≠ _; rw [add_block]; exact hq_4) | (dsimp only; exact hq_4)) _).trans (hHeld.1)), ((cell_far (p := ⟨gb257, _, none⟩) (by first | exact hq_4 | (rw [add_block]; exact hq_4) | (show (Addr.add _ _).block ≠ _; rw [add_block]; exact hq_4) | (dsimp only; exact hq_4)) _).trans (hHeld.2.1)), ((cell_far (p := ⟨gb257, _, none⟩) (by first | exact hq_4 | (rw [add_block]; exact hq_4) | (show (Addr.add _ _).block ≠ _; rw [add_block]; exact hq_4) | (dsimp only; exact hq_4)) _).trans (hHeld.2.2.1)), ((cell_far (p := ⟨gb257, _, none⟩) (by first | exact hq_4 | (rw [add_block]; exact hq_4) | (show (Addr.add _ _).block ≠ _; rw [add_block]; exact hq_4) | (dsimp only; exact hq_4)) _).trans (hHeld.2.2.2))⟩ (fun hHeld => ?_)
            clear hK K
            refine done_ (done_of HT_.out (by kernel_rfl)) ?_
            try go_wp2
            have n0_ : Aside0 (Kd.R (Kd.int .i64) 3 ((((w29.setCell ⟨gb257, 2, none⟩ (.int .i64 (rd t258 0))).setCell ⟨gb257, 3, none⟩ (.int .i64 (rd t258 1))).setCell ⟨gb257, 4, none⟩ (.int .i64 (rd t258 2))).setCell ⟨gb257, 5, none⟩ (.int .i64 (rd t258 3))) w.heap.size (fun _ => True) (.slice (some ad268) t258.length co28) t258) := ⟨by (with_reducible repeat (first | apply Kd.R_alloc | apply Kd.R_drewN | apply Kd.R_drew)); exact Kd.R_mono (Kd.R_far (p := ⟨gb257, 5, none⟩) (Kd.R_far (p := ⟨gb257, 4, none⟩) (Kd.R_far (p := ⟨gb257, 3, none⟩) (Kd.R_far (p := ⟨gb257, 2, none⟩) (Kd.R_types HO260.out BK257.out (by decide)) (fun _ hk => hk.2) (.int .i64 (rd t258 0))) (fun _ hk => hk.2) (.int .i64 (rd t258 1))) (fun _ hk => hk.2) (.int .i64 (rd t258 2))) (fun _ hk => hk.2) (.int .i64 (rd t258 3))) (fun _ hk => trivial)⟩
            have n1_ : Aside0 (((((w29.setCell ⟨gb257, 2, none⟩ (.int .i64 (rd t258 0))).setCell ⟨gb257, 3, none⟩ (.int .i64 (rd t258 1))).setCell ⟨gb257, 4, none⟩ (.int .i64 (rd t258 2))).setCell ⟨gb257, 5, none⟩ (.int .i64 (rd t258 3))).heap[gb244]? = some (.cells #[.string (⟨#[]⟩ : ByteArray), .string (⟨#[]⟩ : ByteArray), .int .i64 0, .int .i64 0, .int .i64 0, .int .i64 0, .int .i64 0, .int .i64 0, .int .i64 0, .int .i64 0, .int .i64 0] 23 (0, 0))) := ⟨by (with_reducible repeat (first | refine bN ?_ _ | refine bW ?_ | refine bA ?_ _)); refine blk_far ?_ NB244_257.out _; (with_reducible repeat (first | refine bN ?_ _ | refine bW ?_ | refine bA ?_ _)); refine blk_far ?_ NB244_257.out _; (with_reducible repeat (first | refine bN ?_ _ | refine bW ?_ | refine bA ?_ _)); refine blk_far ?_ NB244_257.out _; (with_reducible repeat (first | refine bN ?_ _ | refine bW ?_ | refine bA ?_ _)); refine blk_far ?_ NB244_257.out _; (with_reducible repeat (first | refine bN ?_ _ | refine bW ?_ | refine bA ?_ _)); exact BK244.out⟩
            have n2_ : Aside0 (((((w29.setCell ⟨gb257, 2, none⟩ (.int .i64 (rd t258 0))).setCell ⟨gb257, 3, none⟩ (.int .i64 (rd t258 1))).setCell ⟨gb257, 4, none⟩ (.int .i64 (rd t258 2))).setCell ⟨gb257, 5, none⟩ (.int .i64 (rd t258 3))).heap[gb257]? = some (.cells #[.string t249, .string t253, .int .i64 (rd t258 0), .int .i64 (rd t258 1), .int .i64 (rd t258 2), .int .i64 (rd t258 3), .int .i64 0, .int .i64 0, .int .i64 0, .int .i64 0, .int .i64 0] 23 (0, 0))) := ⟨by (with_reducible repeat (first | refine bN ?_ _ | refine bW ?_ | refine bA ?_ _)); refine blk_put (cs := #[.string t249, .string t253, .int .i64 (rd t258 0), .int .i64 (rd t258 1), .int .i64 (rd t258 2), .int .i64 0, .int .i64 0, .int .i64 0, .int .i64 0, .int .i64 0, .int .i64 0]) ?_ 5 _ rfl; (with_reducible repeat (first | refine bN ?_ _ | refine bW ?_ | refine bA ?_ _)); refine blk_put (cs := #[.string t249, .string t253, .int .i64 (rd t258 0), .int .i64 (rd t258 1), .int .i64 0, .int .i64 0, .int .i64 0, .int .i64 0, .int .i64 0, .int .i64 0, .int .i64 0]) ?_ 4 _ rfl; (with_reducible repeat (first | refine bN ?_ _ | refine bW ?_ | refine bA ?_ _)); refine blk_put (cs := #[.string t249, .string t253, .int .i64 (rd t258 0), .int .i64 0, .int .i64 0, .int .i64 0, .int .i64 0, .int .i64 0, .int .i64 0, .int .i64 0, .int .i64 0]) ?_ 3 _ rfl; (with_reducible repeat (first | refine bN ?_ _ | refine bW ?_ | refine bA ?_ _)); refine blk_put (cs := #[.string t249, .string t253, .int .i64 0, .int .i64 0, .int .i64 0, .int .i64 0, .int .i64 0, .int .i64 0, .int .i64 0, .int .i64 0, .int .i64 0]) ?_ 2 _ rfl; (with_reducible repeat (first | refine bN ?_ _ | refine bW ?_ | refine bA ?_ _)); exact BK257.out⟩
            have n3_ : Aside0 (IsS104 w ((((w29.setCell ⟨gb257, 2, none⟩ (.int .i64 (rd t258 0))).setCell ⟨gb257, 3, none⟩ (.int .i64 (rd t258 1))).setCell ⟨gb257, 4, none⟩ (.int .i64 (rd t258 2))).setCell ⟨gb257, 5, none⟩ (.int .i64 (rd t258 3))) g248 t265 t266 t267) := ⟨by repeat (first | (with_reducible first | exact HI248.out | apply IsS104.alloc | apply IsS104.drewN | apply IsS104.drew | apply IsS104.set_0 | apply IsS104.set_1 | apply IsS104.set_2 | refine IsS104.far ?_ NB248_244.out _ | refine IsS104.far ?_ NB248_257.out _) | exact HI248.out)⟩
            have n4_ : Aside0 (Below w.heap.size w ((((w29.setCell ⟨gb257, 2, none⟩ (.int .i64 (rd t258 0))).setCell ⟨gb257, 3, none⟩ (.int .i64 (rd t258 1))).setCell ⟨gb257, 4, none⟩ (.int .i64 (rd t258 2))).setCell ⟨gb257, 5, none⟩ (.int .i64 (rd t258 3)))) := ⟨by repeat (first | (with_reducible first | exact HB.out | apply pA | apply pN | apply p1 | refine pS ?_ (IsS104.ge HI248.out) | refine pS ?_ GE244.out | refine pS ?_ GE257.out) | exact HB.out)⟩
            (try clear HO260)
            (try clear BK244)
            (try clear BK257)
            (try clear HI248)
            (try clear HB)
            generalize ((((w29.setCell ⟨gb257, 2, none⟩ (.int .i64 (rd t258 0))).setCell ⟨gb257, 3, none⟩ (.int .i64 (rd t258 1))).setCell ⟨gb257, 4, none⟩ (.int .i64 (rd t258 2))).setCell ⟨gb257, 5, none⟩ (.int .i64 (rd t258 3))) = w34 at n0_ n1_ n2_ n3_ n4_ ⊢
            have HO260 := n0_
            have BK244 := n1_
            have BK257 := n2_
            have HI248 := n3_
            have HB := n4_
            clear n0_ n1_ n2_ n3_ n4_
            have n0_ := q_ (Kd.R_drew HO260.out)
            have n1_ := q_ (bW BK244.out)
            have n2_ := q_ (bW BK257.out)
            have n3_ := q_ (IsS104.drew HI248.out)
            have n4_ := q_ (p1 HB.out)
            clear HO260
            clear BK244
            clear BK257
            clear HI248
            clear HB
            have HO260 := n0_
            have BK244 := n1_
            have BK257 := n2_
            have HI248 := n3_
            have HB := n4_
            clear n0_ n1_ n2_ n3_ n4_
            have p272 : 0 ≤ (4 : Int) := (by omega)
            have q272 : 4 < (t258.length : Int) := of_decide_eq_true (by first | (with_reducible assumption) | assumption)
            obtain ⟨ad272, e272, hx272_0⟩ := Kd.at_int (Kd.R_reads' HO260.out).2.2 4 p272 q272
            obtain rfl : ad268 = ad272 := (by injection e272)
            (try simp only [show (4 : Int).toNat = 4 from rfl, Nat.reduceMul, Nat.reduceEqDiff, Go.Addr.add, ↓reduceIte] at hx272_0)
            have qi272 : (4 < t258.length) = True := eq_true (by omega)
            (try rw [show ((4 : Int)).toNat = 4 from rfl] at hx272_0)
            replace p272 := eq_true p272
            replace q272 := eq_true q272
            have p273 : 0 ≤ (5 : Int) := (by omega)
            have q273 : 5 < (t258.length : Int) := of_decide_eq_true (by first | (with_reducible assumption) | assumption)
            obtain ⟨ad273, e273, hx273_0⟩ := Kd.at_int (Kd.R_reads' HO260.out).2.2 5 p273 q273
            obtain rfl : ad268 = ad273 := (by injection e273)
            (try simp only [show (5 : Int).toNat = 5 from rfl, Nat.reduceMul, Nat.reduceEqDiff, Go.Addr.add, ↓reduceIte] at hx273_0)
            have qi273 : (5 < t258.length) = True := eq_true (by omega)
            (try rw [show ((5 : Int)).toNat = 5 from rfl] at hx273_0)
            replace p273 := eq_true p273
            replace q273 := eq_true q273
            have p274 : 0 ≤ (6 : Int) := (by omega)
            have q274 : 6 < (t258.length : Int) := of_decide_eq_true (by first | (with_reducible assumption) | assumption)
            obtain ⟨ad274, e274, hx274_0⟩ := Kd.at_int (Kd.R_reads' HO260.out).2.2 6 p274 q274
            obtain rfl : ad268 = ad274 := (by injection e274)
            (try simp only [show (6 : Int).toNat = 6 from rfl, Nat.reduceMul, Nat.reduceEqDiff, Go.Addr.add, ↓reduceIte] at hx274_0)
            have qi274 : (6 < t258.length) = True := eq_true (by omega)
            (try rw [show ((6 : Int)).toNat = 6 from rfl] at hx274_0)
            replace p274 := eq_true p274
            replace q274 := eq_true q274
            have p275 : 0 ≤ (7 : Int) := (by omega)
            have q275 : 7 < (t258.length : Int) := of_decide_eq_true (by first | (with_reducible assumption) | assumption)
            obtain ⟨ad275, e275, hx275_0⟩ := Kd.at_int (Kd.R_reads' HO260.out).2.2 7 p275 q275
            obtain rfl : ad268 = ad275 := (by injection e275)
            (try simp only [show (7 : Int).toNat = 7 from rfl, Nat.reduceMul, Nat.reduceEqDiff, Go.Addr.add, ↓reduceIte] at hx275_0)
            have qi275 : (7 < t258.length) = True := eq_true (by omega)
            (try rw [show ((7 : Int)).toNat = 7 from rfl] at hx275_0)
            replace p275 := eq_true p275
            replace q275 := eq_true q275
            have p276 : 0 ≤ (8 : Int) := (by omega)
            have q276 : 8 < (t258.length : Int) := of_decide_eq_true (by first | (with_reducible assumption) | assumption)
            obtain ⟨ad276, e276, hx276_0⟩ := Kd.at_int (Kd.R_reads' HO260.out).2.2 8 p276 q276
            obtain rfl : ad268 = ad276 := (by injection e276)
            (try simp only [show (8 : Int).toNat = 8 from rfl, Nat.reduceMul, Nat.reduceEqDiff, Go.Addr.add, ↓reduceIte] at hx276_0)
            have qi276 : (8 < t258.length) = True := eq_true (by omega)
            (try rw [show ((8 : Int)).toNat = 8 from rfl] at hx276_0)
            replace p276 := eq_true p276
            replace q276 := eq_true q276
            refine start_ (n := 25) (S := fun w' => w'.cell? ⟨ad268.block, ad268.off + 4, none⟩ = some (.int .i64 (rd t258 4)) ∧ w'.cell? ⟨ad268.block, ad268.off + 5, none⟩ = some (.int .i64 (rd t258 5)) ∧ w'.cell? ⟨ad268.block, ad268.off + 6, none⟩ = some (.int .i64 (rd t258 6)) ∧ w'.cell? ⟨ad268.block, ad268.off + 7, none⟩ = some (.int .i64 (rd t258 7)) ∧ w'.cell? ⟨ad268.block, ad268.off + 8, none⟩ = some (.int .i64 (rd t258 8))) (ds := []) #[false, false, false, false, false, false, false, false, false, false, false, false, false, false, false, false, false, false, false, false, false, false, false, false, false] (by kernel_rfl) rfl rfl ⟨hx272_0, hx273_0, hx274_0, hx275_0, hx276_0⟩ (fun hHeld => ?_); refine with_tabW order_Decode.tab7 order_Decode.bits7 (fun HT_ HW_ => ?_)
            generalize w34.drew = w35 at HO260 BK244 BK257 HI248 HB hx272_0 hx273_0 hx274_0 hx275_0 hx276_0 hHeld ⊢
            refine pure_ (i := 0) (N := some 41) (v := ?_) (a' := ?_) #[true, false, false, false, false, false, false, false, false, false, false, false, false, false, false, false, false, false, false, false, false, false, false, false, false] rfl rfl (any_of HT_.out (by kernel_rfl)) (fun _ _ _ h => h) (Or.inl ⟨by rfl, ?_⟩) ?_ ?_
            rotate_left
            ·intro w'
             go_simp
             with_reducible rfl
            rotate_left
            ·simp only [Act.put, List.setIfInBounds_toArray, List.set_cons_zero, List.set_cons_succ, i64_w, i32_w]
             rfl
            refine pure_ (i := 1) (N := some 42) (v := ?_) (a' := ?_) #[true, true, false, false, false, false, false, false, false, false, false, false, false, false, false, false, false, false, false, false, false, false, false, false, false] rfl rfl (any_of HT_.out (by kernel_rfl)) (fun _ _ _ h => h) (Or.inl ⟨by rfl, ?_⟩) ?_ ?_
            rotate_left
            ·intro w'
             go_simp
             with_reducible rfl
            rotate_left
            ·simp only [Act.put, List.setIfInBounds_toArray, List.set_cons_zero, List.set_cons_succ, i64_w, i32_w]
             rfl
            refine pure_ (i := 3) (N := some 44) (v := ?_) (a' := ?_) #[true, true, false, true, false, false, false, false, false, false, false, false, false, false, false, false, false, false, false, false, false, false, false, false, false] rfl rfl (any_of HT_.out (by kernel_rfl)) (fun _ _ _ h => h) (Or.inl ⟨by rfl, ?_⟩) ?_ ?_
            rotate_left
            ·intro w'
             go_simp
             with_reducible rfl
            rotate_left
            ·simp only [Act.put, List.setIfInBounds_toArray, List.set_cons_zero, List.set_cons_succ, i64_w, i32_w]
             rfl
            refine pure_ (i := 4) (N := some 45) (v := ?_) (a' := ?_) #[true, true, false, true, true, false, false, false, false, false, false, false, false, false, false, false, false, false, false, false, false, false, false, false, false] rfl rfl (any_of HT_.out (by kernel_rfl)) (fun _ _ _ h => h) (Or.inl ⟨by rfl, ?_⟩) ?_ ?_
            rotate_left
            ·intro w'
             go_simp
             with_reducible rfl
            rotate_left
            ·simp only [Act.put, List.setIfInBounds_toArray, List.set_cons_zero, List.set_cons_succ, i64_w, i32_w]
             rfl
            refine pure_ (i := 6) (N := some 47) (v := ?_) (a' := ?_) #[true, true, false, true, true, false, true, false, false, false, false, false, false, false, false, false, false, false, false, false, false, false, false, false, false] rfl rfl (any_of HT_.out (by kernel_rfl)) (fun _ _ _ h => h) (Or.inl ⟨by rfl, ?_⟩) ?_ ?_
            rotate_left
            ·intro w'
             go_simp
             with_reducible rfl
            rotate_left
            ·simp only [Act.put, List.setIfInBounds_toArray, List.set_cons_zero, List.set_cons_succ, i64_w, i32_w]
             rfl
            refine pure_ (i := 7) (N := some 48) (v := ?_) (a' := ?_) #[true, true, false, true, true, false, true, true, false, false, false, false, false, false, false, false, false, false, false, false, false, false, false, false, false] rfl rfl (any_of HT_.out (by kernel_rfl)) (fun _ _ _ h => h) (Or.inl ⟨by rfl, ?_⟩) ?_ ?_
            rotate_left
            ·intro w'
             go_simp
             with_reducible rfl
            rotate_left
            ·simp only [Act.put, List.setIfInBounds_toArray, List.set_cons_zero, List.set_cons_succ, i64_w, i32_w]
             rfl
            refine pure_ (i := 9) (N := some 50) (v := ?_) (a' := ?_) #[true, true, false, true, true, false, true, true, false, true, false, false, false, false, false, false, false, false, false, false, false, false, false, false, false] rfl rfl (any_of HT_.out (by kernel_rfl)) (fun _ _ _ h => h) (Or.inl ⟨by rfl, ?_⟩) ?_ ?_
            rotate_left
            ·intro w'
             go_simp
             with_reducible rfl
            rotate_left
            ·simp only [Act.put, List.setIfInBounds_toArray, List.set_cons_zero, List.set_cons_succ, i64_w, i32_w]
             rfl
            refine pure_ (i := 10) (N := some 51) (v := ?_) (a' := ?_) #[true, true, false, true, true, false, true, true, false, true, true, false, false, false, false, false, false, false, false, false, false, false, false, false, false] rfl rfl (any_of HT_.out (by kernel_rfl)) (fun _ _ _ h => h) (Or.inl ⟨by rfl, ?_⟩) ?_ ?_
            rotate_left
            ·intro w'
             go_simp
             with_reducible rfl
            rotate_left
            ·simp only [Act.put, List.setIfInBounds_toArray, List.set_cons_zero, List.set_cons_succ, i64_w, i32_w]
             rfl
            refine pure_ (i := 12) (N := some 53) (v := ?_) (a' := ?_) #[true, true, false, true, true, false, true, true, false, true, true, false, true, false, false, false, false, false, false, false, false, false, false, false, false] rfl rfl (any_of HT_.out (by kernel_rfl)) (fun _ _ _ h => h) (Or.inl ⟨by rfl, ?_⟩) ?_ ?_
            rotate_left
            ·intro w'
             go_simp
             with_reducible rfl
            rotate_left
            ·simp only [Act.put, List.setIfInBounds_toArray, List.set_cons_zero, List.set_cons_succ, i64_w, i32_w]
             rfl
            refine pure_ (i := 13) (N := some 54) (v := ?_) (a' := ?_) #[true, true, false, true, true, false, true, true, false, true, true, false, true, true, false, false, false, false, false, false, false, false, false, false, false] rfl rfl (any_of HT_.out (by kernel_rfl)) (fun _ _ _ h => h) (Or.inl ⟨by rfl, ?_⟩) ?_ ?_
            rotate_left
            ·intro w'
             go_simp
             with_reducible rfl
            rotate_left
            ·simp only [Act.put, List.setIfInBounds_toArray, List.set_cons_zero, List.set_cons_succ, i64_w, i32_w]
             rfl
            refine take_ (i := 2) (N := some 43) (v := ?_) (a' := ?_) #[true, true, true, true, true, false, true, true, false, true, true, false, true, true, false, false, false, false, false, false, false, false, false, false, false] rfl rfl (take_ofW HT_.out HW_.out (by kernel_rfl)) (fun _ _ _ h => h) (Or.inl ⟨by rfl, ?_⟩) hHeld ?_ ?_
            rotate_left
            ·rintro w' ⟨s0, s1, s2, s3, s4⟩
             go_simp
             with_reducible rfl
            rotate_left
            ·simp only [Act.put, List.setIfInBounds_toArray, List.set_cons_zero, List.set_cons_succ, i64_w, i32_w]
             rfl
            refine pure_ (i := 15) (N := some 56) (v := ?_) (a' := ?_) #[true, true, true, true, true, false, true, true, false, true, true, false, true, true, false, true, false, false, false, false, false, false, false, false, false] rfl rfl (any_of HT_.out (by kernel_rfl)) (fun _ _ _ h => h) (Or.inl ⟨by rfl, ?_⟩) ?_ ?_
            rotate_left
            ·intro w'
             go_simp
             with_reducible rfl
            rotate_left
            ·simp only [Act.put, List.setIfInBounds_toArray, List.set_cons_zero, List.set_cons_succ, i64_w, i32_w]
             rfl
            refine take_ (i := 5) (N := some 46) (v := ?_) (a' := ?_) #[true, true, true, true, true, true, true, true, false, true, true, false, true, true, false, true, false, false, false, false, false, false, false, false, false] rfl rfl (take_ofW HT_.out HW_.out (by kernel_rfl)) (fun _ _ _ h => h) (Or.inl ⟨by rfl, ?_⟩) hHeld ?_ ?_
            rotate_left
            ·rintro w' ⟨s0, s1, s2, s3, s4⟩
             go_simp
             with_reducible rfl
            rotate_left
            ·simp only [Act.put, List.setIfInBounds_toArray, List.set_cons_zero, List.set_cons_succ, i64_w, i32_w]
             rfl
            refine take_ (i := 8) (N := some 49) (v := ?_) (a' := ?_) #[true, true, true, true, true, true, true, true, true, true, true, false, true, true, false, true, false, false, false, false, false, false, false, false, false] rfl rfl (take_ofW HT_.out HW_.out (by kernel_rfl)) (fun _ _ _ h => h) (Or.inl ⟨by rfl, ?_⟩) hHeld ?_ ?_
            rotate_left
            ·rintro w' ⟨s0, s1, s2, s3, s4⟩
             go_simp
             with_reducible rfl
            rotate_left
            ·simp only [Act.put, List.setIfInBounds_toArray, List.set_cons_zero, List.set_cons_succ, i64_w, i32_w]
             rfl
            refine take_ (i := 11) (N := some 52) (v := ?_) (a' := ?_) #[true, true, true, true, true, true, true, true, true, true, true, true, true, true, false, true, false, false, false, false, false, false, false, false, false] rfl rfl (take_ofW HT_.out HW_.out (by kernel_rfl)) (fun _ _ _ h => h) (Or.inl ⟨by rfl, ?_⟩) hHeld ?_ ?_
            rotate_left
            ·rintro w' ⟨s0, s1, s2, s3, s4⟩
             go_simp
             with_reducible rfl
            rotate_left
            ·simp only [Act.put, List.setIfInBounds_toArray, List.set_cons_zero, List.set_cons_succ, i64_w, i32_w]
             rfl
            refine take_ (i := 14) (N := some 55) (v := ?_) (a' := ?_) #[true, true, true, true, true, true, true, true, true, true, true, true, true, true, true, true, false, false, false, false, false, false, false, false, false] rfl rfl (take_ofW HT_.out HW_.out (by kernel_rfl)) (fun _ _ _ h => h) (Or.inl ⟨by rfl, ?_⟩) hHeld ?_ ?_
            rotate_left
            ·rintro w' ⟨s0, s1, s2, s3, s4⟩
             go_simp
             with_reducible rfl
            rotate_left
            ·simp only [Act.put, List.setIfInBounds_toArray, List.set_cons_zero, List.set_cons_succ, i64_w, i32_w]
             rfl
            refine one_ (i := 16) (N := none) #[true, true, true, true, true, true, true, true, true, true, true, true, true, true, true, true, true, false, false, false, false, false, false, false, false] rfl rfl (one_of HT_.out (by kernel_rfl)) (by decide) (fun K hK => ?_)
            have hs36 : w35.cell? ⟨gb257, 6, none⟩ = some (.int .i64 0) := (bC BK257.out 6).trans rfl
            have hfs36 := bF BK257.out 6
            have hns36_0 := NB244_257.out
            have hms36_0 := NB257_244.out
            refine skip_ (w1 := ?_) (by rfl) rfl ?_ ?_
            rotate_left
            ·go_simp
             rfl
            have hq_5 := Kd.own_blk (Kd.R_ne HO260.out BK257.out (by decide))
            refine hK.out _ _ ⟨((cell_far (p := ⟨gb257, _, none⟩) (by first | exact hq_5 | (rw [add_block]; exact hq_5) | (show (Addr.add _ _).block ≠ _; rw [add_block]; exact hq_5) | (dsimp only; exact hq_5)) _).trans (hHeld.1)), ((cell_far (p := ⟨gb257, _, none⟩) (by first | exact hq_5 | (rw [add_block]; exact hq_5) | (show (Addr.add _ _).block ≠ _; rw [add_block]; exact hq_5) | (dsimp only; exact hq_5)) _).trans (hHeld.2.1)), ((cell_far (p := ⟨gb257, _, none⟩) (by first | exact hq_5 | (rw [add_block]; exact hq_5) | (show (Addr.add _ _).block ≠ _; rw [add_block]; exact hq_5) | (dsimp only; exact hq_5)) _).trans (hHeld.2.2.1)), ((cell_far (p := ⟨gb257, _, none⟩) (by first | exact hq_5 | (rw [add_block]; exact hq_5) | (show (Addr.add _ _).block ≠ _; rw [add_block]; exact hq_5) | (dsimp only; exact hq_5)) _).trans (hHeld.2.2.2.1)), ((cell_far (p := ⟨gb257, _, none⟩) (by first | exact hq_5 | (rw [add_block]; exact hq_5) | (show (Addr.add _ _).block ≠ _; rw [add_block]; exact hq_5) | (dsimp only; exact hq_5)) _).trans (hHeld.2.2.2.2))⟩ (fun hHeld => ?_)
            clear hK K
            refine pure_ (i := 17) (N := some 57) (v := ?_) (a' := ?_) #[true, true, true, true, true, true, true, true, true, true, true, true, true, true, true, true, true, true, false, false, false, false, false, false, false] rfl rfl (any_of HT_.out (by kernel_rfl)) (fun _ _ _ h => h) (Or.inl ⟨by rfl, ?_⟩) ?_ ?_
            rotate_left
            ·intro w'
             go_simp
             with_reducible rfl
            rotate_left
            ·simp only [Act.put, List.setIfInBounds_toArray, List.set_cons_zero, List.set_cons_succ, i64_w, i32_w]
             rfl
            refine one_ (i := 18) (N := none) #[true, true, true, true, true, true, true, true, true, true, true, true, true, true, true, true, true, true, true, false, false, false, false, false, false] rfl rfl (one_of HT_.out (by kernel_rfl)) (by decide) (fun K hK => ?_)
            have hs37 : w35.cell? ⟨gb257, 7, none⟩ = some (.int .i64 0) := (bC BK257.out 7).trans rfl
            have hfs37 := bF BK257.out 7
            have hns37_0 := NB244_257.out
            have hms37_0 := NB257_244.out
            refine skip_ (w1 := ?_) (by rfl) rfl ?_ ?_
            rotate_left
            ·go_simp
             rfl
            have hq_6 := Kd.own_blk (Kd.R_ne HO260.out BK257.out (by decide))
            refine hK.out _ _ ⟨((cell_far (p := ⟨gb257, _, none⟩) (by first | exact hq_6 | (rw [add_block]; exact hq_6) | (show (Addr.add _ _).block ≠ _; rw [add_block]; exact hq_6) | (dsimp only; exact hq_6)) _).trans (hHeld.1)), ((cell_far (p := ⟨gb257, _, none⟩) (by first | exact hq_6 | (rw [add_block]; exact hq_6) | (show (Addr.add _ _).block ≠ _; rw [add_block]; exact hq_6) | (dsimp only; exact hq_6)) _).trans (hHeld.2.1)), ((cell_far (p := ⟨gb257, _, none⟩) (by first | exact hq_6 | (rw [add_block]; exact hq_6) | (show (Addr.add _ _).block ≠ _; rw [add_block]; exact hq_6) | (dsimp only; exact hq_6)) _).trans (hHeld.2.2.1)), ((cell_far (p := ⟨gb257, _, none⟩) (by first | exact hq_6 | (rw [add_block]; exact hq_6) | (show (Addr.add _ _).block ≠ _; rw [add_block]; exact hq_6) | (dsimp only; exact hq_6)) _).trans (hHeld.2.2.2.1)), ((cell_far (p := ⟨gb257, _, none⟩) (by first | exact hq_6 | (rw [add_block]; exact hq_6) | (show (Addr.add _ _).block ≠ _; rw [add_block]; exact hq_6) | (dsimp only; exact hq_6)) _).trans (hHeld.2.2.2.2))⟩ (fun hHeld => ?_)
            clear hK K
            refine pure_ (i := 19) (N := some 58) (v := ?_) (a' := ?_) #[true, true, true, true, true, true, true, true, true, true, true, true, true, true, true, true, true, true, true, true, false, false, false, false, false] rfl rfl (any_of HT_.out (by kernel_rfl)) (fun _ _ _ h => h) (Or.inl ⟨by rfl, ?_⟩) ?_ ?_
            rotate_left
            ·intro w'
             go_simp
             with_reducible rfl
            rotate_left
            ·simp only [Act.put, List.setIfInBounds_toArray, List.set_cons_zero, List.set_cons_succ, i64_w, i32_w]
             rfl
            refine one_ (i := 20) (N := none) #[true, true, true, true, true, true, true, true, true, true, true, true, true, true, true, true, true, true, true, true, true, false, false, false, false] rfl rfl (one_of HT_.out (by kernel_rfl)) (by decide) (fun K hK => ?_)
            have hs38 : w35.cell? ⟨gb257, 8, none⟩ = some (.int .i64 0) := (bC BK257.out 8).trans rfl
            have hfs38 := bF BK257.out 8
            have hns38_0 := NB244_257.out
            have hms38_0 := NB257_244.out
            refine skip_ (w1 := ?_) (by rfl) rfl ?_ ?_
            rotate_left
            ·go_simp
             rfl
            have hq_7 := Kd.own_blk (Kd.R_ne HO260.out BK257.out (by decide))
            refine hK.out _ _ ⟨((cell_far (p := ⟨gb257, _, none⟩) (by first | exact hq_7 | (rw [add_block]; exact hq_7) | (show (Addr.add _ _).block ≠ _; rw [add_block]; exact hq_7) | (dsimp only; exact hq_7)) _).trans (hHeld.1)), ((cell_far (p := ⟨gb257, _, none⟩) (by first | exact hq_7 | (rw [add_block]; exact hq_7) | (show (Addr.add _ _).block ≠ _; rw [add_block]; exact hq_7) | (dsimp only; exact hq_7)) _).trans (hHeld.2.1)), ((cell_far (p := ⟨gb257, _, none⟩) (by first | exact hq_7 | (rw [add_block]; exact hq_7) | (show (Addr.add _ _).block ≠ _; rw [add_block]; exact hq_7) | (dsimp only; exact hq_7)) _).trans (hHeld.2.2.1)), ((cell_far (p := ⟨gb257, _, none⟩) (by first | exact hq_7 | (rw [add_block]; exact hq_7) | (show (Addr.add _ _).block ≠ _; rw [add_block]; exact hq_7) | (dsimp only; exact hq_7)) _).trans (hHeld.2.2.2.1)), ((cell_far (p := ⟨gb257, _, none⟩) (by first | exact hq_7 | (rw [add_block]; exact hq_7) | (show (Addr.add _ _).block ≠ _; rw [add_block]; exact hq_7) | (dsimp only; exact hq_7)) _).trans (hHeld.2.2.2.2))⟩ (fun hHeld => ?_)
            clear hK K
            refine pure_ (i := 21) (N := some 59) (v := ?_) (a' := ?_) #[true, true, true, true, true, true, true, true, true, true, true, true, true, true, true, true, true, true, true, true, true, true, false, false, false] rfl rfl (any_of HT_.out (by kernel_rfl)) (fun _ _ _ h => h) (Or.inl ⟨by rfl, ?_⟩) ?_ ?_
            rotate_left
            ·intro w'
             go_simp
             with_reducible rfl
            rotate_left
            ·simp only [Act.put, List.setIfInBounds_toArray, List.set_cons_zero, List.set_cons_succ, i64_w, i32_w]
             rfl
            refine one_ (i := 22) (N := none) #[true, true, true, true, true, true, true, true, true, true, true, true, true, true, true, true, true, true, true, true, true, true, true, false, false] rfl rfl (one_of HT_.out (by kernel_rfl)) (by decide) (fun K hK => ?_)
            have hs39 : w35.cell? ⟨gb257, 9, none⟩ = some (.int .i64 0) := (bC BK257.out 9).trans rfl
            have hfs39 := bF BK257.out 9
            have hns39_0 := NB244_257.out
            have hms39_0 := NB257_244.out
            refine skip_ (w1 := ?_) (by rfl) rfl ?_ ?_
            rotate_left
            ·go_simp
             rfl
            have hq_8 := Kd.own_blk (Kd.R_ne HO260.out BK257.out (by decide))
            refine hK.out _ _ ⟨((cell_far (p := ⟨gb257, _, none⟩) (by first | exact hq_8 | (rw [add_block]; exact hq_8) | (show (Addr.add _ _).block ≠ _; rw [add_block]; exact hq_8) | (dsimp only; exact hq_8)) _).trans (hHeld.1)), ((cell_far (p := ⟨gb257, _, none⟩) (by first | exact hq_8 | (rw [add_block]; exact hq_8) | (show (Addr.add _ _).block ≠ _; rw [add_block]; exact hq_8) | (dsimp only; exact hq_8)) _).trans (hHeld.2.1)), ((cell_far (p := ⟨gb257, _, none⟩) (by first | exact hq_8 | (rw [add_block]; exact hq_8) | (show (Addr.add _ _).block ≠ _; rw [add_block]; exact hq_8) | (dsimp only; exact hq_8)) _).trans (hHeld.2.2.1)), ((cell_far (p := ⟨gb257, _, none⟩) (by first | exact hq_8 | (rw [add_block]; exact hq_8) | (show (Addr.add _ _).block ≠ _; rw [add_block]; exact hq_8) | (dsimp only; exact hq_8)) _).trans (hHeld.2.2.2.1)), ((cell_far (p := ⟨gb257, _, none⟩) (by first | exact hq_8 | (rw [add_block]; exact hq_8) | (show (Addr.add _ _).block ≠ _; rw [add_block]; exact hq_8) | (dsimp only; exact hq_8)) _).trans (hHeld.2.2.2.2))⟩ (fun hHeld => ?_)
            clear hK K
            refine pure_ (i := 23) (N := some 60) (v := ?_) (a' := ?_) #[true, true, true, true, true, true, true, true, true, true, true, true, true, true, true, true, true, true, true, true, true, true, true, true, false] rfl rfl (any_of HT_.out (by kernel_rfl)) (fun _ _ _ h => h) (Or.inl ⟨by rfl, ?_⟩) ?_ ?_
            rotate_left
            ·intro w'
             go_simp
             with_reducible rfl
            rotate_left
            ·simp only [Act.put, List.setIfInBounds_toArray, List.set_cons_zero, List.set_cons_succ, i64_w, i32_w]
             rfl
            refine one_ (i := 24) (N := none) #[true, true, true, true, true, true, true, true, true, true, true, true, true, true, true, true, true, true, true, true, true, true, true, true, true] rfl rfl (one_of HT_.out (by kernel_rfl)) (by decide) (fun K hK => ?_)
            have hs40 : w35.cell? ⟨gb257, 10, none⟩ = some (.int .i64 0) := (bC BK257.out 10).trans rfl
            have hfs40 := bF BK257.out 10
            have hns40_0 := NB244_257.out
            have hms40_0 := NB257_244.out
            refine skip_ (w1 := ?_) (by rfl) rfl ?_ ?_
            rotate_left
            ·go_simp
             rfl
            have hq_9 := Kd.own_blk (Kd.R_ne HO260.out BK257.out (by decide))
            refine hK.out _ _ ⟨((cell_far (p := ⟨gb257, _, none⟩) (by first | exact hq_9 | (rw [add_block]; exact hq_9) | (show (Addr.add _ _).block ≠ _; rw [add_block]; exact hq_9) | (dsimp only; exact hq_9)) _).trans (hHeld.1)), ((cell_far (p := ⟨gb257, _, none⟩) (by first | exact hq_9 | (rw [add_block]; exact hq_9) | (show (Addr.add _ _).block ≠ _; rw [add_block]; exact hq_9) | (dsimp only; exact hq_9)) _).trans (hHeld.2.1)), ((cell_far (p := ⟨gb257, _, none⟩) (by first | exact hq_9 | (rw [add_block]; exact hq_9) | (show (Addr.add _ _).block ≠ _; rw [add_block]; exact hq_9) | (dsimp only; exact hq_9)) _).trans (hHeld.2.2.1)), ((cell_far (p := ⟨gb257, _, none⟩) (by first | exact hq_9 | (rw [add_block]; exact hq_9) | (show (Addr.add _ _).block ≠ _; rw [add_block]; exact hq_9) | (dsimp only; exact hq_9)) _).trans (hHeld.2.2.2.1)), ((cell_far (p := ⟨gb257, _, none⟩) (by first | exact hq_9 | (rw [add_block]; exact hq_9) | (show (Addr.add _ _).block ≠ _; rw [add_block]; exact hq_9) | (dsimp only; exact hq_9)) _).trans (hHeld.2.2.2.2))⟩ (fun hHeld => ?_)
            clear hK K
            refine done_ (done_of HT_.out (by kernel_rfl)) ?_
            have hcz41 := blk_all BK257.out
            simp only [CellsAt, List.toList_toArray, Nat.reduceAdd, and_true] at hcz41
            have hfz41 := bF BK257.out
            have hnb42 := NB244_248.out
            have hnc42 := NB248_244.out
            have hcz43 := blk_all BK244.out
            simp only [CellsAt, List.toList_toArray, Nat.reduceAdd, and_true] at hcz43
            have hfz43 := bF BK244.out
            try go_wp2
            refine bodyPost_ret (results_ct rfl _ _ gb244 23 #[.string t249, .string t253, .int .i64 (rd t258 0), .int .i64 (rd t258 1), .int .i64 (rd t258 2), .int .i64 (rd t258 3), .int .i64 (rd t258 4), .int .i64 (rd t258 5), .int .i64 (rd t258 6), .int .i64 (rd t258 7), .int .i64 (rd t258 8)] (0, 0) _ rfl (by (with_reducible repeat (first | refine bN ?_ _ | refine bW ?_ | refine bA ?_ _)); refine blk_put (cs := #[.string t249, .string t253, .int .i64 (rd t258 0), .int .i64 (rd t258 1), .int .i64 (rd t258 2), .int .i64 (rd t258 3), .int .i64 (rd t258 4), .int .i64 (rd t258 5), .int .i64 (rd t258 6), .int .i64 (rd t258 7), .int .i64 0]) ?_ 10 _ rfl; (with_reducible repeat (first | refine bN ?_ _ | refine bW ?_ | refine bA ?_ _)); refine blk_put (cs := #[.string t249, .string t253, .int .i64 (rd t258 0), .int .i64 (rd t258 1), .int .i64 (rd t258 2), .int .i64 (rd t258 3), .int .i64 (rd t258 4), .int .i64 (rd t258 5), .int .i64 (rd t258 6), .int .i64 0, .int .i64 0]) ?_ 9 _ rfl; (with_reducible repeat (first | refine bN ?_ _ | refine bW ?_ | refine bA ?_ _)); refine blk_put (cs := #[.string t249, .string t253, .int .i64 (rd t258 0), .int .i64 (rd t258 1), .int .i64 (rd t258 2), .int .i64 (rd t258 3), .int .i64 (rd t258 4), .int .i64 (rd t258 5), .int .i64 0, .int .i64 0, .int .i64 0]) ?_ 8 _ rfl; (with_reducible repeat (first | refine bN ?_ _ | refine bW ?_ | refine bA ?_ _)); refine blk_put (cs := #[.string t249, .string t253, .int .i64 (rd t258 0), .int .i64 (rd t258 1), .int .i64 (rd t258 2), .int .i64 (rd t258 3), .int .i64 (rd t258 4), .int .i64 0, .int .i64 0, .int .i64 0, .int .i64 0]) ?_ 7 _ rfl; (with_reducible repeat (first | refine bN ?_ _ | refine bW ?_ | refine bA ?_ _)); refine blk_put (cs := #[.string t249, .string t253, .int .i64 (rd t258 0), .int .i64 (rd t258 1), .int .i64 (rd t258 2), .int .i64 (rd t258 3), .int .i64 0, .int .i64 0, .int .i64 0, .int .i64 0, .int .i64 0]) ?_ 6 _ rfl; (with_reducible repeat (first | refine bN ?_ _ | refine bW ?_ | refine bA ?_ _)); refine blk_put (cs := #[.string t249, .string t253, .int .i64 (rd t258 0), .int .i64 (rd t258 1), .int .i64 (rd t258 2), .int .i64 0, .int .i64 0, .int .i64 0, .int .i64 0, .int .i64 0, .int .i64 0]) ?_ 5 _ rfl; (with_reducible repeat (first | refine bN ?_ _ | refine bW ?_ | refine bA ?_ _)); refine blk_put (cs := #[.string t249, .string t253, .int .i64 (rd t258 0), .int .i64 (rd t258 1), .int .i64 0, .int .i64 0, .int .i64 0, .int .i64 0, .int .i64 0, .int .i64 0, .int .i64 0]) ?_ 4 _ rfl; (with_reducible repeat (first | refine bN ?_ _ | refine bW ?_ | refine bA ?_ _)); refine blk_put (cs := #[.string t249, .string t253, .int .i64 (rd t258 0), .int .i64 0, .int .i64 0, .int .i64 0, .int .i64 0, .int .i64 0, .int .i64 0, .int .i64 0, .int .i64 0]) ?_ 3 _ rfl; (with_reducible repeat (first | refine bN ?_ _ | refine bW ?_ | refine bA ?_ _)); refine blk_put (cs := #[.string t249, .string t253, .int .i64 0, .int .i64 0, .int .i64 0, .int .i64 0, .int .i64 0, .int .i64 0, .int .i64 0, .int .i64 0, .int .i64 0]) ?_ 2 _ rfl; (with_reducible repeat (first | refine bN ?_ _ | refine bW ?_ | refine bA ?_ _)); refine blk_put (cs := #[.string t249, .string (⟨#[]⟩ : ByteArray), .int .i64 0, .int .i64 0, .int .i64 0, .int .i64 0, .int .i64 0, .int .i64 0, .int .i64 0, .int .i64 0, .int .i64 0]) ?_ 1 _ rfl; (with_reducible repeat (first | refine bN ?_ _ | refine bW ?_ | refine bA ?_ _)); refine blk_put (cs := #[.string (⟨#[]⟩ : ByteArray), .string (⟨#[]⟩ : ByteArray), .int .i64 0, .int .i64 0, .int .i64 0, .int .i64 0, .int .i64 0, .int .i64 0, .int .i64 0, .int .i64 0, .int .i64 0]) ?_ 0 _ rfl; (with_reducible repeat (first | refine bN ?_ _ | refine bW ?_ | refine bA ?_ _)); refine blk_far ?_ NB244_257.out _; (with_reducible repeat (first | refine bN ?_ _ | refine bW ?_ | refine bA ?_ _)); refine blk_far ?_ NB244_257.out _; (with_reducible repeat (first | refine bN ?_ _ | refine bW ?_ | refine bA ?_ _)); refine blk_far ?_ NB244_257.out _; (with_reducible repeat (first | refine bN ?_ _ | refine bW ?_ | refine bA ?_ _)); refine blk_far ?_ NB244_257.out _; (with_reducible repeat (first | refine bN ?_ _ | refine bW ?_ | refine bA ?_ _)); refine blk_far ?_ NB244_257.out _; (with_reducible repeat (first | refine bN ?_ _ | refine bW ?_ | refine bA ?_ _)); exact BK244.out) Tryd.underlying23 rfl (by kernel_rfl)) rfl ?_
            exact ⟨by first | rfl | (simp [*] <;> rfl), by repeat (first | (with_reducible first | exact HB.out | apply pA | apply pN | apply p1 | refine pS ?_ (IsS104.ge HI248.out) | refine pS ?_ GE244.out | refine pS ?_ GE257.out) | exact HB.out)⟩
           ·rw [if_neg c17] at H
            exact absurd H (by simp)
          ·rw [if_neg c16] at H
           exact absurd H (by simp)
         ·rw [if_neg c15] at H
          exact absurd H (by simp)
        ·rw [if_neg c14] at H
         exact absurd H (by simp)
       ·rw [if_neg c13] at H
        exact absurd H (by simp)
      ·rw [if_neg c12] at H
       exact absurd H (by simp)
     ·rw [if_neg c11] at H
      exact absurd H (by simp)
    ·rw [if_neg c10] at H
     exact absurd H (by simp)
   ·rw [if_neg c9] at H
    exact absurd H (by simp)
  ·rw [if_neg c8] at H
   have c8b0 : ((t258.length : Int) == 9) = false := oC c8
   have c8b1 : ((t258.length : Int) != 9) = true := bne_iff_ne.mpr c8
   simp only [Option.some.injEq, Prod.mk.injEq] at H
   obtain ⟨rfl, rfl, rfl, rfl, rfl, rfl, rfl, rfl, rfl, rfl, rfl, rfl⟩ := H
   go_enter Tryd.func24, Tryd.ntmps24
   go_wp2_with (first | (refine wpList_load_cells (by rfl) 23 _ (by exact rfl) ⟨gb244, 0, none⟩ (by rfl) _ _ (cells_of_blk (by (with_reducible repeat (first | refine bN ?_ _ | refine bW ?_ | refine bA ?_ _)); exact BK244.out)) Tryd.underlying23 rfl (by kernel_rfl) ?_) | (refine wpList_load_cells (by rfl) 23 _ (by exact rfl) ⟨gb257, 0, none⟩ (by rfl) _ _ (cells_of_blk (by (with_reducible repeat (first | refine bN ?_ _ | refine bW ?_ | refine bA ?_ _)); exact BK257.out)) Tryd.underlying23 rfl (by kernel_rfl) ?_) | ((with_reducible refine gate_dst (N := 2) rfl ?_); (try (refine gate_guard (by rfl) ?_; dsimp only)); refine box_event ?hg (N := 2) ?hd (cs := #[.string (⟨#[]⟩ : ByteArray), .string (⟨#[]⟩ : ByteArray), .int .i64 0, .int .i64 0, .int .i64 0, .int .i64 0, .int .i64 0, .int .i64 0, .int .i64 0, .int .i64 0, .int .i64 0]) (t := 23) ?hr ?_; (case hd => rfl); (case hg => rfl); (case hr => first | (go_simp; done) | (go_simp; rfl)); intro gb244 hg w44 hbox hb; have n0_ := q_ (pT (by repeat (first | (with_reducible first | exact HB.out | apply pA | apply pN | apply p1) | exact HB.out)) hb); have n1_ := q_ (hbox); have n2_ := q_ ((by rw [hg]; exact (pZ (by repeat (first | (with_reducible first | exact HB.out | apply pA | apply pN | apply p1) | exact HB.out))) : w.heap.size ≤ gb244)); have n3_ := n2_; clear HB; have HB := n0_; have BK244 := n1_; have GW244 := n2_; have GE244 := n3_; clear n0_ n1_ n2_ n3_; clear hb hbox hg) | ((with_reducible refine gate_callee (f := 51) rfl ?_); refine goesL_ (some 8) rfl rfl Tryd.func51 (by kernel_rfl) rfl #[.string a0] rfl (by first | rfl | (simp only [List.map_toArray]; rfl)) ?_; (with_reducible refine (wire_NewReader.calls a0 t245 t246 t247 w _ ?side1 A2.out).mono ?_); (case side1 => repeat (first | (with_reducible first | exact HB.out | apply pA | apply pN | apply p1 | refine pS ?_ GE244.out) | exact HB.out)); rintro e w45 ⟨g248, rfl, hi, hb, hb2⟩; refine ⟨_, rfl, ?_⟩; have n0_ := q_ (bB (g := gb244) (by (with_reducible repeat (first | refine bN ?_ _ | refine bW ?_ | refine bA ?_ _)); exact BK244.out) hb2); have n1_ := q_ (hb); have n2_ := q_ (hi); have n3_ := q_ (IsS104.ne_blk hi (bB (g := gb244) (by (with_reducible repeat (first | refine bN ?_ _ | refine bW ?_ | refine bA ?_ _)); exact BK244.out) hb2) (by decide)); have n4_ := q_ (Ne.symm (IsS104.ne_blk hi (bB (g := gb244) (by (with_reducible repeat (first | refine bN ?_ _ | refine bW ?_ | refine bA ?_ _)); exact BK244.out) hb2) (by decide))); clear BK244; clear HB; have BK244 := n0_; have HB := n1_; have HI248 := n2_; have NB248_244 := n3_; have NB244_248 := n4_; clear n0_ n1_ n2_ n3_ n4_; (try clear hb); (try clear hb2); (try clear hk); (try clear hi)) | ((with_reducible refine gate_callee (f := 52) rfl ?_); refine goesL_ (some 10) rfl rfl Tryd.func52 (by kernel_rfl) rfl #[.pointer (some ⟨g248, 0, none⟩), .int .i64 16] rfl (by first | rfl | (simp only [List.map_toArray]; rfl)) ?_; (with_reducible refine (wire_Reader_Text.calls k g248 t245 t246 t247 16 t249 t250 t251 t252 w _ ?side1 ?side2 A3.out).mono ?_); (case side1 => repeat (first | (with_reducible first | exact HI248.out | apply IsS104.alloc | apply IsS104.drewN | apply IsS104.drew | apply IsS104.set_0 | apply IsS104.set_1 | apply IsS104.set_2 | refine IsS104.far ?_ NB248_244.out _) | exact HI248.out)); (case side2 => repeat (first | (with_reducible first | exact HB.out | apply pA | apply pN | apply p1 | refine pS ?_ (IsS104.ge HI248.out) | refine pS ?_ GE244.out) | exact HB.out)); rintro e w46 ⟨rfl, hi, hb, hk⟩; refine ⟨_, rfl, ?_⟩; have n0_ := q_ (KeepBut.blk hk (g' := gb244) (by (with_reducible repeat (first | refine bN ?_ _ | refine bW ?_ | refine bA ?_ _)); exact BK244.out) NB244_248.out (by simp)); have n1_ := q_ (hb); have n2_ := q_ (hi); clear BK244; clear HB; clear HI248; have BK244 := n0_; have HB := n1_; have HI248 := n2_; clear n0_ n1_ n2_; (try clear hb); (try clear hb2); (try clear hk); (try clear hi)) | ((with_reducible refine gate_callee (f := 52) rfl ?_); refine goesL_ (some 12) rfl rfl Tryd.func52 (by kernel_rfl) rfl #[.pointer (some ⟨g248, 0, none⟩), .int .i64 16] rfl (by first | rfl | (simp only [List.map_toArray]; rfl)) ?_; (with_reducible refine (wire_Reader_Text.calls k g248 t250 t251 t252 16 t253 t254 t255 t256 w _ ?side1 ?side2 A4.out).mono ?_); (case side1 => repeat (first | (with_reducible first | exact HI248.out | apply IsS104.alloc | apply IsS104.drewN | apply IsS104.drew | apply IsS104.set_0 | apply IsS104.set_1 | apply IsS104.set_2 | refine IsS104.far ?_ NB248_244.out _) | exact HI248.out)); (case side2 => repeat (first | (with_reducible first | exact HB.out | apply pA | apply pN | apply p1 | refine pS ?_ (IsS104.ge HI248.out) | refine pS ?_ GE244.out) | exact HB.out)); rintro e w47 ⟨rfl, hi, hb, hk⟩; refine ⟨_, rfl, ?_⟩; have n0_ := q_ (KeepBut.blk hk (g' := gb244) (by (with_reducible repeat (first | refine bN ?_ _ | refine bW ?_ | refine bA ?_ _)); exact BK244.out) NB244_248.out (by simp)); have n1_ := q_ (hb); have n2_ := q_ (hi); clear BK244; clear HB; clear HI248; have BK244 := n0_; have HB := n1_; have HI248 := n2_; clear n0_ n1_ n2_; (try clear hb); (try clear hb2); (try clear hk); (try clear hi)) | ((with_reducible refine gate_dst (N := 5) rfl ?_); (try (refine gate_guard (by rfl) ?_; dsimp only)); refine box_event ?hg (N := 5) ?hd (cs := #[.string (⟨#[]⟩ : ByteArray), .string (⟨#[]⟩ : ByteArray), .int .i64 0, .int .i64 0, .int .i64 0, .int .i64 0, .int .i64 0, .int .i64 0, .int .i64 0, .int .i64 0, .int .i64 0]) (t := 23) ?hr ?_; (case hd => rfl); (case hg => rfl); (case hr => first | (go_simp; done) | (go_simp; rfl)); intro gb257 hg w48 hbox hb; have n0_ := q_ (bB (g := gb244) (by (with_reducible repeat (first | refine bN ?_ _ | refine bW ?_ | refine bA ?_ _)); exact BK244.out) hb); have n1_ := q_ (IsS104.below (by repeat (first | (with_reducible first | exact HI248.out | apply IsS104.alloc | apply IsS104.drewN | apply IsS104.drew | apply IsS104.set_0 | apply IsS104.set_1 | apply IsS104.set_2 | refine IsS104.far ?_ NB248_244.out _) | exact HI248.out)) hb); have n2_ := q_ (pT (by repeat (first | (with_reducible first | exact HB.out | apply pA | apply pN | apply p1 | refine pS ?_ (IsS104.ge HI248.out) | refine pS ?_ GE244.out) | exact HB.out)) hb); have n3_ := q_ (hbox); have n4_ := q_ ((by rw [hg]; exact (pZ (by repeat (first | (with_reducible first | exact HB.out | apply pA | apply pN | apply p1 | refine pS ?_ (IsS104.ge HI248.out) | refine pS ?_ GE244.out) | exact HB.out))) : w.heap.size ≤ gb257)); have n5_ := n4_; have n6_ := q_ ((by rw [hg]; exact Nat.ne_of_lt (blk_lt (g := gb244) (by (with_reducible repeat (first | refine bN ?_ _ | refine bW ?_ | refine bA ?_ _)); exact BK244.out)) : gb244 ≠ gb257)); have n7_ := q_ ((by rw [hg]; exact Nat.ne_of_gt (blk_lt (g := gb244) (by (with_reducible repeat (first | refine bN ?_ _ | refine bW ?_ | refine bA ?_ _)); exact BK244.out)) : gb257 ≠ gb244)); have n8_ := q_ ((by rw [hg]; exact Nat.ne_of_lt (IsS104.lt (show IsS104 w _ g248 t254 t255 t256 from by repeat (first | (with_reducible first | exact HI248.out | apply IsS104.alloc | apply IsS104.drewN | apply IsS104.drew | apply IsS104.set_0 | apply IsS104.set_1 | apply IsS104.set_2 | refine IsS104.far ?_ NB248_244.out _) | exact HI248.out))) : g248 ≠ gb257)); have n9_ := q_ ((by rw [hg]; exact Nat.ne_of_gt (IsS104.lt (show IsS104 w _ g248 t254 t255 t256 from by repeat (first | (with_reducible first | exact HI248.out | apply IsS104.alloc | apply IsS104.drewN | apply IsS104.drew | apply IsS104.set_0 | apply IsS104.set_1 | apply IsS104.set_2 | refine IsS104.far ?_ NB248_244.out _) | exact HI248.out))) : gb257 ≠ g248)); clear BK244; clear HI248; clear HB; have BK244 := n0_; have HI248 := n1_; have HB := n2_; have BK257 := n3_; have GW257 := n4_; have GE257 := n5_; have NB244_257 := n6_; have NB257_244 := n7_; have NB248_257 := n8_; have NB257_248 := n9_; clear n0_ n1_ n2_ n3_ n4_ n5_ n6_ n7_ n8_ n9_; clear hb hbox hg; have hnb49 := NB257_244.out; have hnc49 := NB244_257.out; have hnb50 := NB257_248.out; have hnc50 := NB248_257.out; have hcz51 := blk_all BK257.out; simp only [CellsAt, List.toList_toArray, Nat.reduceAdd, and_true] at hcz51; have hfz51 := bF BK257.out) | ((with_reducible refine gate_callee (f := 53) rfl ?_); refine goesL_ (some 15) rfl rfl Tryd.func53 (by kernel_rfl) rfl #[.pointer (some ⟨g248, 0, none⟩), .int .i64 9, .int .i64 (-1099511627776), .int .i64 1099511627776] rfl (by first | rfl | (simp only [List.map_toArray]; rfl)) ?_; (with_reducible refine (wire_Reader_Ints.calls k g248 t254 t255 t256 9 (-1099511627776) 1099511627776 t258 t261 t262 t263 w _ ?side1 ?side2 A5.out).mono ?_); (case side1 => repeat (first | (with_reducible first | exact HI248.out | apply IsS104.alloc | apply IsS104.drewN | apply IsS104.drew | apply IsS104.set_0 | apply IsS104.set_1 | apply IsS104.set_2 | refine IsS104.far ?_ NB248_244.out _ | refine IsS104.far ?_ NB248_257.out _) | exact HI248.out)); (case side2 => repeat (first | (with_reducible first | exact HB.out | apply pA | apply pN | apply p1 | refine pS ?_ (IsS104.ge HI248.out) | refine pS ?_ GE244.out | refine pS ?_ GE257.out) | exact HB.out)); rintro e w52 ⟨v259, rfl, ho0, hi, hb, hk⟩; refine ⟨_, rfl, ?_⟩; have n0_ := q_ (KeepBut.blk hk (g' := gb244) (o := .cells #[.string (⟨#[]⟩ : ByteArray), .string (⟨#[]⟩ : ByteArray), .int .i64 0, .int .i64 0, .int .i64 0, .int .i64 0, .int .i64 0, .int .i64 0, .int .i64 0, .int .i64 0, .int .i64 0] 23 (0, 0)) (by (with_reducible repeat (first | refine bN ?_ _ | refine bW ?_ | refine bA ?_ _)); refine blk_far ?_ NB244_257.out _; (with_reducible repeat (first | refine bN ?_ _ | refine bW ?_ | refine bA ?_ _)); refine blk_far ?_ NB244_257.out _; (with_reducible repeat (first | refine bN ?_ _ | refine bW ?_ | refine bA ?_ _)); refine blk_far ?_ NB244_257.out _; (with_reducible repeat (first | refine bN ?_ _ | refine bW ?_ | refine bA ?_ _)); refine blk_far ?_ NB244_257.out _; (with_reducible repeat (first | refine bN ?_ _ | refine bW ?_ | refine bA ?_ _)); refine blk_far ?_ NB244_257.out _; (with_reducible repeat (first | refine bN ?_ _ | refine bW ?_ | refine bA ?_ _)); refine blk_far ?_ NB244_257.out _; (with_reducible repeat (first | refine bN ?_ _ | refine bW ?_ | refine bA ?_ _)); refine blk_far ?_ NB244_257.out _; (with_reducible repeat (first | refine bN ?_ _ | refine bW ?_ | refine bA ?_ _)); refine blk_far ?_ NB244_257.out _; (with_reducible repeat (first | refine bN ?_ _ | refine bW ?_ | refine bA ?_ _)); refine blk_far ?_ NB244_257.out _; (with_reducible repeat (first | refine bN ?_ _ | refine bW ?_ | refine bA ?_ _)); refine blk_far ?_ NB244_257.out _; (with_reducible repeat (first | refine bN ?_ _ | refine bW ?_ | refine bA ?_ _)); refine blk_far ?_ NB244_257.out _; (with_reducible repeat (first | refine bN ?_ _ | refine bW ?_ | refine bA ?_ _)); exact BK244.out) NB244_248.out (by simp)); have n1_ := q_ (KeepBut.blk hk (g' := gb257) (o := .cells #[.string t249, .string t253, .int .i64 0, .int .i64 0, .int .i64 0, .int .i64 0, .int .i64 0, .int .i64 0, .int .i64 0, .int .i64 0, .int .i64 0] 23 (0, 0)) (by (with_reducible repeat (first | refine bN ?_ _ | refine bW ?_ | refine bA ?_ _)); refine blk_put (cs := #[.string t249, .string t253, .int .i64 0, .int .i64 0, .int .i64 0, .int .i64 0, .int .i64 0, .int .i64 0, .int .i64 0, .int .i64 0, .int .i64 0]) ?_ 10 _ rfl; (with_reducible repeat (first | refine bN ?_ _ | refine bW ?_ | refine bA ?_ _)); refine blk_put (cs := #[.string t249, .string t253, .int .i64 0, .int .i64 0, .int .i64 0, .int .i64 0, .int .i64 0, .int .i64 0, .int .i64 0, .int .i64 0, .int .i64 0]) ?_ 9 _ rfl; (with_reducible repeat (first | refine bN ?_ _ | refine bW ?_ | refine bA ?_ _)); refine blk_put (cs := #[.string t249, .string t253, .int .i64 0, .int .i64 0, .int .i64 0, .int .i64 0, .int .i64 0, .int .i64 0, .int .i64 0, .int .i64 0, .int .i64 0]) ?_ 8 _ rfl; (with_reducible repeat (first | refine bN ?_ _ | refine bW ?_ | refine bA ?_ _)); refine blk_put (cs := #[.string t249, .string t253, .int .i64 0, .int .i64 0, .int .i64 0, .int .i64 0, .int .i64 0, .int .i64 0, .int .i64 0, .int .i64 0, .int .i64 0]) ?_ 7 _ rfl; (with_reducible repeat (first | refine bN ?_ _ | refine bW ?_ | refine bA ?_ _)); refine blk_put (cs := #[.string t249, .string t253, .int .i64 0, .int .i64 0, .int .i64 0, .int .i64 0, .int .i64 0, .int .i64 0, .int .i64 0, .int .i64 0, .int .i64 0]) ?_ 6 _ rfl; (with_reducible repeat (first | refine bN ?_ _ | refine bW ?_ | refine bA ?_ _)); refine blk_put (cs := #[.string t249, .string t253, .int .i64 0, .int .i64 0, .int .i64 0, .int .i64 0, .int .i64 0, .int .i64 0, .int .i64 0, .int .i64 0, .int .i64 0]) ?_ 5 _ rfl; (with_reducible repeat (first | refine bN ?_ _ | refine bW ?_ | refine bA ?_ _)); refine blk_put (cs := #[.string t249, .string t253, .int .i64 0, .int .i64 0, .int .i64 0, .int .i64 0, .int .i64 0, .int .i64 0, .int .i64 0, .int .i64 0, .int .i64 0]) ?_ 4 _ rfl; (with_reducible repeat (first | refine bN ?_ _ | refine bW ?_ | refine bA ?_ _)); refine blk_put (cs := #[.string t249, .string t253, .int .i64 0, .int .i64 0, .int .i64 0, .int .i64 0, .int .i64 0, .int .i64 0, .int .i64 0, .int .i64 0, .int .i64 0]) ?_ 3 _ rfl; (with_reducible repeat (first | refine bN ?_ _ | refine bW ?_ | refine bA ?_ _)); refine blk_put (cs := #[.string t249, .string t253, .int .i64 0, .int .i64 0, .int .i64 0, .int .i64 0, .int .i64 0, .int .i64 0, .int .i64 0, .int .i64 0, .int .i64 0]) ?_ 2 _ rfl; (with_reducible repeat (first | refine bN ?_ _ | refine bW ?_ | refine bA ?_ _)); refine blk_put (cs := #[.string t249, .string (⟨#[]⟩ : ByteArray), .int .i64 0, .int .i64 0, .int .i64 0, .int .i64 0, .int .i64 0, .int .i64 0, .int .i64 0, .int .i64 0, .int .i64 0]) ?_ 1 _ rfl; (with_reducible repeat (first | refine bN ?_ _ | refine bW ?_ | refine bA ?_ _)); refine blk_put (cs := #[.string (⟨#[]⟩ : ByteArray), .string (⟨#[]⟩ : ByteArray), .int .i64 0, .int .i64 0, .int .i64 0, .int .i64 0, .int .i64 0, .int .i64 0, .int .i64 0, .int .i64 0, .int .i64 0]) ?_ 0 _ rfl; (with_reducible repeat (first | refine bN ?_ _ | refine bW ?_ | refine bA ?_ _)); exact BK257.out) NB257_248.out (by simp)); have n2_ := q_ (Kd.R_lower ho0 (pZ (by repeat (first | (with_reducible first | exact HB.out | apply pA | apply pN | apply p1 | refine pS ?_ (IsS104.ge HI248.out) | refine pS ?_ GE244.out | refine pS ?_ GE257.out) | exact HB.out)))); have n3_ := q_ (hb); have n4_ := q_ (hi); clear BK244; clear BK257; clear HB; clear HI248; have BK244 := n0_; have BK257 := n1_; have HO260 := n2_; have HB := n3_; have HI248 := n4_; clear n0_ n1_ n2_ n3_ n4_; (try clear hb); (try clear hb2); (try clear hk); (try clear hi); (try clear ho0)) | ((with_reducible refine gate_callee (f := 54) rfl ?_); refine goesL_ (some 17) rfl rfl Tryd.func54 (by kernel_rfl) rfl #[.pointer (some ⟨g248, 0, none⟩)] rfl (by first | rfl | (simp only [List.map_toArray]; rfl)) ?_; (with_reducible refine (wire_Reader_End.calls g248 t261 t262 t263 t264 t265 t266 t267 w _ ?side1 ?side2 A6.out).mono ?_); (case side1 => repeat (first | (with_reducible first | exact HI248.out | apply IsS104.alloc | apply IsS104.drewN | apply IsS104.drew | apply IsS104.set_0 | apply IsS104.set_1 | apply IsS104.set_2 | refine IsS104.far ?_ NB248_244.out _ | refine IsS104.far ?_ NB248_257.out _) | exact HI248.out)); (case side2 => repeat (first | (with_reducible first | exact HB.out | apply pA | apply pN | apply p1 | refine pS ?_ (IsS104.ge HI248.out) | refine pS ?_ GE244.out | refine pS ?_ GE257.out) | exact HB.out)); rintro e w53 ⟨rfl, hi, hb, hk⟩; refine ⟨_, rfl, ?_⟩; have n0_ := q_ (KeepBut.blk hk (g' := gb244) (by (with_reducible repeat (first | refine bN ?_ _ | refine bW ?_ | refine bA ?_ _)); exact BK244.out) NB244_248.out (by simp)); have n1_ := q_ (KeepBut.blk hk (g' := gb257) (by (with_reducible repeat (first | refine bN ?_ _ | refine bW ?_ | refine bA ?_ _)); exact BK257.out) NB257_248.out (by simp)); have n2_ := q_ (Kd.R_mono (Kd.R_keep (IsS104.apart (show IsS104 w _ g248 t261 t262 t263 from by repeat (first | (with_reducible first | exact HI248.out | apply IsS104.alloc | apply IsS104.drewN | apply IsS104.drew | apply IsS104.set_0 | apply IsS104.set_1 | apply IsS104.set_2 | refine IsS104.far ?_ NB248_244.out _ | refine IsS104.far ?_ NB248_257.out _) | exact HI248.out)) (by (with_reducible repeat (first | apply Kd.R_alloc | apply Kd.R_drewN | apply Kd.R_drew)); exact HO260.out) (by decide)) hk (fun _ h => h.2)) (fun _ h => h.1)); have n3_ := q_ (hb); have n4_ := q_ (hi); clear BK244; clear BK257; clear HO260; clear HB; clear HI248; have BK244 := n0_; have BK257 := n1_; have HO260 := n2_; have HB := n3_; have HI248 := n4_; clear n0_ n1_ n2_ n3_ n4_; (try clear hb); (try clear hb2); (try clear hk); (try clear hi); obtain ⟨Ao54, co54, eo54⟩ := Kd.R_slice HO260.out; subst eo54; have hnb55 := NB244_248.out; have hnc55 := NB248_244.out; have hcz56 := blk_all BK244.out; simp only [CellsAt, List.toList_toArray, Nat.reduceAdd, and_true] at hcz56; have hfz56 := bF BK244.out))
   refine bodyPost_ret (results_ct rfl _ _ gb244 23 #[.string (⟨#[]⟩ : ByteArray), .string (⟨#[]⟩ : ByteArray), .int .i64 0, .int .i64 0, .int .i64 0, .int .i64 0, .int .i64 0, .int .i64 0, .int .i64 0, .int .i64 0, .int .i64 0] (0, 0) _ rfl (by (with_reducible repeat (first | refine bN ?_ _ | refine bW ?_ | refine bA ?_ _)); refine blk_put (cs := #[.string (⟨#[]⟩ : ByteArray), .string (⟨#[]⟩ : ByteArray), .int .i64 0, .int .i64 0, .int .i64 0, .int .i64 0, .int .i64 0, .int .i64 0, .int .i64 0, .int .i64 0, .int .i64 0]) ?_ 10 _ rfl; (with_reducible repeat (first | refine bN ?_ _ | refine bW ?_ | refine bA ?_ _)); refine blk_put (cs := #[.string (⟨#[]⟩ : ByteArray), .string (⟨#[]⟩ : ByteArray), .int .i64 0, .int .i64 0, .int .i64 0, .int .i64 0, .int .i64 0, .int .i64 0, .int .i64 0, .int .i64 0, .int .i64 0]) ?_ 9 _ rfl; (with_reducible repeat (first | refine bN ?_ _ | refine bW ?_ | refine bA ?_ _)); refine blk_put (cs := #[.string (⟨#[]⟩ : ByteArray), .string (⟨#[]⟩ : ByteArray), .int .i64 0, .int .i64 0, .int .i64 0, .int .i64 0, .int .i64 0, .int .i64 0, .int .i64 0, .int .i64 0, .int .i64 0]) ?_ 8 _ rfl; (with_reducible repeat (first | refine bN ?_ _ | refine bW ?_ | refine bA ?_ _)); refine blk_put (cs := #[.string (⟨#[]⟩ : ByteArray), .string (⟨#[]⟩ : ByteArray), .int .i64 0, .int .i64 0, .int .i64 0, .int .i64 0, .int .i64 0, .int .i64 0, .int .i64 0, .int .i64 0, .int .i64 0]) ?_ 7 _ rfl; (with_reducible repeat (first | refine bN ?_ _ | refine bW ?_ | refine bA ?_ _)); refine blk_put (cs := #[.string (⟨#[]⟩ : ByteArray), .string (⟨#[]⟩ : ByteArray), .int .i64 0, .int .i64 0, .int .i64 0, .int .i64 0, .int .i64 0, .int .i64 0, .int .i64 0, .int .i64 0, .int .i64 0]) ?_ 6 _ rfl; (with_reducible repeat (first | refine bN ?_ _ | refine bW ?_ | refine bA ?_ _)); refine blk_put (cs := #[.string (⟨#[]⟩ : ByteArray), .string (⟨#[]⟩ : ByteArray), .int .i64 0, .int .i64 0, .int .i64 0, .int .i64 0, .int .i64 0, .int .i64 0, .int .i64 0, .int .i64 0, .int .i64 0]) ?_ 5 _ rfl; (with_reducible repeat (first | refine bN ?_ _ | refine bW ?_ | refine bA ?_ _)); refine blk_put (cs := #[.string (⟨#[]⟩ : ByteArray), .string (⟨#[]⟩ : ByteArray), .int .i64 0, .int .i64 0, .int .i64 0, .int .i64 0, .int .i64 0, .int .i64 0, .int .i64 0, .int .i64 0, .int .i64 0]) ?_ 4 _ rfl; (with_reducible repeat (first | refine bN ?_ _ | refine bW ?_ | refine bA ?_ _)); refine blk_put (cs := #[.string (⟨#[]⟩ : ByteArray), .string (⟨#[]⟩ : ByteArray), .int .i64 0, .int .i64 0, .int .i64 0, .int .i64 0, .int .i64 0, .int .i64 0, .int .i64 0, .int .i64 0, .int .i64 0]) ?_ 3 _ rfl; (with_reducible repeat (first | refine bN ?_ _ | refine bW ?_ | refine bA ?_ _)); refine blk_put (cs := #[.string (⟨#[]⟩ : ByteArray), .string (⟨#[]⟩ : ByteArray), .int .i64 0, .int .i64 0, .int .i64 0, .int .i64 0, .int .i64 0, .int .i64 0, .int .i64 0, .int .i64 0, .int .i64 0]) ?_ 2 _ rfl; (with_reducible repeat (first | refine bN ?_ _ | refine bW ?_ | refine bA ?_ _)); refine blk_put (cs := #[.string (⟨#[]⟩ : ByteArray), .string (⟨#[]⟩ : ByteArray), .int .i64 0, .int .i64 0, .int .i64 0, .int .i64 0, .int .i64 0, .int .i64 0, .int .i64 0, .int .i64 0, .int .i64 0]) ?_ 1 _ rfl; (with_reducible repeat (first | refine bN ?_ _ | refine bW ?_ | refine bA ?_ _)); refine blk_put (cs := #[.string (⟨#[]⟩ : ByteArray), .string (⟨#[]⟩ : ByteArray), .int .i64 0, .int .i64 0, .int .i64 0, .int .i64 0, .int .i64 0, .int .i64 0, .int .i64 0, .int .i64 0, .int .i64 0]) ?_ 0 _ rfl; (with_reducible repeat (first | refine bN ?_ _ | refine bW ?_ | refine bA ?_ _)); exact BK244.out) Tryd.underlying23 rfl (by kernel_rfl)) rfl ?_
   exact ⟨by first | rfl | (simp [*] <;> rfl), by repeat (first | (with_reducible first | exact HB.out | apply pA | apply pN | apply p1 | refine pS ?_ (IsS104.ge HI248.out) | refine pS ?_ GE244.out | refine pS ?_ GE257.out) | exact HB.out)⟩
 ·rw [if_neg c7] at H
  have c7b0 : (t264 == 0) = false := oC c7
  have c7b1 : (t264 != 0) = true := bne_iff_ne.mpr c7
  simp only [Option.some.injEq, Prod.mk.injEq] at H
  obtain ⟨rfl, rfl, rfl, rfl, rfl, rfl, rfl, rfl, rfl, rfl, rfl, rfl⟩ := H
  go_enter Tryd.func24, Tryd.ntmps24
  go_wp2_with (first | (refine wpList_load_cells (by rfl) 23 _ (by exact rfl) ⟨gb244, 0, none⟩ (by rfl) _ _ (cells_of_blk (by (with_reducible repeat (first | refine bN ?_ _ | refine bW ?_ | refine bA ?_ _)); exact BK244.out)) Tryd.underlying23 rfl (by kernel_rfl) ?_) | (refine wpList_load_cells (by rfl) 23 _ (by exact rfl) ⟨gb257, 0, none⟩ (by rfl) _ _ (cells_of_blk (by (with_reducible repeat (first | refine bN ?_ _ | refine bW ?_ | refine bA ?_ _)); exact BK257.out)) Tryd.underlying23 rfl (by kernel_rfl) ?_) | ((with_reducible refine gate_dst (N := 2) rfl ?_); (try (refine gate_guard (by rfl) ?_; dsimp only)); refine box_event ?hg (N := 2) ?hd (cs := #[.string (⟨#[]⟩ : ByteArray), .string (⟨#[]⟩ : ByteArray), .int .i64 0, .int .i64 0, .int .i64 0, .int .i64 0, .int .i64 0, .int .i64 0, .int .i64 0, .int .i64 0, .int .i64 0]) (t := 23) ?hr ?_; (case hd => rfl); (case hg => rfl); (case hr => first | (go_simp; done) | (go_simp; rfl)); intro gb244 hg w57 hbox hb; have n0_ := q_ (pT (by repeat (first | (with_reducible first | exact HB.out | apply pA | apply pN | apply p1) | exact HB.out)) hb); have n1_ := q_ (hbox); have n2_ := q_ ((by rw [hg]; exact (pZ (by repeat (first | (with_reducible first | exact HB.out | apply pA | apply pN | apply p1) | exact HB.out))) : w.heap.size ≤ gb244)); have n3_ := n2_; clear HB; have HB := n0_; have BK244 := n1_; have GW244 := n2_; have GE244 := n3_; clear n0_ n1_ n2_ n3_; clear hb hbox hg) | ((with_reducible refine gate_callee (f := 51) rfl ?_); refine goesL_ (some 8) rfl rfl Tryd.func51 (by kernel_rfl) rfl #[.string a0] rfl (by first | rfl | (simp only [List.map_toArray]; rfl)) ?_; (with_reducible refine (wire_NewReader.calls a0 t245 t246 t247 w _ ?side1 A2.out).mono ?_); (case side1 => repeat (first | (with_reducible first | exact HB.out | apply pA | apply pN | apply p1 | refine pS ?_ GE244.out) | exact HB.out)); rintro e w58 ⟨g248, rfl, hi, hb, hb2⟩; refine ⟨_, rfl, ?_⟩; have n0_ := q_ (bB (g := gb244) (by (with_reducible repeat (first | refine bN ?_ _ | refine bW ?_ | refine bA ?_ _)); exact BK244.out) hb2); have n1_ := q_ (hb); have n2_ := q_ (hi); have n3_ := q_ (IsS104.ne_blk hi (bB (g := gb244) (by (with_reducible repeat (first | refine bN ?_ _ | refine bW ?_ | refine bA ?_ _)); exact BK244.out) hb2) (by decide)); have n4_ := q_ (Ne.symm (IsS104.ne_blk hi (bB (g := gb244) (by (with_reducible repeat (first | refine bN ?_ _ | refine bW ?_ | refine bA ?_ _)); exact BK244.out) hb2) (by decide))); clear BK244; clear HB; have BK244 := n0_; have HB := n1_; have HI248 := n2_; have NB248_244 := n3_; have NB244_248 := n4_; clear n0_ n1_ n2_ n3_ n4_; (try clear hb); (try clear hb2); (try clear hk); (try clear hi)) | ((with_reducible refine gate_callee (f := 52) rfl ?_); refine goesL_ (some 10) rfl rfl Tryd.func52 (by kernel_rfl) rfl #[.pointer (some ⟨g248, 0, none⟩), .int .i64 16] rfl (by first | rfl | (simp only [List.map_toArray]; rfl)) ?_; (with_reducible refine (wire_Reader_Text.calls k g248 t245 t246 t247 16 t249 t250 t251 t252 w _ ?side1 ?side2 A3.out).mono ?_); (case side1 => repeat (first | (with_reducible first | exact HI248.out | apply IsS104.alloc | apply IsS104.drewN | apply IsS104.drew | apply IsS104.set_0 | apply IsS104.set_1 | apply IsS104.set_2 | refine IsS104.far ?_ NB248_244.out _) | exact HI248.out)); (case side2 => repeat (first | (with_reducible first | exact HB.out | apply pA | apply pN | apply p1 | refine pS ?_ (IsS104.ge HI248.out) | refine pS ?_ GE244.out) | exact HB.out)); rintro e w59 ⟨rfl, hi, hb, hk⟩; refine ⟨_, rfl, ?_⟩; have n0_ := q_ (KeepBut.blk hk (g' := gb244) (by (with_reducible repeat (first | refine bN ?_ _ | refine bW ?_ | refine bA ?_ _)); exact BK244.out) NB244_248.out (by simp)); have n1_ := q_ (hb); have n2_ := q_ (hi); clear BK244; clear HB; clear HI248; have BK244 := n0_; have HB := n1_; have HI248 := n2_; clear n0_ n1_ n2_; (try clear hb); (try clear hb2); (try clear hk); (try clear hi)) | ((with_reducible refine gate_callee (f := 52) rfl ?_); refine goesL_ (some 12) rfl rfl Tryd.func52 (by kernel_rfl) rfl #[.pointer (some ⟨g248, 0, none⟩), .int .i64 16] rfl (by first | rfl | (simp only [List.map_toArray]; rfl)) ?_; (with_reducible refine (wire_Reader_Text.calls k g248 t250 t251 t252 16 t253 t254 t255 t256 w _ ?side1 ?side2 A4.out).mono ?_); (case side1 => repeat (first | (with_reducible first | exact HI248.out | apply IsS104.alloc | apply IsS104.drewN | apply IsS104.drew | apply IsS104.set_0 | apply IsS104.set_1 | apply IsS104.set_2 | refine IsS104.far ?_ NB248_244.out _) | exact HI248.out)); (case side2 => repeat (first | (with_reducible first | exact HB.out | apply pA | apply pN | apply p1 | refine pS ?_ (IsS104.ge HI248.out) | refine pS ?_ GE244.out) | exact HB.out)); rintro e w60 ⟨rfl, hi, hb, hk⟩; refine ⟨_, rfl, ?_⟩; have n0_ := q_ (KeepBut.blk hk (g' := gb244) (by (with_reducible repeat (first | refine bN ?_ _ | refine bW ?_ | refine bA ?_ _)); exact BK244.out) NB244_248.out (by simp)); have n1_ := q_ (hb); have n2_ := q_ (hi); clear BK244; clear HB; clear HI248; have BK244 := n0_; have HB := n1_; have HI248 := n2_; clear n0_ n1_ n2_; (try clear hb); (try clear hb2); (try clear hk); (try clear hi)) | ((with_reducible refine gate_dst (N := 5) rfl ?_); (try (refine gate_guard (by rfl) ?_; dsimp only)); refine box_event ?hg (N := 5) ?hd (cs := #[.string (⟨#[]⟩ : ByteArray), .string (⟨#[]⟩ : ByteArray), .int .i64 0, .int .i64 0, .int .i64 0, .int .i64 0, .int .i64 0, .int .i64 0, .int .i64 0, .int .i64 0, .int .i64 0]) (t := 23) ?hr ?_; (case hd => rfl); (case hg => rfl); (case hr => first | (go_simp; done) | (go_simp; rfl)); intro gb257 hg w61 hbox hb; have n0_ := q_ (bB (g := gb244) (by (with_reducible repeat (first | refine bN ?_ _ | refine bW ?_ | refine bA ?_ _)); exact BK244.out) hb); have n1_ := q_ (IsS104.below (by repeat (first | (with_reducible first | exact HI248.out | apply IsS104.alloc | apply IsS104.drewN | apply IsS104.drew | apply IsS104.set_0 | apply IsS104.set_1 | apply IsS104.set_2 | refine IsS104.far ?_ NB248_244.out _) | exact HI248.out)) hb); have n2_ := q_ (pT (by repeat (first | (with_reducible first | exact HB.out | apply pA | apply pN | apply p1 | refine pS ?_ (IsS104.ge HI248.out) | refine pS ?_ GE244.out) | exact HB.out)) hb); have n3_ := q_ (hbox); have n4_ := q_ ((by rw [hg]; exact (pZ (by repeat (first | (with_reducible first | exact HB.out | apply pA | apply pN | apply p1 | refine pS ?_ (IsS104.ge HI248.out) | refine pS ?_ GE244.out) | exact HB.out))) : w.heap.size ≤ gb257)); have n5_ := n4_; have n6_ := q_ ((by rw [hg]; exact Nat.ne_of_lt (blk_lt (g := gb244) (by (with_reducible repeat (first | refine bN ?_ _ | refine bW ?_ | refine bA ?_ _)); exact BK244.out)) : gb244 ≠ gb257)); have n7_ := q_ ((by rw [hg]; exact Nat.ne_of_gt (blk_lt (g := gb244) (by (with_reducible repeat (first | refine bN ?_ _ | refine bW ?_ | refine bA ?_ _)); exact BK244.out)) : gb257 ≠ gb244)); have n8_ := q_ ((by rw [hg]; exact Nat.ne_of_lt (IsS104.lt (show IsS104 w _ g248 t254 t255 t256 from by repeat (first | (with_reducible first | exact HI248.out | apply IsS104.alloc | apply IsS104.drewN | apply IsS104.drew | apply IsS104.set_0 | apply IsS104.set_1 | apply IsS104.set_2 | refine IsS104.far ?_ NB248_244.out _) | exact HI248.out))) : g248 ≠ gb257)); have n9_ := q_ ((by rw [hg]; exact Nat.ne_of_gt (IsS104.lt (show IsS104 w _ g248 t254 t255 t256 from by repeat (first | (with_reducible first | exact HI248.out | apply IsS104.alloc | apply IsS104.drewN | apply IsS104.drew | apply IsS104.set_0 | apply IsS104.set_1 | apply IsS104.set_2 | refine IsS104.far ?_ NB248_244.out _) | exact HI248.out))) : gb257 ≠ g248)); clear BK244; clear HI248; clear HB; have BK244 := n0_; have HI248 := n1_; have HB := n2_; have BK257 := n3_; have GW257 := n4_; have GE257 := n5_; have NB244_257 := n6_; have NB257_244 := n7_; have NB248_257 := n8_; have NB257_248 := n9_; clear n0_ n1_ n2_ n3_ n4_ n5_ n6_ n7_ n8_ n9_; clear hb hbox hg; have hnb62 := NB257_244.out; have hnc62 := NB244_257.out; have hnb63 := NB257_248.out; have hnc63 := NB248_257.out; have hcz64 := blk_all BK257.out; simp only [CellsAt, List.toList_toArray, Nat.reduceAdd, and_true] at hcz64; have hfz64 := bF BK257.out) | ((with_reducible refine gate_callee (f := 53) rfl ?_); refine goesL_ (some 15) rfl rfl Tryd.func53 (by kernel_rfl) rfl #[.pointer (some ⟨g248, 0, none⟩), .int .i64 9, .int .i64 (-1099511627776), .int .i64 1099511627776] rfl (by first | rfl | (simp only [List.map_toArray]; rfl)) ?_; (with_reducible refine (wire_Reader_Ints.calls k g248 t254 t255 t256 9 (-1099511627776) 1099511627776 t258 t261 t262 t263 w _ ?side1 ?side2 A5.out).mono ?_); (case side1 => repeat (first | (with_reducible first | exact HI248.out | apply IsS104.alloc | apply IsS104.drewN | apply IsS104.drew | apply IsS104.set_0 | apply IsS104.set_1 | apply IsS104.set_2 | refine IsS104.far ?_ NB248_244.out _ | refine IsS104.far ?_ NB248_257.out _) | exact HI248.out)); (case side2 => repeat (first | (with_reducible first | exact HB.out | apply pA | apply pN | apply p1 | refine pS ?_ (IsS104.ge HI248.out) | refine pS ?_ GE244.out | refine pS ?_ GE257.out) | exact HB.out)); rintro e w65 ⟨v259, rfl, ho0, hi, hb, hk⟩; refine ⟨_, rfl, ?_⟩; have n0_ := q_ (KeepBut.blk hk (g' := gb244) (o := .cells #[.string (⟨#[]⟩ : ByteArray), .string (⟨#[]⟩ : ByteArray), .int .i64 0, .int .i64 0, .int .i64 0, .int .i64 0, .int .i64 0, .int .i64 0, .int .i64 0, .int .i64 0, .int .i64 0] 23 (0, 0)) (by (with_reducible repeat (first | refine bN ?_ _ | refine bW ?_ | refine bA ?_ _)); refine blk_far ?_ NB244_257.out _; (with_reducible repeat (first | refine bN ?_ _ | refine bW ?_ | refine bA ?_ _)); refine blk_far ?_ NB244_257.out _; (with_reducible repeat (first | refine bN ?_ _ | refine bW ?_ | refine bA ?_ _)); refine blk_far ?_ NB244_257.out _; (with_reducible repeat (first | refine bN ?_ _ | refine bW ?_ | refine bA ?_ _)); refine blk_far ?_ NB244_257.out _; (with_reducible repeat (first | refine bN ?_ _ | refine bW ?_ | refine bA ?_ _)); refine blk_far ?_ NB244_257.out _; (with_reducible repeat (first | refine bN ?_ _ | refine bW ?_ | refine bA ?_ _)); refine blk_far ?_ NB244_257.out _; (with_reducible repeat (first | refine bN ?_ _ | refine bW ?_ | refine bA ?_ _)); refine blk_far ?_ NB244_257.out _; (with_reducible repeat (first | refine bN ?_ _ | refine bW ?_ | refine bA ?_ _)); refine blk_far ?_ NB244_257.out _; (with_reducible repeat (first | refine bN ?_ _ | refine bW ?_ | refine bA ?_ _)); refine blk_far ?_ NB244_257.out _; (with_reducible repeat (first | refine bN ?_ _ | refine bW ?_ | refine bA ?_ _)); refine blk_far ?_ NB244_257.out _; (with_reducible repeat (first | refine bN ?_ _ | refine bW ?_ | refine bA ?_ _)); refine blk_far ?_ NB244_257.out _; (with_reducible repeat (first | refine bN ?_ _ | refine bW ?_ | refine bA ?_ _)); exact BK244.out) NB244_248.out (by simp)); have n1_ := q_ (KeepBut.blk hk (g' := gb257) (o := .cells #[.string t249, .string t253, .int .i64 0, .int .i64 0, .int .i64 0, .int .i64 0, .int .i64 0, .int .i64 0, .int .i64 0, .int .i64 0, .int .i64 0] 23 (0, 0)) (by (with_reducible repeat (first | refine bN ?_ _ | refine bW ?_ | refine bA ?_ _)); refine blk_put (cs := #[.string t249, .string t253, .int .i64 0, .int .i64 0, .int .i64 0, .int .i64 0, .int .i64 0, .int .i64 0, .int .i64 0, .int .i64 0, .int .i64 0]) ?_ 10 _ rfl; (with_reducible repeat (first | refine bN ?_ _ | refine bW ?_ | refine bA ?_ _)); refine blk_put (cs := #[.string t249, .string t253, .int .i64 0, .int .i64 0, .int .i64 0, .int .i64 0, .int .i64 0, .int .i64 0, .int .i64 0, .int .i64 0, .int .i64 0]) ?_ 9 _ rfl; (with_reducible repeat (first | refine bN ?_ _ | refine bW ?_ | refine bA ?_ _)); refine blk_put (cs := #[.string t249, .string t253, .int .i64 0, .int .i64 0, .int .i64 0, .int .i64 0, .int .i64 0, .int .i64 0, .int .i64 0, .int .i64 0, .int .i64 0]) ?_ 8 _ rfl; (with_reducible repeat (first | refine bN ?_ _ | refine bW ?_ | refine bA ?_ _)); refine blk_put (cs := #[.string t249, .string t253, .int .i64 0, .int .i64 0, .int .i64 0, .int .i64 0, .int .i64 0, .int .i64 0, .int .i64 0, .int .i64 0, .int .i64 0]) ?_ 7 _ rfl; (with_reducible repeat (first | refine bN ?_ _ | refine bW ?_ | refine bA ?_ _)); refine blk_put (cs := #[.string t249, .string t253, .int .i64 0, .int .i64 0, .int .i64 0, .int .i64 0, .int .i64 0, .int .i64 0, .int .i64 0, .int .i64 0, .int .i64 0]) ?_ 6 _ rfl; (with_reducible repeat (first | refine bN ?_ _ | refine bW ?_ | refine bA ?_ _)); refine blk_put (cs := #[.string t249, .string t253, .int .i64 0, .int .i64 0, .int .i64 0, .int .i64 0, .int .i64 0, .int .i64 0, .int .i64 0, .int .i64 0, .int .i64 0]) ?_ 5 _ rfl; (with_reducible repeat (first | refine bN ?_ _ | refine bW ?_ | refine bA ?_ _)); refine blk_put (cs := #[.string t249, .string t253, .int .i64 0, .int .i64 0, .int .i64 0, .int .i64 0, .int .i64 0, .int .i64 0, .int .i64 0, .int .i64 0, .int .i64 0]) ?_ 4 _ rfl; (with_reducible repeat (first | refine bN ?_ _ | refine bW ?_ | refine bA ?_ _)); refine blk_put (cs := #[.string t249, .string t253, .int .i64 0, .int .i64 0, .int .i64 0, .int .i64 0, .int .i64 0, .int .i64 0, .int .i64 0, .int .i64 0, .int .i64 0]) ?_ 3 _ rfl; (with_reducible repeat (first | refine bN ?_ _ | refine bW ?_ | refine bA ?_ _)); refine blk_put (cs := #[.string t249, .string t253, .int .i64 0, .int .i64 0, .int .i64 0, .int .i64 0, .int .i64 0, .int .i64 0, .int .i64 0, .int .i64 0, .int .i64 0]) ?_ 2 _ rfl; (with_reducible repeat (first | refine bN ?_ _ | refine bW ?_ | refine bA ?_ _)); refine blk_put (cs := #[.string t249, .string (⟨#[]⟩ : ByteArray), .int .i64 0, .int .i64 0, .int .i64 0, .int .i64 0, .int .i64 0, .int .i64 0, .int .i64 0, .int .i64 0, .int .i64 0]) ?_ 1 _ rfl; (with_reducible repeat (first | refine bN ?_ _ | refine bW ?_ | refine bA ?_ _)); refine blk_put (cs := #[.string (⟨#[]⟩ : ByteArray), .string (⟨#[]⟩ : ByteArray), .int .i64 0, .int .i64 0, .int .i64 0, .int .i64 0, .int .i64 0, .int .i64 0, .int .i64 0, .int .i64 0, .int .i64 0]) ?_ 0 _ rfl; (with_reducible repeat (first | refine bN ?_ _ | refine bW ?_ | refine bA ?_ _)); exact BK257.out) NB257_248.out (by simp)); have n2_ := q_ (Kd.R_lower ho0 (pZ (by repeat (first | (with_reducible first | exact HB.out | apply pA | apply pN | apply p1 | refine pS ?_ (IsS104.ge HI248.out) | refine pS ?_ GE244.out | refine pS ?_ GE257.out) | exact HB.out)))); have n3_ := q_ (hb); have n4_ := q_ (hi); clear BK244; clear BK257; clear HB; clear HI248; have BK244 := n0_; have BK257 := n1_; have HO260 := n2_; have HB := n3_; have HI248 := n4_; clear n0_ n1_ n2_ n3_ n4_; (try clear hb); (try clear hb2); (try clear hk); (try clear hi); (try clear ho0)) | ((with_reducible refine gate_callee (f := 54) rfl ?_); refine goesL_ (some 17) rfl rfl Tryd.func54 (by kernel_rfl) rfl #[.pointer (some ⟨g248, 0, none⟩)] rfl (by first | rfl | (simp only [List.map_toArray]; rfl)) ?_; (with_reducible refine (wire_Reader_End.calls g248 t261 t262 t263 t264 t265 t266 t267 w _ ?side1 ?side2 A6.out).mono ?_); (case side1 => repeat (first | (with_reducible first | exact HI248.out | apply IsS104.alloc | apply IsS104.drewN | apply IsS104.drew | apply IsS104.set_0 | apply IsS104.set_1 | apply IsS104.set_2 | refine IsS104.far ?_ NB248_244.out _ | refine IsS104.far ?_ NB248_257.out _) | exact HI248.out)); (case side2 => repeat (first | (with_reducible first | exact HB.out | apply pA | apply pN | apply p1 | refine pS ?_ (IsS104.ge HI248.out) | refine pS ?_ GE244.out | refine pS ?_ GE257.out) | exact HB.out)); rintro e w66 ⟨rfl, hi, hb, hk⟩; refine ⟨_, rfl, ?_⟩; have n0_ := q_ (KeepBut.blk hk (g' := gb244) (by (with_reducible repeat (first | refine bN ?_ _ | refine bW ?_ | refine bA ?_ _)); exact BK244.out) NB244_248.out (by simp)); have n1_ := q_ (KeepBut.blk hk (g' := gb257) (by (with_reducible repeat (first | refine bN ?_ _ | refine bW ?_ | refine bA ?_ _)); exact BK257.out) NB257_248.out (by simp)); have n2_ := q_ (Kd.R_mono (Kd.R_keep (IsS104.apart (show IsS104 w _ g248 t261 t262 t263 from by repeat (first | (with_reducible first | exact HI248.out | apply IsS104.alloc | apply IsS104.drewN | apply IsS104.drew | apply IsS104.set_0 | apply IsS104.set_1 | apply IsS104.set_2 | refine IsS104.far ?_ NB248_244.out _ | refine IsS104.far ?_ NB248_257.out _) | exact HI248.out)) (by (with_reducible repeat (first | apply Kd.R_alloc | apply Kd.R_drewN | apply Kd.R_drew)); exact HO260.out) (by decide)) hk (fun _ h => h.2)) (fun _ h => h.1)); have n3_ := q_ (hb); have n4_ := q_ (hi); clear BK244; clear BK257; clear HO260; clear HB; clear HI248; have BK244 := n0_; have BK257 := n1_; have HO260 := n2_; have HB := n3_; have HI248 := n4_; clear n0_ n1_ n2_ n3_ n4_; (try clear hb); (try clear hb2); (try clear hk); (try clear hi); have hnb67 := NB244_248.out; have hnc67 := NB248_244.out; have hcz68 := blk_all BK244.out; simp only [CellsAt, List.toList_toArray, Nat.reduceAdd, and_true] at hcz68; have hfz68 := bF BK244.out))
  refine bodyPost_ret (results_ct rfl _ _ gb244 23 #[.string (⟨#[]⟩ : ByteArray), .string (⟨#[]⟩ : ByteArray), .int .i64 0, .int .i64 0, .int .i64 0, .int .i64 0, .int .i64 0, .int .i64 0, .int .i64 0, .int .i64 0, .int .i64 0] (0, 0) _ rfl (by (with_reducible repeat (first | refine bN ?_ _ | refine bW ?_ | refine bA ?_ _)); refine blk_put (cs := #[.string (⟨#[]⟩ : ByteArray), .string (⟨#[]⟩ : ByteArray), .int .i64 0, .int .i64 0, .int .i64 0, .int .i64 0, .int .i64 0, .int .i64 0, .int .i64 0, .int .i64 0, .int .i64 0]) ?_ 10 _ rfl; (with_reducible repeat (first | refine bN ?_ _ | refine bW ?_ | refine bA ?_ _)); refine blk_put (cs := #[.string (⟨#[]⟩ : ByteArray), .string (⟨#[]⟩ : ByteArray), .int .i64 0, .int .i64 0, .int .i64 0, .int .i64 0, .int .i64 0, .int .i64 0, .int .i64 0, .int .i64 0, .int .i64 0]) ?_ 9 _ rfl; (with_reducible repeat (first | refine bN ?_ _ | refine bW ?_ | refine bA ?_ _)); refine blk_put (cs := #[.string (⟨#[]⟩ : ByteArray), .string (⟨#[]⟩ : ByteArray), .int .i64 0, .int .i64 0, .int .i64 0, .int .i64 0, .int .i64 0, .int .i64 0, .int .i64 0, .int .i64 0, .int .i64 0]) ?_ 8 _ rfl; (with_reducible repeat (first | refine bN ?_ _ | refine bW ?_ | refine bA ?_ _)); refine blk_put (cs := #[.string (⟨#[]⟩ : ByteArray), .string (⟨#[]⟩ : ByteArray), .int .i64 0, .int .i64 0, .int .i64 0, .int .i64 0, .int .i64 0, .int .i64 0, .int .i64 0, .int .i64 0, .int .i64 0]) ?_ 7 _ rfl; (with_reducible repeat (first | refine bN ?_ _ | refine bW ?_ | refine bA ?_ _)); refine blk_put (cs := #[.string (⟨#[]⟩ : ByteArray), .string (⟨#[]⟩ : ByteArray), .int .i64 0, .int .i64 0, .int .i64 0, .int .i64 0, .int .i64 0, .int .i64 0, .int .i64 0, .int .i64 0, .int .i64 0]) ?_ 6 _ rfl; (with_reducible repeat (first | refine bN ?_ _ | refine bW ?_ | refine bA ?_ _)); refine blk_put (cs := #[.string (⟨#[]⟩ : ByteArray), .string (⟨#[]⟩ : ByteArray), .int .i64 0, .int .i64 0, .int .i64 0, .int .i64 0, .int .i64 0, .int .i64 0, .int .i64 0, .int .i64 0, .int .i64 0]) ?_ 5 _ rfl; (with_reducible repeat (first | refine bN ?_ _ | refine bW ?_ | refine bA ?_ _)); refine blk_put (cs := #[.string (⟨#[]⟩ : ByteArray), .string (⟨#[]⟩ : ByteArray), .int .i64 0, .int .i64 0, .int .i64 0, .int .i64 0, .int .i64 0, .int .i64 0, .int .i64 0, .int .i64 0, .int .i64 0]) ?_ 4 _ rfl; (with_reducible repeat (first | refine bN ?_ _ | refine bW ?_ | refine bA ?_ _)); refine blk_put (cs := #[.string (⟨#[]⟩ : ByteArray), .string (⟨#[]⟩ : ByteArray), .int .i64 0, .int .i64 0, .int .i64 0, .int .i64 0, .int .i64 0, .int .i64 0, .int .i64 0, .int .i64 0, .int .i64 0]) ?_ 3 _ rfl; (with_reducible repeat (first | refine bN ?_ _ | refine bW ?_ | refine bA ?_ _)); refine blk_put (cs := #[.string (⟨#[]⟩ : ByteArray), .string (⟨#[]⟩ : ByteArray), .int .i64 0, .int .i64 0, .int .i64 0, .int .i64 0, .int .i64 0, .int .i64 0, .int .i64 0, .int .i64 0, .int .i64 0]) ?_ 2 _ rfl; (with_reducible repeat (first | refine bN ?_ _ | refine bW ?_ | refine bA ?_ _)); refine blk_put (cs := #[.string (⟨#[]⟩ : ByteArray), .string (⟨#[]⟩ : ByteArray), .int .i64 0, .int .i64 0, .int .i64 0, .int .i64 0, .int .i64 0, .int .i64 0, .int .i64 0, .int .i64 0, .int .i64 0]) ?_ 1 _ rfl; (with_reducible repeat (first | refine bN ?_ _ | refine bW ?_ | refine bA ?_ _)); refine blk_put (cs := #[.string (⟨#[]⟩ : ByteArray), .string (⟨#[]⟩ : ByteArray), .int .i64 0, .int .i64 0, .int .i64 0, .int .i64 0, .int .i64 0, .int .i64 0, .int .i64 0, .int .i64 0, .int .i64 0]) ?_ 0 _ rfl; (with_reducible repeat (first | refine bN ?_ _ | refine bW ?_ | refine bA ?_ _)); exact BK244.out) Tryd.underlying23 rfl (by kernel_rfl)) rfl ?_
  exact ⟨by first | rfl | (simp [*] <;> rfl), by repeat (first | (with_reducible first | exact HB.out | apply pA | apply pN | apply p1 | refine pS ?_ (IsS104.ge HI248.out) | refine pS ?_ GE244.out | refine pS ?_ GE257.out) | exact HB.out)⟩
end Go.Proofs.YtblmgmhjlbkncaaDoor.PA
namespace Go.Proofs.YtblmgmhjlbkncaaDoor.PA
open Go.RowKit Go.Proofs.YtblmgmhjlbkncaaDoorW.PrintWords Go.Proofs.YtblmgmhjlbkncaaDoorW.PrintLast Go.Proofs.YtblmgmhjlbkncaaDoorW.PrintMore
attribute [local go_sem] max2_int min2_int max_two min_two max_three min_three max_four min_four
set_option linter.unusedVariables false
set_option linter.unusedSimpArgs false
def product_Green.j0 : Nat → Bool → ByteArray → Int → Int → Int → Int → List Int → List Int → Option (Int × Int)
 | 0, _, _, _, _, _, _, _, _ => none
 | k + 1, x31, x109000, x109001, x109002, x109003, x109004, x109005, x109006 => if x31 = true then (some (0, 0)) else ((units_Floor.f (wrap64 ((wrap64 ((wrap64 (x109001 * (wrap64 (1000 + x109003)))) + 1000)) - 1)) 1000).bind fun bt109 => ((units_Floor.f (wrap64 ((wrap64 ((wrap64 (x109002 * (wrap64 (1000 + x109003)))) + 1000)) - 1)) 1000).bind fun bt111 => (some (bt109.1, bt111.1))))
def product_Green.f (k : Nat) (a0_0 : ByteArray) (a0_1 : Int) (a0_2 : Int) (a0_3 : Int) (a0_4 : Int) (l0_5 : List Int) (l0_6 : List Int) : Option (Int × Int) := if (mn a0_1 a0_2) < 1 then (product_Green.j0 k true a0_0 a0_1 a0_2 a0_3 a0_4 l0_5 l0_6) else (if (mx a0_1 a0_2) > 600 then (product_Green.j0 k true a0_0 a0_1 a0_2 a0_3 a0_4 l0_5 l0_6) else (if a0_3 < 0 then (product_Green.j0 k true a0_0 a0_1 a0_2 a0_3 a0_4 l0_5 l0_6) else (product_Green.j0 k (decide (a0_3 > 200)) a0_0 a0_1 a0_2 a0_3 a0_4 l0_5 l0_6)))
set_option maxHeartbeats 8000000 in
set_option maxRecDepth 100000 in
theorem product_Green.calls (k : Nat) (a0_0 : ByteArray) (a0_1 : Int) (a0_2 : Int) (a0_3 : Int) (a0_4 : Int) (A0_5 : Option Addr) (c0_5 : Nat) (l0_5 : List Int) (A0_6 : Option Addr) (c0_6 : Nat) (l0_6 : List Int) (r1 : Int) (r2 : Int) (w : World) (hr0_5 : Kd.C (Kd.int .i64) w A0_5 l0_5.length l0_5) (hc0_5 : l0_5.length ≤ c0_5) (hr0_6 : Kd.C (Kd.int .i64) w A0_6 l0_6.length l0_6) (hc0_6 : l0_6.length ≤ c0_6) (h : product_Green.f k a0_0 a0_1 a0_2 a0_3 a0_4 l0_5 l0_6 = some (r1, r2)) :
  Calls Tryd.prog 88 #[.agg #[.string a0_0, .int .i64 a0_1, .int .i64 a0_2, .int .i64 a0_3, .int .i64 a0_4, .slice A0_5 l0_5.length c0_5, .slice A0_6 l0_6.length c0_6]] w fun e w' => e = .returned (.tuple #[.int .i64 r1, .int .i64 r2]) ∧ Below w.heap.size w w' := by
 have hu54 := Tryd.underlying54
 have HR0_5 := Aside0.mk hr0_5
 have HC0_5 := Aside0.mk hc0_5
 clear hr0_5 hc0_5
 have HR0_6 := Aside0.mk hr0_6
 have HC0_6 := Aside0.mk hc0_6
 clear hr0_6 hc0_6
 have HB := q_ (Below.refl w.heap.size w)
 have H : (if (mn a0_1 a0_2) < 1 then (product_Green.j0 k true a0_0 a0_1 a0_2 a0_3 a0_4 l0_5 l0_6) else (if (mx a0_1 a0_2) > 600 then (product_Green.j0 k true a0_0 a0_1 a0_2 a0_3 a0_4 l0_5 l0_6) else (if a0_3 < 0 then (product_Green.j0 k true a0_0 a0_1 a0_2 a0_3 a0_4 l0_5 l0_6) else (product_Green.j0 k (decide (a0_3 > 200)) a0_0 a0_1 a0_2 a0_3 a0_4 l0_5 l0_6)))) = some (r1, r2) := h
 clear h
 have HC2 := Aside0.mk H
 clear H
 go_enter Tryd.func88, Tryd.ntmps88
 go_upto_region 1 with (first | ((with_reducible refine gate_dst (N := 1) rfl ?_); (try (refine gate_guard (by rfl) ?_; dsimp only)); refine box_event ?hg (N := 1) ?hd (cs := #[.string a0_0, .int .i64 a0_1, .int .i64 a0_2, .int .i64 a0_3, .int .i64 a0_4, .slice A0_5 l0_5.length c0_5, .slice A0_6 l0_6.length c0_6]) (t := 54) ?hr ?_; (case hd => rfl); (case hg => rfl); (case hr => first | (go_simp; done) | (go_simp; rfl)); intro gb108 hg w3 hbox hb; have n0_ := q_ (pT (by repeat (first | (with_reducible first | exact HB.out | apply pA | apply pN | apply p1) | exact HB.out)) hb); have n1_ := q_ (hbox); have n2_ := q_ ((by rw [hg]; exact (pZ (by repeat (first | (with_reducible first | exact HB.out | apply pA | apply pN | apply p1) | exact HB.out))) : w.heap.size ≤ gb108)); have n3_ := n2_; clear HB; have HB := n0_; have BK108 := n1_; have GW108 := n2_; have GE108 := n3_; clear n0_ n1_ n2_ n3_; clear hb hbox hg))
 (try simp only [Act.put, List.setIfInBounds_toArray, List.set_cons_zero, List.set_cons_succ])
 go_cut [31] (fun v31 wc => ∃ (kq : Nat) (x31_1 : Bool), v31 = .bool x31_1 ∧ Aside0 (product_Green.j0 kq x31_1 a0_0 a0_1 a0_2 a0_3 a0_4 l0_5 l0_6 = some (r1, r2)) ∧ Aside0 (kq ≤ k) ∧ Aside0 (wc.heap[gb108]? = some (.cells #[.string a0_0, .int .i64 a0_1, .int .i64 a0_2, .int .i64 a0_3, .int .i64 a0_4, (.slice A0_5 l0_5.length c0_5), (.slice A0_6 l0_6.length c0_6)] 54 (0, 0))) ∧ Aside0 (Below w.heap.size w wc))
 case first =>
  have H := HC2.out
  clear HC2
  obtain ⟨ji4, hji4⟩ : ∃ j_ : Int, (mn a0_1 a0_2) = j_ := ⟨_, rfl⟩
  replace H : (if (ji4) < 1 then (product_Green.j0 k true a0_0 a0_1 a0_2 a0_3 a0_4 l0_5 l0_6) else (if (mx a0_1 a0_2) > 600 then (product_Green.j0 k true a0_0 a0_1 a0_2 a0_3 a0_4 l0_5 l0_6) else (if a0_3 < 0 then (product_Green.j0 k true a0_0 a0_1 a0_2 a0_3 a0_4 l0_5 l0_6) else (product_Green.j0 k (decide (a0_3 > 200)) a0_0 a0_1 a0_2 a0_3 a0_4 l0_5 l0_6)))) = some (r1, r2) := by first | (rw [hji4] at H; exact H) | (simp only [hji4] at H ⊢; exact H)
  have hji4_ : (if a0_2 < a0_1 then a0_2 else a0_1) = ji4 := hji4
  by_cases c5 : (ji4) < 1
  ·rw [if_pos c5] at H
   have c5b0 : decide ((ji4) < 1) = true := decide_eq_true c5
   clear c5
   (first | rw [c5b0] | (simp only [i64_w, i32_w]; rw [c5b0]) | skip)
   have H' := Aside0.mk H
   clear H
   have hcz6 := blk_all BK108.out
   simp only [CellsAt, List.toList_toArray, Nat.reduceAdd, and_true] at hcz6
   have hfz6 := bF BK108.out
   go_wp2
   go_meet
   case rel => exact ⟨_, (true), (by first | rfl | (simp; done) | (simp [*]; done)), H', ⟨by first | omega | exact Nat.le_refl _⟩, ⟨by (with_reducible repeat (first | refine bN ?_ _ | refine bW ?_ | refine bA ?_ _)); exact BK108.out⟩, ⟨by repeat (first | (with_reducible first | exact HB.out | apply pA | apply pN | apply p1 | refine pS ?_ GE108.out) | exact HB.out)⟩⟩
  ·rw [if_neg c5] at H
   have c5b0 : decide ((ji4) < 1) = false := decide_eq_false c5
   clear c5
   (first | rw [c5b0] | (simp only [i64_w, i32_w]; rw [c5b0]) | skip)
   obtain ⟨ji7, hji7⟩ : ∃ j_ : Int, (mx a0_1 a0_2) = j_ := ⟨_, rfl⟩
   replace H : (if (ji7) > 600 then (product_Green.j0 k true a0_0 a0_1 a0_2 a0_3 a0_4 l0_5 l0_6) else (if a0_3 < 0 then (product_Green.j0 k true a0_0 a0_1 a0_2 a0_3 a0_4 l0_5 l0_6) else (product_Green.j0 k (decide (a0_3 > 200)) a0_0 a0_1 a0_2 a0_3 a0_4 l0_5 l0_6))) = some (r1, r2) := by first | (rw [hji7] at H; exact H) | (simp only [hji7] at H ⊢; exact H)
   have hji7_ : (if a0_1 < a0_2 then a0_2 else a0_1) = ji7 := hji7
   by_cases c8 : (ji7) > 600
   ·rw [if_pos c8] at H
    have c8b0 : decide (600 < (ji7)) = true := decide_eq_true c8
    clear c8
    have H' := Aside0.mk H
    clear H
    have hcz9 := blk_all BK108.out
    simp only [CellsAt, List.toList_toArray, Nat.reduceAdd, and_true] at hcz9
    have hfz9 := bF BK108.out
    go_wp2
    go_meet
    case rel => exact ⟨_, (true), (by first | rfl | (simp; done) | (simp [*]; done)), H', ⟨by first | omega | exact Nat.le_refl _⟩, ⟨by (with_reducible repeat (first | refine bN ?_ _ | refine bW ?_ | refine bA ?_ _)); exact BK108.out⟩, ⟨by repeat (first | (with_reducible first | exact HB.out | apply pA | apply pN | apply p1 | refine pS ?_ GE108.out) | exact HB.out)⟩⟩
   ·rw [if_neg c8] at H
    have c8b0 : decide (600 < (ji7)) = false := decide_eq_false c8
    clear c8
    by_cases c10 : a0_3 < 0
    ·rw [if_pos c10] at H
     have c10b0 : decide (a0_3 < 0) = true := decide_eq_true c10
     clear c10
     have H' := Aside0.mk H
     clear H
     have hcz11 := blk_all BK108.out
     simp only [CellsAt, List.toList_toArray, Nat.reduceAdd, and_true] at hcz11
     have hfz11 := bF BK108.out
     go_wp2
     go_meet
     case rel => exact ⟨_, (true), (by first | rfl | (simp; done) | (simp [*]; done)), H', ⟨by first | omega | exact Nat.le_refl _⟩, ⟨by (with_reducible repeat (first | refine bN ?_ _ | refine bW ?_ | refine bA ?_ _)); exact BK108.out⟩, ⟨by repeat (first | (with_reducible first | exact HB.out | apply pA | apply pN | apply p1 | refine pS ?_ GE108.out) | exact HB.out)⟩⟩
    ·rw [if_neg c10] at H
     have c10b0 : decide (a0_3 < 0) = false := decide_eq_false c10
     clear c10
     have H' := Aside0.mk H
     clear H
     have hcz12 := blk_all BK108.out
     simp only [CellsAt, List.toList_toArray, Nat.reduceAdd, and_true] at hcz12
     have hfz12 := bF BK108.out
     go_wp2
     go_meet
     case rel => exact ⟨_, (decide (a0_3 > 200)), (by first | rfl | (simp; done) | (simp [*]; done)), H', ⟨by first | omega | exact Nat.le_refl _⟩, ⟨by (with_reducible repeat (first | refine bN ?_ _ | refine bW ?_ | refine bA ?_ _)); exact BK108.out⟩, ⟨by repeat (first | (with_reducible first | exact HB.out | apply pA | apply pN | apply p1 | refine pS ?_ GE108.out) | exact HB.out)⟩⟩
 case rest =>
  clear HC2
  try clear c1
  try clear p2
  try clear c5
  try clear c5b0
  try clear c8
  try clear c8b0
  try clear c10
  try clear c10b0
  try clear hcz11
  try clear hcz12
  try clear hcz6
  try clear hcz9
  try clear hfz11
  try clear hfz12
  try clear hfz6
  try clear hfz9
  obtain ⟨kq, x31_1, rfl, HA, HJ1, BK108, HB⟩ := hcut
  cases kq with
  | zero => exact absurd HA.out (by simp [product_Green.j0])
  | succ kj1 =>
   have H := HA.out
   clear HA
   simp only [product_Green.j0] at H
   by_cases c13 : x31_1 = true
   ·subst c13
    have H1 : (some (0, 0)) = some (r1, r2) := by rw [if_pos rfl] at H; exact H
    clear H
    have H := H1
    clear H1
    simp only [Option.some.injEq, Prod.mk.injEq] at H
    obtain ⟨rfl, rfl⟩ := H
    go_wp2
    go_ret2
    exact ⟨by first | rfl | (simp [*] <;> rfl), by repeat (first | (with_reducible first | exact HB.out | apply pA | apply pN | apply p1 | refine pS ?_ GE108.out) | exact HB.out)⟩
   ·replace c13 := Bool.eq_false_iff.mpr c13
    subst c13
    have H1 : ((units_Floor.f (wrap64 ((wrap64 ((wrap64 (a0_1 * (wrap64 (1000 + a0_3)))) + 1000)) - 1)) 1000).bind fun bt109 => ((units_Floor.f (wrap64 ((wrap64 ((wrap64 (a0_2 * (wrap64 (1000 + a0_3)))) + 1000)) - 1)) 1000).bind fun bt111 => (some (bt109.1, bt111.1)))) = some (r1, r2) := by rw [if_neg (show ¬ (false = true) by decide)] at H; exact H
    clear H
    have H := H1
    clear H1
    replace H := oB H
    obtain ⟨⟨t109, t110⟩, A140, H⟩ := H
    replace H : ((units_Floor.f (wrap64 ((wrap64 ((wrap64 (a0_2 * (wrap64 (1000 + a0_3)))) + 1000)) - 1)) 1000).bind fun bt111 => (some (t109, bt111.1))) = some (r1, r2) := H
    have A14 := Aside0.mk A140
    clear A140
    replace H := oB H
    obtain ⟨⟨t111, t112⟩, A150, H⟩ := H
    replace H : (some (t109, t111)) = some (r1, r2) := H
    have A15 := Aside0.mk A150
    clear A150
    simp only [Option.some.injEq, Prod.mk.injEq] at H
    obtain ⟨rfl, rfl⟩ := H
    have hcz16 := blk_all BK108.out
    simp only [CellsAt, List.toList_toArray, Nat.reduceAdd, and_true] at hcz16
    have hfz16 := bF BK108.out
    go_wp2_with (first | ((with_reducible refine gate_callee (f := 97) rfl ?_); refine goesL_ (some 41) rfl rfl Tryd.func97 (by kernel_rfl) rfl #[.int .i64 (wrap64 ((wrap64 ((wrap64 (a0_1 * (wrap64 (1000 + a0_3)))) + 1000)) - 1)), .int .i64 1000] rfl (by first | rfl | (simp only [List.map_toArray]; rfl)) ?_; (with_reducible refine (units_Floor.calls (wrap64 ((wrap64 ((wrap64 (a0_1 * (wrap64 (1000 + a0_3)))) + 1000)) - 1)) 1000 t109 t110 _ A14.out).mono ?_); rintro e w17 ⟨rfl, hb⟩; refine ⟨_, rfl, ?_⟩; have n0_ := q_ (bB (g := gb108) (by (with_reducible repeat (first | refine bN ?_ _ | refine bW ?_ | refine bA ?_ _)); exact BK108.out) hb); have n1_ := q_ (pT (by repeat (first | (with_reducible first | exact HB.out | apply pA | apply pN | apply p1 | refine pS ?_ GE108.out) | exact HB.out)) hb); clear BK108; clear HB; have BK108 := n0_; have HB := n1_; clear n0_ n1_; (try clear hb); (try clear hb2); (try clear hk); (try clear hi); have hcz18 := blk_all BK108.out; simp only [CellsAt, List.toList_toArray, Nat.reduceAdd, and_true] at hcz18; have hfz18 := bF BK108.out) | ((with_reducible refine gate_callee (f := 97) rfl ?_); refine goesL_ (some 53) rfl rfl Tryd.func97 (by kernel_rfl) rfl #[.int .i64 (wrap64 ((wrap64 ((wrap64 (a0_2 * (wrap64 (1000 + a0_3)))) + 1000)) - 1)), .int .i64 1000] rfl (by first | rfl | (simp only [List.map_toArray]; rfl)) ?_; (with_reducible refine (units_Floor.calls (wrap64 ((wrap64 ((wrap64 (a0_2 * (wrap64 (1000 + a0_3)))) + 1000)) - 1)) 1000 t111 t112 _ A15.out).mono ?_); rintro e w19 ⟨rfl, hb⟩; refine ⟨_, rfl, ?_⟩; have n0_ := q_ (bB (g := gb108) (by (with_reducible repeat (first | refine bN ?_ _ | refine bW ?_ | refine bA ?_ _)); exact BK108.out) hb); have n1_ := q_ (pT (by repeat (first | (with_reducible first | exact HB.out | apply pA | apply pN | apply p1 | refine pS ?_ GE108.out) | exact HB.out)) hb); clear BK108; clear HB; have BK108 := n0_; have HB := n1_; clear n0_ n1_; (try clear hb); (try clear hb2); (try clear hk); (try clear hi)))
    go_ret2
    exact ⟨by first | rfl | (simp [*] <;> rfl), by repeat (first | (with_reducible first | exact HB.out | apply pA | apply pN | apply p1 | refine pS ?_ GE108.out) | exact HB.out)⟩
def product_sized.j0 : Nat → Bool → ByteArray → Int → Int → Int → Int → List Int → List Int → Option (Bool)
 | 0, _, _, _, _, _, _, _, _ => none
 | k + 1, x24, x114000, x114001, x114002, x114003, x114004, x114005, x114006 => if x24 = true then (some false) else (if x114003 < 0 then (some false) else (if x114003 > 200 then (some false) else (if x114004 < 0 then (some false) else (if x114004 > 1000 then (some false) else ((product_Green.f k x114000 x114001 x114002 x114003 x114004 x114005 x114006).bind fun bt114 => (some (decide (bt114.2 ≤ 600))))))))
def product_sized.f (k : Nat) (a0_0 : ByteArray) (a0_1 : Int) (a0_2 : Int) (a0_3 : Int) (a0_4 : Int) (l0_5 : List Int) (l0_6 : List Int) : Option (Bool) := if a0_1 < 5 then (product_sized.j0 k true a0_0 a0_1 a0_2 a0_3 a0_4 l0_5 l0_6) else (if a0_1 > 300 then (product_sized.j0 k true a0_0 a0_1 a0_2 a0_3 a0_4 l0_5 l0_6) else (if a0_2 < a0_1 then (product_sized.j0 k true a0_0 a0_1 a0_2 a0_3 a0_4 l0_5 l0_6) else (product_sized.j0 k (decide (a0_2 > 600)) a0_0 a0_1 a0_2 a0_3 a0_4 l0_5 l0_6)))
set_option maxHeartbeats 8000000 in
set_option maxRecDepth 100000 in
theorem product_sized.calls (k : Nat) (a0_0 : ByteArray) (a0_1 : Int) (a0_2 : Int) (a0_3 : Int) (a0_4 : Int) (A0_5 : Option Addr) (c0_5 : Nat) (l0_5 : List Int) (A0_6 : Option Addr) (c0_6 : Nat) (l0_6 : List Int) (r : Bool) (w : World) (hr0_5 : Kd.C (Kd.int .i64) w A0_5 l0_5.length l0_5) (hc0_5 : l0_5.length ≤ c0_5) (hr0_6 : Kd.C (Kd.int .i64) w A0_6 l0_6.length l0_6) (hc0_6 : l0_6.length ≤ c0_6) (h : product_sized.f k a0_0 a0_1 a0_2 a0_3 a0_4 l0_5 l0_6 = some r) :
  Calls Tryd.prog 60 #[.agg #[.string a0_0, .int .i64 a0_1, .int .i64 a0_2, .int .i64 a0_3, .int .i64 a0_4, .slice A0_5 l0_5.length c0_5, .slice A0_6 l0_6.length c0_6]] w fun e w' => e = .returned (.bool r) ∧ Below w.heap.size w w' := by
 have hu54 := Tryd.underlying54
 have HR0_5 := Aside0.mk hr0_5
 have HC0_5 := Aside0.mk hc0_5
 clear hr0_5 hc0_5
 have HR0_6 := Aside0.mk hr0_6
 have HC0_6 := Aside0.mk hc0_6
 clear hr0_6 hc0_6
 have HB := q_ (Below.refl w.heap.size w)
 have H : (if a0_1 < 5 then (product_sized.j0 k true a0_0 a0_1 a0_2 a0_3 a0_4 l0_5 l0_6) else (if a0_1 > 300 then (product_sized.j0 k true a0_0 a0_1 a0_2 a0_3 a0_4 l0_5 l0_6) else (if a0_2 < a0_1 then (product_sized.j0 k true a0_0 a0_1 a0_2 a0_3 a0_4 l0_5 l0_6) else (product_sized.j0 k (decide (a0_2 > 600)) a0_0 a0_1 a0_2 a0_3 a0_4 l0_5 l0_6)))) = some r := h
 clear h
 have HC2 := Aside0.mk H
 clear H
 go_enter Tryd.func60, Tryd.ntmps60
 go_upto_region 1 with (first | ((with_reducible refine gate_dst (N := 1) rfl ?_); refine box_event ?hg (N := 1) ?hd (cs := #[.string a0_0, .int .i64 a0_1, .int .i64 a0_2, .int .i64 a0_3, .int .i64 a0_4, .slice A0_5 l0_5.length c0_5, .slice A0_6 l0_6.length c0_6]) (t := 54) ?hr ?_; (case hd => rfl); (case hg => rfl); (case hr => first | (go_simp; done) | (go_simp; rfl)); intro gb113 hg w3 hbox hb; have n0_ := q_ (pT (by repeat (first | (with_reducible first | exact HB.out | apply pA | apply pN | apply p1) | exact HB.out)) hb); have n1_ := q_ (hbox); have n2_ := q_ ((by rw [hg]; exact (pZ (by repeat (first | (with_reducible first | exact HB.out | apply pA | apply pN | apply p1) | exact HB.out))) : w.heap.size ≤ gb113)); have n3_ := n2_; clear HB; have HB := n0_; have BK113 := n1_; have GW113 := n2_; have GE113 := n3_; clear n0_ n1_ n2_ n3_; clear hb hbox hg))
 (try simp only [Act.put, List.setIfInBounds_toArray, List.set_cons_zero, List.set_cons_succ])
 go_cut [24] (fun v24 wc => ∃ (kq : Nat) (x24_1 : Bool), v24 = .bool x24_1 ∧ Aside0 (product_sized.j0 kq x24_1 a0_0 a0_1 a0_2 a0_3 a0_4 l0_5 l0_6 = some r) ∧ Aside0 (kq ≤ k) ∧ Aside0 (wc.heap[gb113]? = some (.cells #[.string a0_0, .int .i64 a0_1, .int .i64 a0_2, .int .i64 a0_3, .int .i64 a0_4, (.slice A0_5 l0_5.length c0_5), (.slice A0_6 l0_6.length c0_6)] 54 (0, 0))) ∧ Aside0 (Below w.heap.size w wc))
 case first =>
  have H := HC2.out
  clear HC2
  by_cases c4 : a0_1 < 5
  ·rw [if_pos c4] at H
   have c4b0 : decide (a0_1 < 5) = true := decide_eq_true c4
   clear c4
   (first | rw [c4b0] | (simp only [i64_w, i32_w]; rw [c4b0]) | skip)
   have H' := Aside0.mk H
   clear H
   have hcz5 := blk_all BK113.out
   simp only [CellsAt, List.toList_toArray, Nat.reduceAdd, and_true] at hcz5
   have hfz5 := bF BK113.out
   go_wp2
   go_meet
   case rel => exact ⟨_, (true), (by first | rfl | (simp; done) | (simp [*]; done)), H', ⟨by first | omega | exact Nat.le_refl _⟩, ⟨by (with_reducible repeat (first | refine bN ?_ _ | refine bW ?_ | refine bA ?_ _)); exact BK113.out⟩, ⟨by repeat (first | (with_reducible first | exact HB.out | apply pA | apply pN | apply p1 | refine pS ?_ GE113.out) | exact HB.out)⟩⟩
  ·rw [if_neg c4] at H
   have c4b0 : decide (a0_1 < 5) = false := decide_eq_false c4
   clear c4
   (first | rw [c4b0] | (simp only [i64_w, i32_w]; rw [c4b0]) | skip)
   by_cases c6 : a0_1 > 300
   ·rw [if_pos c6] at H
    have c6b0 : decide (300 < a0_1) = true := decide_eq_true c6
    clear c6
    have H' := Aside0.mk H
    clear H
    have hcz7 := blk_all BK113.out
    simp only [CellsAt, List.toList_toArray, Nat.reduceAdd, and_true] at hcz7
    have hfz7 := bF BK113.out
    go_wp2
    go_meet
    case rel => exact ⟨_, (true), (by first | rfl | (simp; done) | (simp [*]; done)), H', ⟨by first | omega | exact Nat.le_refl _⟩, ⟨by (with_reducible repeat (first | refine bN ?_ _ | refine bW ?_ | refine bA ?_ _)); exact BK113.out⟩, ⟨by repeat (first | (with_reducible first | exact HB.out | apply pA | apply pN | apply p1 | refine pS ?_ GE113.out) | exact HB.out)⟩⟩
   ·rw [if_neg c6] at H
    have c6b0 : decide (300 < a0_1) = false := decide_eq_false c6
    clear c6
    by_cases c8 : a0_2 < a0_1
    ·rw [if_pos c8] at H
     have c8b0 : decide (a0_2 < a0_1) = true := decide_eq_true c8
     clear c8
     have H' := Aside0.mk H
     clear H
     have hcz9 := blk_all BK113.out
     simp only [CellsAt, List.toList_toArray, Nat.reduceAdd, and_true] at hcz9
     have hfz9 := bF BK113.out
     go_wp2
     go_meet
     case rel => exact ⟨_, (true), (by first | rfl | (simp; done) | (simp [*]; done)), H', ⟨by first | omega | exact Nat.le_refl _⟩, ⟨by (with_reducible repeat (first | refine bN ?_ _ | refine bW ?_ | refine bA ?_ _)); exact BK113.out⟩, ⟨by repeat (first | (with_reducible first | exact HB.out | apply pA | apply pN | apply p1 | refine pS ?_ GE113.out) | exact HB.out)⟩⟩
    ·rw [if_neg c8] at H
     have c8b0 : decide (a0_2 < a0_1) = false := decide_eq_false c8
     clear c8
     have H' := Aside0.mk H
     clear H
     have hcz10 := blk_all BK113.out
     simp only [CellsAt, List.toList_toArray, Nat.reduceAdd, and_true] at hcz10
     have hfz10 := bF BK113.out
     go_wp2
     go_meet
     case rel => exact ⟨_, (decide (a0_2 > 600)), (by first | rfl | (simp; done) | (simp [*]; done)), H', ⟨by first | omega | exact Nat.le_refl _⟩, ⟨by (with_reducible repeat (first | refine bN ?_ _ | refine bW ?_ | refine bA ?_ _)); exact BK113.out⟩, ⟨by repeat (first | (with_reducible first | exact HB.out | apply pA | apply pN | apply p1 | refine pS ?_ GE113.out) | exact HB.out)⟩⟩
 case rest =>
  clear HC2
  try clear p2
  try clear c4
  try clear c4b0
  try clear c6
  try clear c6b0
  try clear c8
  try clear c8b0
  try clear hcz10
  try clear hcz5
  try clear hcz7
  try clear hcz9
  try clear hfz10
  try clear hfz5
  try clear hfz7
  try clear hfz9
  obtain ⟨kq, x24_1, rfl, HA, HJ1, BK113, HB⟩ := hcut
  cases kq with
  | zero => exact absurd HA.out (by simp [product_sized.j0])
  | succ kj1 =>
   have H := HA.out
   clear HA
   simp only [product_sized.j0] at H
   by_cases c11 : x24_1 = true
   ·subst c11
    have H1 : (some false) = some r := by rw [if_pos rfl] at H; exact H
    clear H
    have H := H1
    clear H1
    obtain rfl := Option.some.inj H
    go_wp2
    go_ret
    exact ⟨by first | rfl | (simp [*] <;> rfl), by repeat (first | (with_reducible first | exact HB.out | apply pA | apply pN | apply p1 | refine pS ?_ GE113.out) | exact HB.out)⟩
   ·replace c11 := Bool.eq_false_iff.mpr c11
    subst c11
    have H1 : (if a0_3 < 0 then (some false) else (if a0_3 > 200 then (some false) else (if a0_4 < 0 then (some false) else (if a0_4 > 1000 then (some false) else ((product_Green.f kj1 a0_0 a0_1 a0_2 a0_3 a0_4 l0_5 l0_6).bind fun bt114 => (some (decide (bt114.2 ≤ 600)))))))) = some r := by rw [if_neg (show ¬ (false = true) by decide)] at H; exact H
    clear H
    have H := H1
    clear H1
    by_cases c12 : a0_3 < 0
    ·rw [if_pos c12] at H
     have c12b0 : decide (a0_3 < 0) = true := decide_eq_true c12
     clear c12
     obtain rfl := Option.some.inj H
     have hcz13 := blk_all BK113.out
     simp only [CellsAt, List.toList_toArray, Nat.reduceAdd, and_true] at hcz13
     have hfz13 := bF BK113.out
     go_wp2
     go_ret
     exact ⟨by first | rfl | (simp [*] <;> rfl), by repeat (first | (with_reducible first | exact HB.out | apply pA | apply pN | apply p1 | refine pS ?_ GE113.out) | exact HB.out)⟩
    ·rw [if_neg c12] at H
     have c12b0 : decide (a0_3 < 0) = false := decide_eq_false c12
     clear c12
     by_cases c14 : a0_3 > 200
     ·rw [if_pos c14] at H
      have c14b0 : decide (200 < a0_3) = true := decide_eq_true c14
      clear c14
      obtain rfl := Option.some.inj H
      have hcz15 := blk_all BK113.out
      simp only [CellsAt, List.toList_toArray, Nat.reduceAdd, and_true] at hcz15
      have hfz15 := bF BK113.out
      go_wp2
      go_ret
      exact ⟨by first | rfl | (simp [*] <;> rfl), by repeat (first | (with_reducible first | exact HB.out | apply pA | apply pN | apply p1 | refine pS ?_ GE113.out) | exact HB.out)⟩
     ·rw [if_neg c14] at H
      have c14b0 : decide (200 < a0_3) = false := decide_eq_false c14
      clear c14
      by_cases c16 : a0_4 < 0
      ·rw [if_pos c16] at H
       have c16b0 : decide (a0_4 < 0) = true := decide_eq_true c16
       clear c16
       obtain rfl := Option.some.inj H
       have hcz17 := blk_all BK113.out
       simp only [CellsAt, List.toList_toArray, Nat.reduceAdd, and_true] at hcz17
       have hfz17 := bF BK113.out
       go_wp2
       go_ret
       exact ⟨by first | rfl | (simp [*] <;> rfl), by repeat (first | (with_reducible first | exact HB.out | apply pA | apply pN | apply p1 | refine pS ?_ GE113.out) | exact HB.out)⟩
      ·rw [if_neg c16] at H
       have c16b0 : decide (a0_4 < 0) = false := decide_eq_false c16
       clear c16
       by_cases c18 : a0_4 > 1000
       ·rw [if_pos c18] at H
        have c18b0 : decide (1000 < a0_4) = true := decide_eq_true c18
        clear c18
        obtain rfl := Option.some.inj H
        have hcz19 := blk_all BK113.out
        simp only [CellsAt, List.toList_toArray, Nat.reduceAdd, and_true] at hcz19
        have hfz19 := bF BK113.out
        go_wp2
        go_ret
        exact ⟨by first | rfl | (simp [*] <;> rfl), by repeat (first | (with_reducible first | exact HB.out | apply pA | apply pN | apply p1 | refine pS ?_ GE113.out) | exact HB.out)⟩
       ·rw [if_neg c18] at H
        have c18b0 : decide (1000 < a0_4) = false := decide_eq_false c18
        clear c18
        replace H := oB H
        obtain ⟨⟨t114, t115⟩, A200, H⟩ := H
        replace H : (some (decide (t115 ≤ 600))) = some r := H
        have A20 := Aside0.mk A200
        clear A200
        obtain rfl := Option.some.inj H
        have hcz21 := blk_all BK113.out
        simp only [CellsAt, List.toList_toArray, Nat.reduceAdd, and_true] at hcz21
        have hfz21 := bF BK113.out
        go_wp2_with (first | ((with_reducible refine gate_callee (f := 88) rfl ?_); refine goesL_ (some 45) rfl rfl Tryd.func88 (by kernel_rfl) rfl #[.agg #[.string a0_0, .int .i64 a0_1, .int .i64 a0_2, .int .i64 a0_3, .int .i64 a0_4, .slice A0_5 l0_5.length c0_5, .slice A0_6 l0_6.length c0_6]] rfl (by first | rfl | (simp only [List.map_toArray]; rfl)) ?_; (with_reducible refine (product_Green.calls kj1 a0_0 a0_1 a0_2 a0_3 a0_4 _ _ l0_5 _ _ l0_6 t114 t115 _ ?side1 ?side2 ?side3 ?side4 A20.out).mono ?_); (case side1 => repeat (first | exact (Kd.C_below HR0_5.out HB.out) | (with_reducible refine Kd.C_alloc ?_ _) | (with_reducible refine Kd.C_drewN ?_ _) | (with_reducible refine Kd.C_drew ?_))); (case side2 => exact HC0_5.out); (case side3 => repeat (first | exact (Kd.C_below HR0_6.out HB.out) | (with_reducible refine Kd.C_alloc ?_ _) | (with_reducible refine Kd.C_drewN ?_ _) | (with_reducible refine Kd.C_drew ?_))); (case side4 => exact HC0_6.out); rintro e w22 ⟨rfl, hb⟩; refine ⟨_, rfl, ?_⟩; have n0_ := q_ (bB (g := gb113) (by (with_reducible repeat (first | refine bN ?_ _ | refine bW ?_ | refine bA ?_ _)); exact BK113.out) hb); have n1_ := q_ (pT (by repeat (first | (with_reducible first | exact HB.out | apply pA | apply pN | apply p1 | refine pS ?_ GE113.out) | exact HB.out)) hb); clear BK113; clear HB; have BK113 := n0_; have HB := n1_; clear n0_ n1_; (try clear hb); (try clear hb2); (try clear hk); (try clear hi)))
        go_ret
        exact ⟨by first | rfl | (simp [*] <;> rfl), by repeat (first | (with_reducible first | exact HB.out | apply pA | apply pN | apply p1 | refine pS ?_ GE113.out) | exact HB.out)⟩
end Go.Proofs.YtblmgmhjlbkncaaDoor.PA
namespace Go.Proofs.YtblmgmhjlbkncaaDoor.PA
open Go.RowKit Go.Proofs.YtblmgmhjlbkncaaDoorW.PrintWords Go.Proofs.YtblmgmhjlbkncaaDoorW.PrintLast Go.Proofs.YtblmgmhjlbkncaaDoorW.PrintMore
attribute [local go_sem] max2_int min2_int max_two min_two max_three min_three max_four min_four
set_option linter.unusedVariables false
set_option linter.unusedSimpArgs false
mutual
def product_checkLengths.l0 : Nat → List Int → Int → Int → ByteArray → Int → Int → Int → Int → List Int → List Int → Option (Int)
 | 0, _, _, _, _, _, _, _, _, _, _ => none
 | k + 1, x24, x25, x26, x117000, x117001, x117002, x117003, x117004, x117005, x117006 => if x26 < x25 then (if 0 ≤ x26 then (if x26 < (x24.length : Int) then (if (rd x24 x26) < 100 then (product_checkLengths.j1 k x26 (rd x24 x26) x24 x25 x26 true x117000 x117001 x117002 x117003 x117004 x117005 x117006) else (product_checkLengths.j1 k x26 (rd x24 x26) x24 x25 x26 (decide ((rd x24 x26) > 20000)) x117000 x117001 x117002 x117003 x117004 x117005 x117006)) else (none)) else (none)) else (product_checkLengths.l1 k x117006 (x117006.length : Int) 0)
def product_checkLengths.j1 : Nat → Int → Int → List Int → Int → Int → Bool → ByteArray → Int → Int → Int → Int → List Int → List Int → Option (Int)
 | 0, _, _, _, _, _, _, _, _, _, _, _, _, _ => none
 | k + 1, x4, x5, x24, x25, x26, x36, x117000, x117001, x117002, x117003, x117004, x117005, x117006 => if x36 = true then (some 9) else (if x4 > 0 then (if 0 ≤ (wrap64 (x4 - 1)) then (if (wrap64 (x4 - 1)) < (x117005.length : Int) then (if x5 ≤ (rd x117005 (wrap64 (x4 - 1))) then (some 11) else (product_checkLengths.l0 k x24 x25 (wrap64 (x26 + 1)) x117000 x117001 x117002 x117003 x117004 x117005 x117006)) else (none)) else (none)) else (product_checkLengths.l0 k x24 x25 (wrap64 (x26 + 1)) x117000 x117001 x117002 x117003 x117004 x117005 x117006))
def product_checkLengths.l1 : Nat → List Int → Int → Int → Option (Int)
 | 0, _, _, _ => none
 | k + 1, x51, x52, x53 => if x53 < x52 then (if 0 ≤ x53 then (if x53 < (x51.length : Int) then (if (rd x51 x53) < 0 then (some 9) else (if (rd x51 x53) > 1000000 then (some 9) else (product_checkLengths.l1 k x51 x52 (wrap64 (x53 + 1))))) else (none)) else (none)) else (some 0)
end
def product_checkLengths.f (k : Nat) (a0_0 : ByteArray) (a0_1 : Int) (a0_2 : Int) (a0_3 : Int) (a0_4 : Int) (l0_5 : List Int) (l0_6 : List Int) : Option (Int) := if (l0_5.length : Int) = 0 then (some 3) else (if (l0_5.length : Int) > 8 then (some 4) else (if (l0_5.length : Int) = (l0_6.length : Int) then (product_checkLengths.l0 k l0_5 (l0_5.length : Int) 0 a0_0 a0_1 a0_2 a0_3 a0_4 l0_5 l0_6) else (some 19)))
set_option maxHeartbeats 8000000 in
set_option maxRecDepth 100000 in
theorem product_checkLengths.calls (k : Nat) (a0_0 : ByteArray) (a0_1 : Int) (a0_2 : Int) (a0_3 : Int) (a0_4 : Int) (A0_5 : Option Addr) (c0_5 : Nat) (l0_5 : List Int) (A0_6 : Option Addr) (c0_6 : Nat) (l0_6 : List Int) (r : Int) (w : World) (hr0_5 : Kd.C (Kd.int .i64) w A0_5 l0_5.length l0_5) (hc0_5 : l0_5.length ≤ c0_5) (hr0_6 : Kd.C (Kd.int .i64) w A0_6 l0_6.length l0_6) (hc0_6 : l0_6.length ≤ c0_6) (h : product_checkLengths.f k a0_0 a0_1 a0_2 a0_3 a0_4 l0_5 l0_6 = some r) :
  Calls Tryd.prog 61 #[.agg #[.string a0_0, .int .i64 a0_1, .int .i64 a0_2, .int .i64 a0_3, .int .i64 a0_4, .slice A0_5 l0_5.length c0_5, .slice A0_6 l0_6.length c0_6]] w fun e w' => e = .returned (.int .i64 r) ∧ Below w.heap.size w w' := by
 have hu54 := Tryd.underlying54
 have HR0_5 := Aside0.mk hr0_5
 have HC0_5 := Aside0.mk hc0_5
 clear hr0_5 hc0_5
 have HR0_6 := Aside0.mk hr0_6
 have HC0_6 := Aside0.mk hc0_6
 clear hr0_6 hc0_6
 have HB := q_ (Below.refl w.heap.size w)
 have H : (if (l0_5.length : Int) = 0 then (some 3) else (if (l0_5.length : Int) > 8 then (some 4) else (if (l0_5.length : Int) = (l0_6.length : Int) then (product_checkLengths.l0 k l0_5 (l0_5.length : Int) 0 a0_0 a0_1 a0_2 a0_3 a0_4 l0_5 l0_6) else (some 19)))) = some r := h
 clear h
 by_cases c2 : (l0_5.length : Int) = 0
 ·rw [if_pos c2] at H
  have c2b0 : ((l0_5.length : Int) == 0) = true := beq_iff_eq.mpr c2
  have c2b1 : ((l0_5.length : Int) != 0) = false := oD c2
  clear c2
  obtain rfl := Option.some.inj H
  go_enter Tryd.func61, Tryd.ntmps61
  go_wp2_with (first | ((with_reducible refine gate_dst (N := 1) rfl ?_); refine box_event ?hg (N := 1) ?hd (cs := #[.string a0_0, .int .i64 a0_1, .int .i64 a0_2, .int .i64 a0_3, .int .i64 a0_4, .slice A0_5 l0_5.length c0_5, .slice A0_6 l0_6.length c0_6]) (t := 54) ?hr ?_; (case hd => rfl); (case hg => rfl); (case hr => first | (go_simp; done) | (go_simp; rfl)); intro gb116 hg w3 hbox hb; have n0_ := q_ (pT (by repeat (first | (with_reducible first | exact HB.out | apply pA | apply pN | apply p1) | exact HB.out)) hb); have n1_ := q_ (hbox); have n2_ := q_ ((by rw [hg]; exact (pZ (by repeat (first | (with_reducible first | exact HB.out | apply pA | apply pN | apply p1) | exact HB.out))) : w.heap.size ≤ gb116)); have n3_ := n2_; clear HB; have HB := n0_; have BK116 := n1_; have GW116 := n2_; have GE116 := n3_; clear n0_ n1_ n2_ n3_; clear hb hbox hg; have hcz4 := blk_all BK116.out; simp only [CellsAt, List.toList_toArray, Nat.reduceAdd, and_true] at hcz4; have hfz4 := bF BK116.out))
  go_ret
  exact ⟨by first | rfl | (simp [*] <;> rfl), by repeat (first | (with_reducible first | exact HB.out | apply pA | apply pN | apply p1 | refine pS ?_ GE116.out) | exact HB.out)⟩
 ·rw [if_neg c2] at H
  have c2b0 : ((l0_5.length : Int) == 0) = false := oC c2
  have c2b1 : ((l0_5.length : Int) != 0) = true := bne_iff_ne.mpr c2
  have c2b2 : ¬ (l0_5 = []) := fun h_ => c2 (by rw [h_]; rfl)
  by_cases c5 : (l0_5.length : Int) > 8
  ·rw [if_pos c5] at H
   have c5b0 : decide (8 < (l0_5.length : Int)) = true := decide_eq_true c5
   have c5b1 : decide (8 < l0_5.length) = true := decide_eq_true (by omega)
   clear c5
   obtain rfl := Option.some.inj H
   go_enter Tryd.func61, Tryd.ntmps61
   go_wp2_with (first | ((with_reducible refine gate_dst (N := 1) rfl ?_); refine box_event ?hg (N := 1) ?hd (cs := #[.string a0_0, .int .i64 a0_1, .int .i64 a0_2, .int .i64 a0_3, .int .i64 a0_4, .slice A0_5 l0_5.length c0_5, .slice A0_6 l0_6.length c0_6]) (t := 54) ?hr ?_; (case hd => rfl); (case hg => rfl); (case hr => first | (go_simp; done) | (go_simp; rfl)); intro gb116 hg w6 hbox hb; have n0_ := q_ (pT (by repeat (first | (with_reducible first | exact HB.out | apply pA | apply pN | apply p1) | exact HB.out)) hb); have n1_ := q_ (hbox); have n2_ := q_ ((by rw [hg]; exact (pZ (by repeat (first | (with_reducible first | exact HB.out | apply pA | apply pN | apply p1) | exact HB.out))) : w.heap.size ≤ gb116)); have n3_ := n2_; clear HB; have HB := n0_; have BK116 := n1_; have GW116 := n2_; have GE116 := n3_; clear n0_ n1_ n2_ n3_; clear hb hbox hg; have hcz7 := blk_all BK116.out; simp only [CellsAt, List.toList_toArray, Nat.reduceAdd, and_true] at hcz7; have hfz7 := bF BK116.out))
   go_ret
   exact ⟨by first | rfl | (simp [*] <;> rfl), by repeat (first | (with_reducible first | exact HB.out | apply pA | apply pN | apply p1 | refine pS ?_ GE116.out) | exact HB.out)⟩
  ·rw [if_neg c5] at H
   have c5b0 : decide (8 < (l0_5.length : Int)) = false := decide_eq_false c5
   have c5b1 : decide (8 < l0_5.length) = false := decide_eq_false (by omega)
   clear c5
   by_cases c8 : (l0_5.length : Int) = (l0_6.length : Int)
   ·rw [if_pos c8] at H
    have c8b0 : ((l0_5.length : Int) == (l0_6.length : Int)) = true := beq_iff_eq.mpr c8
    have c8b1 : ((l0_5.length : Int) != (l0_6.length : Int)) = false := oD c8
    have c8b2 : (l0_5.length == l0_6.length) = true := by first | simpa using c8 | (simp at c8 ⊢; omega)
    clear c8
    have H' := Aside0.mk H
    clear H
    go_enter Tryd.func61, Tryd.ntmps61
    go_wp2_with (first | ((with_reducible refine gate_dst (N := 1) rfl ?_); refine box_event ?hg (N := 1) ?hd (cs := #[.string a0_0, .int .i64 a0_1, .int .i64 a0_2, .int .i64 a0_3, .int .i64 a0_4, .slice A0_5 l0_5.length c0_5, .slice A0_6 l0_6.length c0_6]) (t := 54) ?hr ?_; (case hd => rfl); (case hg => rfl); (case hr => first | (go_simp; done) | (go_simp; rfl)); intro gb116 hg w9 hbox hb; have n0_ := q_ (pT (by repeat (first | (with_reducible first | exact HB.out | apply pA | apply pN | apply p1) | exact HB.out)) hb); have n1_ := q_ (hbox); have n2_ := q_ ((by rw [hg]; exact (pZ (by repeat (first | (with_reducible first | exact HB.out | apply pA | apply pN | apply p1) | exact HB.out))) : w.heap.size ≤ gb116)); have n3_ := n2_; clear HB; have HB := n0_; have BK116 := n1_; have GW116 := n2_; have GE116 := n3_; clear n0_ n1_ n2_ n3_; clear hb hbox hg; have hcz10 := blk_all BK116.out; simp only [CellsAt, List.toList_toArray, Nat.reduceAdd, and_true] at hcz10; have hfz10 := bF BK116.out))
    go_loopg [26] k (fun kq v26 w' => ∃ (x26_1 : Int), v26 = .int .i64 x26_1 ∧ Aside0 (product_checkLengths.l0 kq l0_5 (l0_5.length : Int) x26_1 a0_0 a0_1 a0_2 a0_3 a0_4 l0_5 l0_6 = some r) ∧ Aside0 (kq ≤ k) ∧ Aside0 (w'.heap[gb116]? = some (.cells #[.string a0_0, .int .i64 a0_1, .int .i64 a0_2, .int .i64 a0_3, .int .i64 a0_4, (.slice A0_5 l0_5.length c0_5), (.slice A0_6 l0_6.length c0_6)] 54 (0, 0))) ∧ Aside0 (Below w.heap.size w w'))
    case atStart => exact ⟨(0), (by first | rfl | (simp; done) | (simp [*]; done)), H', ⟨Nat.le_refl _⟩, ⟨by (with_reducible repeat (first | refine bN ?_ _ | refine bW ?_ | refine bA ?_ _)); exact BK116.out⟩, ⟨by repeat (first | (with_reducible first | exact HB.out | apply pA | apply pN | apply p1 | refine pS ?_ GE116.out) | exact HB.out)⟩⟩
    case round =>
     clear H'
     try clear c2
     try clear c2b0
     try clear c2b1
     try clear c2b2
     try clear p2
     try clear c5
     try clear c5b0
     try clear c5b1
     try clear c6
     try clear c8
     try clear c8b0
     try clear c8b1
     try clear c8b2
     try clear hcz10
     try clear hcz4
     try clear hcz7
     try clear hfz10
     try clear hfz4
     try clear hfz7
     obtain ⟨x26_1, rfl, HA, HK1, BK116, HB⟩ := hrel
     cases gk with
     | zero => exact absurd HA.out (by simp [product_checkLengths.l0])
     | succ k1 =>
      have H := HA.out
      clear HA
      simp only [product_checkLengths.l0] at H
      by_cases c11 : x26_1 < (l0_5.length : Int)
      ·rw [if_pos c11] at H
       have c11b0 : decide (x26_1 < (l0_5.length : Int)) = true := decide_eq_true c11
       clear c11
       by_cases c12 : 0 ≤ x26_1
       ·rw [if_pos c12] at H
        have c12b0 : decide (0 ≤ x26_1) = true := decide_eq_true c12
        clear c12
        by_cases c13 : x26_1 < (l0_5.length : Int)
        ·rw [if_pos c13] at H
         have c13b0 : decide (x26_1 < (l0_5.length : Int)) = true := decide_eq_true c13
         clear c13
         have HC14 := Aside0.mk H
         clear H
         have p117 : 0 ≤ (x26_1 : Int) := of_decide_eq_true (by first | (with_reducible assumption) | assumption)
         have q117 : x26_1 < (l0_5.length : Int) := of_decide_eq_true (by first | (with_reducible assumption) | assumption)
         obtain ⟨ad117, e117, hx117_0⟩ := Kd.at_int HR0_5.out x26_1 p117 q117
         cases e117
         replace hx117_0 := (HB.out.cell (World.block_lt_of_cell? w _ hx117_0)).trans hx117_0
         replace p117 := eq_true p117
         replace q117 := eq_true q117
         go_upto_region 11 with (fail)
         go_cut [36] (fun v36 wc => ∃ (kq : Nat) (x36_13 : Bool), v36 = .bool x36_13 ∧ Aside0 (product_checkLengths.j1 kq x26_1 (rd l0_5 x26_1) l0_5 (l0_5.length : Int) x26_1 x36_13 a0_0 a0_1 a0_2 a0_3 a0_4 l0_5 l0_6 = some r) ∧ Aside0 (kq ≤ k1) ∧ Aside0 (wc.heap[gb116]? = some (.cells #[.string a0_0, .int .i64 a0_1, .int .i64 a0_2, .int .i64 a0_3, .int .i64 a0_4, (.slice (some ad117) l0_5.length c0_5), (.slice A0_6 l0_6.length c0_6)] 54 (0, 0))) ∧ Aside0 (Below w.heap.size w wc))
         case first =>
          have H := HC14.out
          clear HC14
          by_cases c15 : (rd l0_5 x26_1) < 100
          ·rw [if_pos c15] at H
           have c15b0 : decide ((rd l0_5 x26_1) < 100) = true := decide_eq_true c15
           clear c15
           (first | rw [c15b0] | (simp only [i64_w, i32_w]; rw [c15b0]) | skip)
           have H' := Aside0.mk H
           clear H
           go_wp2
           go_meet
           case rel => exact ⟨_, (true), (by first | rfl | (simp; done) | (simp [*]; done)), H', ⟨by have := HK1.out; first | omega | exact Nat.le_refl _⟩, ⟨by (with_reducible repeat (first | refine bN ?_ _ | refine bW ?_ | refine bA ?_ _)); exact BK116.out⟩, ⟨by repeat (first | (with_reducible first | exact HB.out | apply pA | apply pN | apply p1 | refine pS ?_ GE116.out) | exact HB.out)⟩⟩
          ·rw [if_neg c15] at H
           have c15b0 : decide ((rd l0_5 x26_1) < 100) = false := decide_eq_false c15
           clear c15
           (first | rw [c15b0] | (simp only [i64_w, i32_w]; rw [c15b0]) | skip)
           have H' := Aside0.mk H
           clear H
           go_wp2
           go_meet
           case rel => exact ⟨_, (decide ((rd l0_5 x26_1) > 20000)), (by first | rfl | (simp; done) | (simp [*]; done)), H', ⟨by have := HK1.out; first | omega | exact Nat.le_refl _⟩, ⟨by (with_reducible repeat (first | refine bN ?_ _ | refine bW ?_ | refine bA ?_ _)); exact BK116.out⟩, ⟨by repeat (first | (with_reducible first | exact HB.out | apply pA | apply pN | apply p1 | refine pS ?_ GE116.out) | exact HB.out)⟩⟩
         case rest =>
          clear HC14
          try clear c1
          try clear p1
          try clear q1
          try clear hx1
          try clear c2
          try clear c2b0
          try clear c2b1
          try clear c2b2
          try clear p2
          try clear c5
          try clear c5b0
          try clear c5b1
          try clear c6
          try clear c8
          try clear c8b0
          try clear c8b1
          try clear c8b2
          try clear c11
          try clear c11b0
          try clear p11
          try clear q11
          try clear hx11
          try clear c12
          try clear c12b0
          try clear c13
          try clear c13b0
          try clear c15
          try clear c15b0
          try clear hcz10
          try clear hcz4
          try clear hcz7
          try clear hfz10
          try clear hfz4
          try clear hfz7
          try clear hx117_0
          try clear p117
          try clear p2
          try clear q117
          obtain ⟨kq, x36_13, rfl, HA, HJ13, BK116, HB⟩ := hcut
          cases kq with
          | zero => exact absurd HA.out (by simp [product_checkLengths.j1])
          | succ kj13 =>
           have H := HA.out
           clear HA
           simp only [product_checkLengths.j1] at H
           by_cases c16 : x36_13 = true
           ·subst c16
            have H1 : (some 9) = some r := by rw [if_pos rfl] at H; exact H
            clear H
            have H := H1
            clear H1
            obtain rfl := Option.some.inj H
            go_wp2
            go_ret
            exact ⟨by first | rfl | (simp [*] <;> rfl), by repeat (first | (with_reducible first | exact HB.out | apply pA | apply pN | apply p1 | refine pS ?_ GE116.out) | exact HB.out)⟩
           ·replace c16 := Bool.eq_false_iff.mpr c16
            subst c16
            have H1 : (if x26_1 > 0 then (if 0 ≤ (wrap64 (x26_1 - 1)) then (if (wrap64 (x26_1 - 1)) < (l0_5.length : Int) then (if (rd l0_5 x26_1) ≤ (rd l0_5 (wrap64 (x26_1 - 1))) then (some 11) else (product_checkLengths.l0 kj13 l0_5 (l0_5.length : Int) (wrap64 (x26_1 + 1)) a0_0 a0_1 a0_2 a0_3 a0_4 l0_5 l0_6)) else (none)) else (none)) else (product_checkLengths.l0 kj13 l0_5 (l0_5.length : Int) (wrap64 (x26_1 + 1)) a0_0 a0_1 a0_2 a0_3 a0_4 l0_5 l0_6)) = some r := by rw [if_neg (show ¬ (false = true) by decide)] at H; exact H
            clear H
            have H := H1
            clear H1
            by_cases c17 : x26_1 > 0
            ·rw [if_pos c17] at H
             have c17b0 : decide (0 < x26_1) = true := decide_eq_true c17
             clear c17
             obtain ⟨ji18, hji18⟩ : ∃ j_ : Int, (wrap64 (x26_1 - 1)) = j_ := ⟨_, rfl⟩
             replace H : (if 0 ≤ (ji18) then (if (ji18) < (l0_5.length : Int) then (if (rd l0_5 x26_1) ≤ (rd l0_5 (ji18)) then (some 11) else (product_checkLengths.l0 kj13 l0_5 (l0_5.length : Int) (wrap64 (x26_1 + 1)) a0_0 a0_1 a0_2 a0_3 a0_4 l0_5 l0_6)) else (none)) else (none)) = some r := by first | (rw [hji18] at H; exact H) | (simp only [hji18] at H ⊢; exact H)
             have hji18w : (IntKind.i64.wrap (x26_1 - 1)) = ji18 := (i64_w _).trans hji18
             by_cases c19 : 0 ≤ (ji18)
             ·rw [if_pos c19] at H
              have c19b0 : decide (0 ≤ (ji18)) = true := decide_eq_true c19
              clear c19
              by_cases c20 : (ji18) < (l0_5.length : Int)
              ·rw [if_pos c20] at H
               have c20b0 : decide ((ji18) < (l0_5.length : Int)) = true := decide_eq_true c20
               clear c20
               by_cases c21 : (rd l0_5 x26_1) ≤ (rd l0_5 (ji18))
               ·rw [if_pos c21] at H
                have c21b0 : decide ((rd l0_5 x26_1) ≤ (rd l0_5 (ji18))) = true := decide_eq_true c21
                clear c21
                obtain rfl := Option.some.inj H
                have hcz22 := blk_all BK116.out
                simp only [CellsAt, List.toList_toArray, Nat.reduceAdd, and_true] at hcz22
                have hfz22 := bF BK116.out
                have p118 : 0 ≤ ((ji18) : Int) := of_decide_eq_true (by first | (with_reducible assumption) | assumption)
                have q118 : (ji18) < (l0_5.length : Int) := of_decide_eq_true (by first | (with_reducible assumption) | assumption)
                obtain ⟨ad118, e118, hx118_0⟩ := Kd.at_int HR0_5.out (ji18) p118 q118
                obtain rfl : ad117 = ad118 := (by injection e118)
                replace hx118_0 := (HB.out.cell (World.block_lt_of_cell? w _ hx118_0)).trans hx118_0
                replace p118 := eq_true p118
                replace q118 := eq_true q118
                go_wp2
                go_ret
                exact ⟨by first | rfl | (simp [errW_none, errW_some] <;> rfl) | (simp only [← hji18]; first | rfl | (simp [errW_none, errW_some] <;> rfl)) | (simp [*, errW_none, errW_some] <;> rfl), by repeat (first | (with_reducible first | exact HB.out | apply pA | apply pN | apply p1 | refine pS ?_ GE116.out) | exact HB.out)⟩
               ·rw [if_neg c21] at H
                have c21b0 : decide ((rd l0_5 x26_1) ≤ (rd l0_5 (ji18))) = false := decide_eq_false c21
                clear c21
                have H' := Aside0.mk H
                clear H
                have hcz23 := blk_all BK116.out
                simp only [CellsAt, List.toList_toArray, Nat.reduceAdd, and_true] at hcz23
                have hfz23 := bF BK116.out
                have p118 : 0 ≤ ((ji18) : Int) := of_decide_eq_true (by first | (with_reducible assumption) | assumption)
                have q118 : (ji18) < (l0_5.length : Int) := of_decide_eq_true (by first | (with_reducible assumption) | assumption)
                obtain ⟨ad118, e118, hx118_0⟩ := Kd.at_int HR0_5.out (ji18) p118 q118
                obtain rfl : ad117 = ad118 := (by injection e118)
                replace hx118_0 := (HB.out.cell (World.block_lt_of_cell? w _ hx118_0)).trans hx118_0
                replace p118 := eq_true p118
                replace q118 := eq_true q118
                go_wp2
                go_roundg kj13
                case measure => have := HK1.out; have := HJ13.out; omega
                case rel => exact ⟨(wrap64 (x26_1 + 1)), (by first | rfl | (simp; done) | (simp [*]; done)), H', ⟨by have := HK1.out; have := HJ13.out; omega⟩, ⟨by (with_reducible repeat (first | refine bN ?_ _ | refine bW ?_ | refine bA ?_ _)); exact BK116.out⟩, ⟨by repeat (first | (with_reducible first | exact HB.out | apply pA | apply pN | apply p1 | refine pS ?_ GE116.out) | exact HB.out)⟩⟩
              ·rw [if_neg c20] at H
               exact absurd H (by simp)
             ·rw [if_neg c19] at H
              exact absurd H (by simp)
            ·rw [if_neg c17] at H
             have c17b0 : decide (0 < x26_1) = false := decide_eq_false c17
             clear c17
             have H' := Aside0.mk H
             clear H
             go_wp2
             go_roundg kj13
             case measure => have := HK1.out; have := HJ13.out; omega
             case rel => exact ⟨(wrap64 (x26_1 + 1)), (by first | rfl | (simp; done) | (simp [*]; done)), H', ⟨by have := HK1.out; have := HJ13.out; omega⟩, ⟨by (with_reducible repeat (first | refine bN ?_ _ | refine bW ?_ | refine bA ?_ _)); exact BK116.out⟩, ⟨by repeat (first | (with_reducible first | exact HB.out | apply pA | apply pN | apply p1 | refine pS ?_ GE116.out) | exact HB.out)⟩⟩
        ·rw [if_neg c13] at H
         exact absurd H (by simp)
       ·rw [if_neg c12] at H
        exact absurd H (by simp)
      ·rw [if_neg c11] at H
       have c11b0 : decide (x26_1 < (l0_5.length : Int)) = false := decide_eq_false c11
       clear c11
       have H' := Aside0.mk H
       clear H
       have hcz24 := blk_all BK116.out
       simp only [CellsAt, List.toList_toArray, Nat.reduceAdd, and_true] at hcz24
       have hfz24 := bF BK116.out
       go_wp2
       go_loopg [53] k1 (fun kq v53 w' => ∃ (x53_2 : Int), v53 = .int .i64 x53_2 ∧ Aside0 (product_checkLengths.l1 kq l0_6 (l0_6.length : Int) x53_2 = some r) ∧ Aside0 (kq ≤ k1) ∧ Aside0 (w'.heap[gb116]? = some (.cells #[.string a0_0, .int .i64 a0_1, .int .i64 a0_2, .int .i64 a0_3, .int .i64 a0_4, (.slice A0_5 l0_5.length c0_5), (.slice A0_6 l0_6.length c0_6)] 54 (0, 0))) ∧ Aside0 (Below w.heap.size w w'))
       case atStart => exact ⟨(0), (by first | rfl | (simp; done) | (simp [*]; done)), H', ⟨Nat.le_refl _⟩, ⟨by (with_reducible repeat (first | refine bN ?_ _ | refine bW ?_ | refine bA ?_ _)); exact BK116.out⟩, ⟨by repeat (first | (with_reducible first | exact HB.out | apply pA | apply pN | apply p1 | refine pS ?_ GE116.out) | exact HB.out)⟩⟩
       case round =>
        clear H'
        try clear c1
        try clear p1
        try clear q1
        try clear hx1
        try clear c2
        try clear c2b0
        try clear c2b1
        try clear c2b2
        try clear p2
        try clear c5
        try clear c5b0
        try clear c5b1
        try clear c6
        try clear p6
        try clear c8
        try clear c8b0
        try clear c8b1
        try clear c8b2
        try clear c11
        try clear c11b0
        try clear p11
        try clear q11
        try clear hx11
        try clear c12
        try clear c12b0
        try clear c13
        try clear c13b0
        try clear c15
        try clear c15b0
        try clear c16
        try clear c17
        try clear c17b0
        try clear c19
        try clear c19b0
        try clear c20
        try clear c20b0
        try clear c21
        try clear c21b0
        try clear hcz10
        try clear hcz22
        try clear hcz23
        try clear hcz24
        try clear hcz4
        try clear hcz7
        try clear hfz10
        try clear hfz22
        try clear hfz23
        try clear hfz24
        try clear hfz4
        try clear hfz7
        try clear hx117_0
        try clear hx118_0
        try clear p1
        try clear p11
        try clear p117
        try clear p118
        try clear p2
        try clear q1
        try clear q11
        try clear q117
        try clear q118
        obtain ⟨x53_2, rfl, HA, HK2, BK116, HB⟩ := hrel
        cases gk with
        | zero => exact absurd HA.out (by simp [product_checkLengths.l1])
        | succ k2 =>
         have H := HA.out
         clear HA
         simp only [product_checkLengths.l1] at H
         by_cases c25 : x53_2 < (l0_6.length : Int)
         ·rw [if_pos c25] at H
          have c25b0 : decide (x53_2 < (l0_6.length : Int)) = true := decide_eq_true c25
          clear c25
          by_cases c26 : 0 ≤ x53_2
          ·rw [if_pos c26] at H
           have c26b0 : decide (0 ≤ x53_2) = true := decide_eq_true c26
           clear c26
           by_cases c27 : x53_2 < (l0_6.length : Int)
           ·rw [if_pos c27] at H
            have c27b0 : decide (x53_2 < (l0_6.length : Int)) = true := decide_eq_true c27
            clear c27
            by_cases c28 : (rd l0_6 x53_2) < 0
            ·rw [if_pos c28] at H
             have c28b0 : decide ((rd l0_6 x53_2) < 0) = true := decide_eq_true c28
             clear c28
             obtain rfl := Option.some.inj H
             have p119 : 0 ≤ (x53_2 : Int) := of_decide_eq_true (by first | (with_reducible assumption) | assumption)
             have q119 : x53_2 < (l0_6.length : Int) := of_decide_eq_true (by first | (with_reducible assumption) | assumption)
             obtain ⟨ad119, e119, hx119_0⟩ := Kd.at_int HR0_6.out x53_2 p119 q119
             cases e119
             replace hx119_0 := (HB.out.cell (World.block_lt_of_cell? w _ hx119_0)).trans hx119_0
             replace p119 := eq_true p119
             replace q119 := eq_true q119
             go_wp2
             go_ret
             exact ⟨by first | rfl | (simp [*] <;> rfl), by repeat (first | (with_reducible first | exact HB.out | apply pA | apply pN | apply p1 | refine pS ?_ GE116.out) | exact HB.out)⟩
            ·rw [if_neg c28] at H
             have c28b0 : decide ((rd l0_6 x53_2) < 0) = false := decide_eq_false c28
             clear c28
             by_cases c29 : (rd l0_6 x53_2) > 1000000
             ·rw [if_pos c29] at H
              have c29b0 : decide (1000000 < (rd l0_6 x53_2)) = true := decide_eq_true c29
              clear c29
              obtain rfl := Option.some.inj H
              have p119 : 0 ≤ (x53_2 : Int) := of_decide_eq_true (by first | (with_reducible assumption) | assumption)
              have q119 : x53_2 < (l0_6.length : Int) := of_decide_eq_true (by first | (with_reducible assumption) | assumption)
              obtain ⟨ad119, e119, hx119_0⟩ := Kd.at_int HR0_6.out x53_2 p119 q119
              cases e119
              replace hx119_0 := (HB.out.cell (World.block_lt_of_cell? w _ hx119_0)).trans hx119_0
              replace p119 := eq_true p119
              replace q119 := eq_true q119
              go_wp2
              go_ret
              exact ⟨by first | rfl | (simp [*] <;> rfl), by repeat (first | (with_reducible first | exact HB.out | apply pA | apply pN | apply p1 | refine pS ?_ GE116.out) | exact HB.out)⟩
             ·rw [if_neg c29] at H
              have c29b0 : decide (1000000 < (rd l0_6 x53_2)) = false := decide_eq_false c29
              clear c29
              have H' := Aside0.mk H
              clear H
              have p119 : 0 ≤ (x53_2 : Int) := of_decide_eq_true (by first | (with_reducible assumption) | assumption)
              have q119 : x53_2 < (l0_6.length : Int) := of_decide_eq_true (by first | (with_reducible assumption) | assumption)
              obtain ⟨ad119, e119, hx119_0⟩ := Kd.at_int HR0_6.out x53_2 p119 q119
              cases e119
              replace hx119_0 := (HB.out.cell (World.block_lt_of_cell? w _ hx119_0)).trans hx119_0
              replace p119 := eq_true p119
              replace q119 := eq_true q119
              go_wp2
              go_roundg k2
              case measure => have := HK1.out; have := HK2.out; omega
              case rel => exact ⟨(wrap64 (x53_2 + 1)), (by first | rfl | (simp; done) | (simp [*]; done)), H', ⟨by have := HK1.out; have := HK2.out; omega⟩, ⟨by (with_reducible repeat (first | refine bN ?_ _ | refine bW ?_ | refine bA ?_ _)); exact BK116.out⟩, ⟨by repeat (first | (with_reducible first | exact HB.out | apply pA | apply pN | apply p1 | refine pS ?_ GE116.out) | exact HB.out)⟩⟩
           ·rw [if_neg c27] at H
            exact absurd H (by simp)
          ·rw [if_neg c26] at H
           exact absurd H (by simp)
         ·rw [if_neg c25] at H
          have c25b0 : decide (x53_2 < (l0_6.length : Int)) = false := decide_eq_false c25
          clear c25
          obtain rfl := Option.some.inj H
          go_wp2
          go_ret
          exact ⟨by first | rfl | (simp [*] <;> rfl), by repeat (first | (with_reducible first | exact HB.out | apply pA | apply pN | apply p1 | refine pS ?_ GE116.out) | exact HB.out)⟩
   ·rw [if_neg c8] at H
    have c8b0 : ((l0_5.length : Int) == (l0_6.length : Int)) = false := oC c8
    have c8b1 : ((l0_5.length : Int) != (l0_6.length : Int)) = true := bne_iff_ne.mpr c8
    have c8b2 : (l0_5.length == l0_6.length) = false := by first | simpa using c8 | (simp at c8 ⊢; omega)
    obtain rfl := Option.some.inj H
    go_enter Tryd.func61, Tryd.ntmps61
    go_wp2_with (first | ((with_reducible refine gate_dst (N := 1) rfl ?_); refine box_event ?hg (N := 1) ?hd (cs := #[.string a0_0, .int .i64 a0_1, .int .i64 a0_2, .int .i64 a0_3, .int .i64 a0_4, .slice A0_5 l0_5.length c0_5, .slice A0_6 l0_6.length c0_6]) (t := 54) ?hr ?_; (case hd => rfl); (case hg => rfl); (case hr => first | (go_simp; done) | (go_simp; rfl)); intro gb116 hg w30 hbox hb; have n0_ := q_ (pT (by repeat (first | (with_reducible first | exact HB.out | apply pA | apply pN | apply p1) | exact HB.out)) hb); have n1_ := q_ (hbox); have n2_ := q_ ((by rw [hg]; exact (pZ (by repeat (first | (with_reducible first | exact HB.out | apply pA | apply pN | apply p1) | exact HB.out))) : w.heap.size ≤ gb116)); have n3_ := n2_; clear HB; have HB := n0_; have BK116 := n1_; have GW116 := n2_; have GE116 := n3_; clear n0_ n1_ n2_ n3_; clear hb hbox hg; have hcz31 := blk_all BK116.out; simp only [CellsAt, List.toList_toArray, Nat.reduceAdd, and_true] at hcz31; have hfz31 := bF BK116.out))
    go_ret
    exact ⟨by first | rfl | (simp [*] <;> rfl), by repeat (first | (with_reducible first | exact HB.out | apply pA | apply pN | apply p1 | refine pS ?_ GE116.out) | exact HB.out)⟩
end Go.Proofs.YtblmgmhjlbkncaaDoor.PA
