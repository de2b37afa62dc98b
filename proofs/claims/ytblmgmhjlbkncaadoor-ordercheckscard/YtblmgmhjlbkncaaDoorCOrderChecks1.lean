/- Each Go function that the law reaches as a Lean function, and that its call comes to that function's answer. -/
import Derived.Test.YtblmgmhjlbkncaaDoorVOrderChecks
import Derived.Test.YtblmgmhjlbkncaaDoorProg
import Derived.Test.YtblmgmhjlbkncaaDoorShelf
import Derived.Below
import Derived.Deep.Draws
import Derived.Deep.AppendLies
import Derived.Maps.AppendAt
import Derived.OwnWalk
import Derived.Laws.BytesArg
import Derived.Laws.MakeOwn
import Derived.Laws.OwnMore
import Derived.Deep.OwnRows
import Derived.Tactics
import Derived.Lib.ConvBytes
import Derived.Laws.Slices
import Derived.WalkKit
import Derived.KernelRfl
import Derived.RowKit3
import Derived.Deep.LoopGhost
import Derived.Deep.QuietTactic
import Derived.BigQuiet
import Derived.WideLaws
import Derived.Deep.DeepCutAuto
import Derived.Deep.CutBlock
import Derived.Deep.RegionHeld3
import Derived.Laws.Rows
import Derived.Lib.AppendStr
import Derived.ArgAppend
import Derived.Laws.IdiomCopy
import Derived.OrdersHeld
import Derived.Laws.BitsLemmas
import Derived.RowKit
import Derived.LoopN
import Derived.Laws.EntriesVeiled
import Derived.LaidSub
import Derived.MakeChecks
import Derived.Lib.LaidTab
import Derived.Maps.OwnOps
import Derived.Maps.Views
import Derived.Maps.Keyed
import Derived.Shelf.SlicesQ.Load
import Derived.Laws.Tables
namespace Go.Proofs.YtblmgmhjlbkncaaDoor.PA
open Go.RowKit Go.Proofs.YtblmgmhjlbkncaaDoorW.PrintWords Go.Proofs.YtblmgmhjlbkncaaDoorW.PrintLast Go.Proofs.YtblmgmhjlbkncaaDoorW.PrintMore
attribute [local go_sem] max2_int min2_int max_two min_two max_three min_three max_four min_four
set_option linter.unusedVariables false
set_option linter.unusedSimpArgs false
def errW : Option Int → Value
 | none => .nilIface
 | some c => .iface 0 (.int .i64 c)
theorem errW_none : errW none = .nilIface := rfl
theorem errW_some (c : Int) : errW (some c) = .iface 0 (.int .i64 c) := rfl
theorem info3 : (Tryd.prog.info? 3).map (fun i => (i.zero, i.size, i.bytes)) = some (some (.int .i64 0), 1, 8) := by kernel_rfl
theorem info5 : (Tryd.prog.info? 5).map (fun i => (i.zero, i.size, i.bytes)) = some (some (.int .u8 0), 1, 1) := by kernel_rfl
theorem info54 : (Tryd.prog.info? 54).map (fun i => (i.zero, i.size, i.bytes)) = some (some (.agg #[(.string ⟨#[]⟩), (.int .i64 0), (.int .i64 0), (.int .i64 0), (.int .i64 0), (.slice none 0 0), (.slice none 0 0)]), 7, 96) := by kernel_rfl
structure S54 where
 f0 : ByteArray
 f1 : Int
 f2 : Int
 f3 : Int
 f4 : Int
 f5 : (List Int)
 f6 : (List Int)
def z54 : S54 := ⟨(⟨#[]⟩ : ByteArray), (0 : Int), (0 : Int), (0 : Int), (0 : Int), ([] : List Int), ([] : List Int)⟩
def k54 : Kd S54 := Kd.iso (Kd.pair Kd.string (Kd.pair (Kd.int .i64) (Kd.pair (Kd.int .i64) (Kd.pair (Kd.int .i64) (Kd.pair (Kd.int .i64) (Kd.pair (Kd.slice 3 (Kd.int .i64)) (Kd.slice 3 (Kd.int .i64)))))))) (fun x : S54 => (x.f0, x.f1, x.f2, x.f3, x.f4, x.f5, x.f6))
theorem k54_open {w : World} {x : S54} {cs : List Value} (h : k54.K w x cs) : ∃ A5 c5 A6 c6, cs = [.string x.f0, .int .i64 x.f1, .int .i64 x.f2, .int .i64 x.f3, .int .i64 x.f4, .slice A5 x.f5.length c5, .slice A6 x.f6.length c6] ∧ x.f5.length ≤ c5 ∧ (Kd.int .i64).C w A5 x.f5.length x.f5 ∧ x.f6.length ≤ c6 ∧ (Kd.int .i64).C w A6 x.f6.length x.f6 := by
 obtain ⟨_, _, rfl, rfl, ⟨_, _, rfl, rfl, ⟨_, _, rfl, rfl, ⟨_, _, rfl, rfl, ⟨_, _, rfl, rfl, ⟨_, _, rfl, ⟨A5, c5, rfl, l5, g5⟩, ⟨A6, c6, rfl, l6, g6⟩⟩⟩⟩⟩⟩⟩ := h
 exact ⟨A5, c5, A6, c6, rfl, l5, g5, l6, g6⟩
def rd_T54 (xs : List S54) (i : Int) : S54 := xs.getD i.toNat z54
theorem at_T54 {w : World} {A : Option Addr} {n : Nat} {xs : List S54} (h : Kd.C k54 w A n xs) (i : Int) (h0 : 0 ≤ i) (h1 : i < n) : ∃ ad A5 c5 A6 c6, A = some ad ∧ w.cell? (ad.add (i.toNat * 7)) = some (.string (rd_T54 xs i).f0) ∧ w.cell? ⟨(ad.add (i.toNat * 7)).block, (ad.add (i.toNat * 7)).off + 1, none⟩ = some (.int .i64 (rd_T54 xs i).f1) ∧ w.cell? ⟨(ad.add (i.toNat * 7)).block, (ad.add (i.toNat * 7)).off + 2, none⟩ = some (.int .i64 (rd_T54 xs i).f2) ∧ w.cell? ⟨(ad.add (i.toNat * 7)).block, (ad.add (i.toNat * 7)).off + 3, none⟩ = some (.int .i64 (rd_T54 xs i).f3) ∧ w.cell? ⟨(ad.add (i.toNat * 7)).block, (ad.add (i.toNat * 7)).off + 4, none⟩ = some (.int .i64 (rd_T54 xs i).f4) ∧ w.cell? ⟨(ad.add (i.toNat * 7)).block, (ad.add (i.toNat * 7)).off + 5, none⟩ = some (.slice A5 (rd_T54 xs i).f5.length c5) ∧ w.cell? ⟨(ad.add (i.toNat * 7)).block, (ad.add (i.toNat * 7)).off + 6, none⟩ = some (.slice A6 (rd_T54 xs i).f6.length c6) ∧ (rd_T54 xs i).f5.length ≤ c5 ∧ (Kd.int .i64).C w A5 (rd_T54 xs i).f5.length (rd_T54 xs i).f5 ∧ (rd_T54 xs i).f6.length ≤ c6 ∧ (Kd.int .i64).C w A6 (rd_T54 xs i).f6.length (rd_T54 xs i).f6 := by
 obtain ⟨ad, c, e, _, hK, hc0⟩ := Kd.C_get h z54 i h0 h1
 have hc : ∀ j u, c[j]? = some u → w.cell? (ad.add (i.toNat * 7 + j)) = some u := hc0
 obtain ⟨A5, c5, A6, c6, rfl, l5, g5, l6, g6⟩ := k54_open hK
 exact ⟨ad, A5, c5, A6, c6, e, hc 0 _ rfl, by rw [← add_field _ _ 1 (by omega)]; exact hc 1 _ rfl, by rw [← add_field _ _ 2 (by omega)]; exact hc 2 _ rfl, by rw [← add_field _ _ 3 (by omega)]; exact hc 3 _ rfl, by rw [← add_field _ _ 4 (by omega)]; exact hc 4 _ rfl, by rw [← add_field _ _ 5 (by omega)]; exact hc 5 _ rfl, by rw [← add_field _ _ 6 (by omega)]; exact hc 6 _ rfl, l5, g5, l6, g6⟩
structure S31 where
 f0 : Int
 f1 : Int
def k31 : Kd S31 := Kd.iso (Kd.pair (Kd.int .i64) (Kd.int .i64)) (fun x : S31 => (x.f0, x.f1))
theorem k31_open {w : World} {x : S31} {cs : List Value} (h : k31.K w x cs) : cs = [.int .i64 x.f0, .int .i64 x.f1] := by
 obtain ⟨_, _, rfl, rfl, rfl⟩ := h
 exact rfl
theorem k31_mkM (w : World) (base : Nat) (ok : Nat → Prop) (x : S31)  : k31.M w base ok x [.int .i64 x.f0, .int .i64 x.f1] := ⟨[.int .i64 x.f0], [.int .i64 x.f1], rfl, rfl, rfl⟩
structure S33 where
 f0 : S31
 f1 : S31
 f2 : S31
def k33 : Kd S33 := Kd.iso (Kd.pair k31 (Kd.pair k31 k31)) (fun x : S33 => (x.f0, x.f1, x.f2))
theorem k33_open {w : World} {x : S33} {cs : List Value} (h : k33.K w x cs) : cs = [.int .i64 x.f0.f0, .int .i64 x.f0.f1, .int .i64 x.f1.f0, .int .i64 x.f1.f1, .int .i64 x.f2.f0, .int .i64 x.f2.f1] := by
 obtain ⟨_, _, rfl, s0, ⟨_, _, rfl, s2, s4⟩⟩ := h
 obtain rfl := k31_open s0
 obtain rfl := k31_open s2
 obtain rfl := k31_open s4
 exact rfl
theorem k33_mkM (w : World) (base : Nat) (ok : Nat → Prop) (x : S33)  : k33.M w base ok x [.int .i64 x.f0.f0, .int .i64 x.f0.f1, .int .i64 x.f1.f0, .int .i64 x.f1.f1, .int .i64 x.f2.f0, .int .i64 x.f2.f1] := ⟨[.int .i64 x.f0.f0, .int .i64 x.f0.f1], [.int .i64 x.f1.f0, .int .i64 x.f1.f1, .int .i64 x.f2.f0, .int .i64 x.f2.f1], rfl, (k31_mkM w base ok x.f0 ), ⟨[.int .i64 x.f1.f0, .int .i64 x.f1.f1], [.int .i64 x.f2.f0, .int .i64 x.f2.f1], rfl, (k31_mkM w base ok x.f1 ), (k31_mkM w base ok x.f2 )⟩⟩
structure S176 where
 f0 : Int
 f1 : S33
def k176 : Kd S176 := Kd.iso (Kd.pair (Kd.int .i64) k33) (fun x : S176 => (x.f0, x.f1))
structure S23 where
 f0 : ByteArray
 f1 : ByteArray
 f2 : Int
 f3 : Int
 f4 : Int
 f5 : Int
 f6 : Int
 f7 : Int
 f8 : Int
 f9 : Int
 f10 : Int
def k23 : Kd S23 := Kd.iso (Kd.pair Kd.string (Kd.pair Kd.string (Kd.pair (Kd.int .i64) (Kd.pair (Kd.int .i64) (Kd.pair (Kd.int .i64) (Kd.pair (Kd.int .i64) (Kd.pair (Kd.int .i64) (Kd.pair (Kd.int .i64) (Kd.pair (Kd.int .i64) (Kd.pair (Kd.int .i64) (Kd.int .i64))))))))))) (fun x : S23 => (x.f0, x.f1, x.f2, x.f3, x.f4, x.f5, x.f6, x.f7, x.f8, x.f9, x.f10))
theorem k23_open {w : World} {x : S23} {cs : List Value} (h : k23.K w x cs) : cs = [.string x.f0, .string x.f1, .int .i64 x.f2, .int .i64 x.f3, .int .i64 x.f4, .int .i64 x.f5, .int .i64 x.f6, .int .i64 x.f7, .int .i64 x.f8, .int .i64 x.f9, .int .i64 x.f10] := by
 obtain ⟨_, _, rfl, rfl, ⟨_, _, rfl, rfl, ⟨_, _, rfl, rfl, ⟨_, _, rfl, rfl, ⟨_, _, rfl, rfl, ⟨_, _, rfl, rfl, ⟨_, _, rfl, rfl, ⟨_, _, rfl, rfl, ⟨_, _, rfl, rfl, ⟨_, _, rfl, rfl, rfl⟩⟩⟩⟩⟩⟩⟩⟩⟩⟩ := h
 exact rfl
structure S36 where
 f0 : Int
 f1 : Int
 f2 : Int
def k36 : Kd S36 := Kd.iso (Kd.pair (Kd.int .i64) (Kd.pair (Kd.int .i64) (Kd.int .i64))) (fun x : S36 => (x.f0, x.f1, x.f2))
theorem k36_open {w : World} {x : S36} {cs : List Value} (h : k36.K w x cs) : cs = [.int .i64 x.f0, .int .i64 x.f1, .int .i64 x.f2] := by
 obtain ⟨_, _, rfl, rfl, ⟨_, _, rfl, rfl, rfl⟩⟩ := h
 exact rfl
theorem k36_mkM (w : World) (base : Nat) (ok : Nat → Prop) (x : S36)  : k36.M w base ok x [.int .i64 x.f0, .int .i64 x.f1, .int .i64 x.f2] := ⟨[.int .i64 x.f0], [.int .i64 x.f1, .int .i64 x.f2], rfl, rfl, ⟨[.int .i64 x.f1], [.int .i64 x.f2], rfl, rfl, rfl⟩⟩
structure S38 where
 f0 : ByteArray
 f1 : ByteArray
 f2 : ByteArray
 f3 : Int
 f4 : S33
 f5 : Int
 f6 : (List S176)
 f7 : Int
 f8 : S36
 f9 : Bool
 f10 : Int
def k38 : Kd S38 := Kd.iso (Kd.pair Kd.string (Kd.pair Kd.string (Kd.pair Kd.string (Kd.pair (Kd.int .i64) (Kd.pair k33 (Kd.pair (Kd.int .i64) (Kd.pair (Kd.slice 176 k176) (Kd.pair (Kd.int .i64) (Kd.pair k36 (Kd.pair Kd.bool (Kd.int .i64))))))))))) (fun x : S38 => (x.f0, x.f1, x.f2, x.f3, x.f4, x.f5, x.f6, x.f7, x.f8, x.f9, x.f10))
theorem k38_open {w : World} {x : S38} {cs : List Value} (h : k38.K w x cs) : ∃ A11 c11, cs = [.string x.f0, .string x.f1, .string x.f2, .int .i64 x.f3, .int .i64 x.f4.f0.f0, .int .i64 x.f4.f0.f1, .int .i64 x.f4.f1.f0, .int .i64 x.f4.f1.f1, .int .i64 x.f4.f2.f0, .int .i64 x.f4.f2.f1, .int .i64 x.f5, .slice A11 x.f6.length c11, .int .i64 x.f7, .int .i64 x.f8.f0, .int .i64 x.f8.f1, .int .i64 x.f8.f2, .bool x.f9, .int .i64 x.f10] ∧ x.f6.length ≤ c11 ∧ k176.C w A11 x.f6.length x.f6 := by
 obtain ⟨_, _, rfl, rfl, ⟨_, _, rfl, rfl, ⟨_, _, rfl, rfl, ⟨_, _, rfl, rfl, ⟨_, _, rfl, s4, ⟨_, _, rfl, rfl, ⟨_, _, rfl, ⟨A11, c11, rfl, l11, g11⟩, ⟨_, _, rfl, rfl, ⟨_, _, rfl, s13, ⟨_, _, rfl, rfl, rfl⟩⟩⟩⟩⟩⟩⟩⟩⟩⟩ := h
 obtain rfl := k33_open s4
 obtain rfl := k36_open s13
 exact ⟨A11, c11, rfl, l11, g11⟩
theorem k38_mkM (w : World) (base : Nat) (ok : Nat → Prop) (x : S38) {v11 : Value} (g11 : k176.R 176 w base ok v11 x.f6) : k38.M w base ok x [.string x.f0, .string x.f1, .string x.f2, .int .i64 x.f3, .int .i64 x.f4.f0.f0, .int .i64 x.f4.f0.f1, .int .i64 x.f4.f1.f0, .int .i64 x.f4.f1.f1, .int .i64 x.f4.f2.f0, .int .i64 x.f4.f2.f1, .int .i64 x.f5, v11, .int .i64 x.f7, .int .i64 x.f8.f0, .int .i64 x.f8.f1, .int .i64 x.f8.f2, .bool x.f9, .int .i64 x.f10] := ⟨[.string x.f0], [.string x.f1, .string x.f2, .int .i64 x.f3, .int .i64 x.f4.f0.f0, .int .i64 x.f4.f0.f1, .int .i64 x.f4.f1.f0, .int .i64 x.f4.f1.f1, .int .i64 x.f4.f2.f0, .int .i64 x.f4.f2.f1, .int .i64 x.f5, v11, .int .i64 x.f7, .int .i64 x.f8.f0, .int .i64 x.f8.f1, .int .i64 x.f8.f2, .bool x.f9, .int .i64 x.f10], rfl, rfl, ⟨[.string x.f1], [.string x.f2, .int .i64 x.f3, .int .i64 x.f4.f0.f0, .int .i64 x.f4.f0.f1, .int .i64 x.f4.f1.f0, .int .i64 x.f4.f1.f1, .int .i64 x.f4.f2.f0, .int .i64 x.f4.f2.f1, .int .i64 x.f5, v11, .int .i64 x.f7, .int .i64 x.f8.f0, .int .i64 x.f8.f1, .int .i64 x.f8.f2, .bool x.f9, .int .i64 x.f10], rfl, rfl, ⟨[.string x.f2], [.int .i64 x.f3, .int .i64 x.f4.f0.f0, .int .i64 x.f4.f0.f1, .int .i64 x.f4.f1.f0, .int .i64 x.f4.f1.f1, .int .i64 x.f4.f2.f0, .int .i64 x.f4.f2.f1, .int .i64 x.f5, v11, .int .i64 x.f7, .int .i64 x.f8.f0, .int .i64 x.f8.f1, .int .i64 x.f8.f2, .bool x.f9, .int .i64 x.f10], rfl, rfl, ⟨[.int .i64 x.f3], [.int .i64 x.f4.f0.f0, .int .i64 x.f4.f0.f1, .int .i64 x.f4.f1.f0, .int .i64 x.f4.f1.f1, .int .i64 x.f4.f2.f0, .int .i64 x.f4.f2.f1, .int .i64 x.f5, v11, .int .i64 x.f7, .int .i64 x.f8.f0, .int .i64 x.f8.f1, .int .i64 x.f8.f2, .bool x.f9, .int .i64 x.f10], rfl, rfl, ⟨[.int .i64 x.f4.f0.f0, .int .i64 x.f4.f0.f1, .int .i64 x.f4.f1.f0, .int .i64 x.f4.f1.f1, .int .i64 x.f4.f2.f0, .int .i64 x.f4.f2.f1], [.int .i64 x.f5, v11, .int .i64 x.f7, .int .i64 x.f8.f0, .int .i64 x.f8.f1, .int .i64 x.f8.f2, .bool x.f9, .int .i64 x.f10], rfl, (k33_mkM w base ok x.f4 ), ⟨[.int .i64 x.f5], [v11, .int .i64 x.f7, .int .i64 x.f8.f0, .int .i64 x.f8.f1, .int .i64 x.f8.f2, .bool x.f9, .int .i64 x.f10], rfl, rfl, ⟨[v11], [.int .i64 x.f7, .int .i64 x.f8.f0, .int .i64 x.f8.f1, .int .i64 x.f8.f2, .bool x.f9, .int .i64 x.f10], rfl, ⟨v11, rfl, g11⟩, ⟨[.int .i64 x.f7], [.int .i64 x.f8.f0, .int .i64 x.f8.f1, .int .i64 x.f8.f2, .bool x.f9, .int .i64 x.f10], rfl, rfl, ⟨[.int .i64 x.f8.f0, .int .i64 x.f8.f1, .int .i64 x.f8.f2], [.bool x.f9, .int .i64 x.f10], rfl, (k36_mkM w base ok x.f8 ), ⟨[.bool x.f9], [.int .i64 x.f10], rfl, rfl, rfl⟩⟩⟩⟩⟩⟩⟩⟩⟩⟩
def CellsAt (w : World) (g : Nat) : Nat → List Value → Prop
 | _, [] => True
 | i, c :: cs => w.cell? ⟨g, i, none⟩ = some c ∧ CellsAt w g (i + 1) cs
theorem CellsAt.get {w : World} {g : Nat} : ∀ {cs : List Value} {i : Nat}, CellsAt w g i cs → ∀ j v, cs[j]? = some v → w.cell? ⟨g, i + j, none⟩ = some v
 | [], _, _, j, v, hv => by simp at hv
 | c :: cs, i, h, 0, v, hv => by
  simp only [List.getElem?_cons_zero, Option.some.injEq] at hv
  subst hv
  exact h.1
 | c :: cs, i, h, j + 1, v, hv => by
  have := CellsAt.get h.2 j v (by simpa using hv)
  rw [show i + (j + 1) = i + 1 + j by omega]
  exact this
theorem exec_load_cells {P : Program} {ρ : Operand → Value} {o : Oper} {w : World} (ty : TypeId) (x : Operand) (ho : o.op = .load ty x) (g : Nat) (hx : ρ x = .pointer (some ⟨g, 0, none⟩)) (cs : Array Value) (d : TypeDesc) (hc : CellsAt w g 0 cs.toList)
  (hu : P.underlying ty = some d) (hd : (match d with | .struct _ | .array _ _ => true | _ => false) = true) (hi : (P.info? ty).map (·.size) = some cs.size) : Sem.run P (execOp ρ o) w = .ok (Next.value (.agg cs)) w := by
 have hl : (loadCells ⟨g, 0, none⟩ cs.toList.length).run P w = .ok cs.toList.toArray w :=
  run_loadCells_list (P := P) w ⟨g, 0, none⟩ cs.toList (fun j v hv => by
   have hadd : (⟨g, 0, none⟩ : Addr).add j = ⟨g, 0 + j, none⟩ := by unfold Addr.add; split <;> simp_all
   rw [hadd]
   exact hc.get j v hv)
 have key : (loadVar ty ⟨g, 0, none⟩).run P w = .ok (.agg cs) w := by
  cases hq : P.info? ty with
  | none => simp [hq] at hi
  | some i =>
   have hs : i.size = cs.size := by simpa [hq] using hi
   have hagg : (isAgg ty).run P w = .ok true w := by
    unfold isAgg
    rw [Sem.run_bind, run_underlying hu w]
    cases d <;> simp_all
   simp only [Array.length_toList, Array.toArray_toList] at hl
   simp [loadVar, Sem.run_bind, hagg, sizeOf, typeInfo, hq, hs, hl]
 unfold execOp
 simp only [ho, hx, Instr.loadAt, Instr.sureAddr, Sem.run_bind, Sem.run_pure, Result.andThen_ok, key]
theorem cells_of_blk {w : World} {g : Nat} {t : TypeId} {cs : Array Value} (h : w.heap[g]? = some (.cells cs t (0, 0))) : ∀ (j : Nat) (v : Value), cs.toList[j]? = some v → w.cell? ((⟨g, 0, none⟩ : Addr).add j) = some v := fun j v hv => by
 have hadd : (⟨g, 0, none⟩ : Addr).add j = ⟨g, j, none⟩ := by unfold Addr.add; split <;> simp_all
 rw [hadd, bC h j]
 simpa using hv
theorem wpList_load_cells {P : Program} {ops : Array Oper} {rest : List Oper} {o : Oper} {a : Act} {w : World} {Q : Exit → Act → World → Prop} (hw : Region.wanted o (yielded ops a.tmps) = true) (ty : TypeId) (x : Operand) (ho : o.op = .load ty x)
  (ad : Addr) (hx : a.eval x = .pointer (some ad)) (cs : Array Value) (d : TypeDesc) (hc : ∀ (j : Nat) (v : Value), cs.toList[j]? = some v → w.cell? (ad.add j) = some v)
  (hu : P.underlying ty = some d) (hd : (match d with | .struct _ | .array _ _ => true | _ => false) = true) (hi : (P.info? ty).map (·.size) = some cs.size)
  (h : wpList P ops Q rest (a.put o.dst (.agg cs)) w) : wpList P ops Q (o :: rest) a w := by
 have hl : (loadCells ad cs.toList.length).run P w = .ok cs.toList.toArray w := run_loadCells_list (P := P) w ad cs.toList hc
 have key : (loadVar ty ad).run P w = .ok (.agg cs) w := by
  cases hq : P.info? ty with
  | none => simp [hq] at hi
  | some i =>
   have hs : i.size = cs.size := by simpa [hq] using hi
   have hagg : (isAgg ty).run P w = .ok true w := by
    unfold isAgg
    rw [Sem.run_bind, run_underlying hu w]
    cases d <;> simp_all
   simp only [Array.length_toList, Array.toArray_toList] at hl
   simp [loadVar, Sem.run_bind, hagg, sizeOf, typeInfo, hq, hs, hl]
 unfold wpList
 rw [if_pos hw]
 refine Or.inl ?_
 unfold Oper.wp execOp
 simp only [ho, hx, Instr.loadAt, Instr.sureAddr, Sem.run_bind, Sem.run_pure, Result.andThen_ok, key]
 exact h
theorem exec_store_row {P : Program} {ρ : Operand → Value} {o : Oper} {w : World} (ty : TypeId) (x v : Operand) (ho : o.op = .store ty x v) (g : Nat) (hx : ρ x = .pointer (some ⟨g, 0, none⟩)) (cs : Array Value) (hv : ρ v = .agg cs)
  {cur : Array Value} {t : TypeId} (hg : w.heap[g]? = some (.cells cur t (0, 0))) (hsz : cs.size = cur.size) (h1 : cs.toList.all Value.oneCell' = true)
  (hi : (P.info? ty).map (·.size) = some cs.size) : Sem.run P (execOp ρ o) w = .ok Next.skip (w.setRow g cs) := by
 have hst := run_storeCells_from (P := P) g t cs.toList 0 cur w hg (by simpa using hsz) (fun u hu => List.all_eq_true.mp h1 u hu)
 have key : (storeVar ty ⟨g, 0, none⟩ (.agg cs)).run P w = .ok () (w.setRow g cs) := by
  cases hq : P.info? ty with
  | none => simp [hq] at hi
  | some i =>
   have hs : i.size = cs.size := by simpa [hq] using hi
   simp only [List.take_zero, List.nil_append, Array.toArray_toList] at hst
   simp [storeVar, Sem.run_bind, sizeOf, typeInfo, hq, hs, Value.cells, hst]
 unfold execOp
 simp only [ho, hx, hv, Instr.storeAt, Instr.sureAddr, Sem.run_bind, Sem.run_pure, Result.andThen_ok, key]
theorem grown_setRow (w : World) (g : Nat) (cs : Array Value) : w.grownBy (w.setRow g cs) (some g) :=
 ⟨rfl, rfl, rfl, by simp, fun k _ hne => setRow_other w g k cs (fun e => hne (by rw [e]))⟩
theorem wpList_store_row {P : Program} {ops : Array Oper} {rest : List Oper} {o : Oper} {a : Act} {w : World} {Q : Exit → Act → World → Prop} (hgd : o.guard = none) (ty : TypeId) (x v : Operand) (ho : o.op = .store ty x v) (g : Nat) (hx : a.eval x = .pointer (some ⟨g, 0, none⟩))
  (cs : Array Value) (hv : a.eval v = .agg cs) {cur : Array Value} {t : TypeId} (hg : w.heap[g]? = some (.cells cur t (0, 0))) (hsz : cs.size = cur.size) (h1 : cs.toList.all Value.oneCell' = true) (hi : (P.info? ty).map (·.size) = some cs.size)
  (h : ∀ w1, w1.heap[g]? = some (.cells cs t (0, 0)) → w.grownBy w1 (some g) → wpList P ops Q rest (a.put o.dst undef) w1) : wpList P ops Q (o :: rest) a w := by
 refine wpList_plain hgd fun K hK => ?_
 unfold Oper.wp
 rw [exec_store_row ty x v ho g hx cs hv hg hsz h1 hi]
 exact hK _ _ (h _ (setRow_heap w g cur cs t _ hg) (grown_setRow w g cs))
theorem step_store_row {P : Program} {ops : Array Oper} {o : Oper} {a : Act} {w : World} {K : Act → World → Prop} {Q : Exit → Act → World → Prop} (hw : Region.wanted o (yielded ops a.tmps) = true) (ty : TypeId) (x v : Operand) (ho : o.op = .store ty x v) (hd : o.dst = none) (g : Nat) (hx : a.eval x = .pointer (some ⟨g, 0, none⟩))
  (cs : Array Value) (hv : a.eval v = .agg cs) {cur : Array Value} {t : TypeId} (hg : w.heap[g]? = some (.cells cur t (0, 0))) (hsz : cs.size = cur.size) (h1 : cs.toList.all Value.oneCell' = true) (hi : (P.info? ty).map (·.size) = some cs.size)
  (h : ∀ w1, w1.heap[g]? = some (.cells cs t (0, 0)) → w.grownBy w1 (some g) → K (a.put none undef) w1) : if Region.wanted o (yielded ops a.tmps) = true then Oper.wp P o a w K Q else K (a.put none undef) w := by
 rw [if_pos hw]
 unfold Oper.wp
 rw [exec_store_row ty x v ho g hx cs hv hg hsz h1 hi]
 rw [← hd] at h
 exact h _ (setRow_heap w g cur cs t _ hg) (grown_setRow w g cs)
theorem step_append_grows {α : Type} (d : Kd α) {P : Program} {ops : Array Oper} {o : Oper} {a : Act} {W : World} {K : Act → World → Prop} {Q : Exit → Act → World → Prop} (hw : Region.wanted o (yielded ops a.tmps) = true) (s x : Operand) (t e : TypeId) (N : Option Tmp) (hN : o.dst = N)
  (hop : o.op = Op.call { callee := Callee.builtin Builtin.append, args := #[s, x], argTypes := #[t, t] }) (i : TypeInfo) (z : Value) (bytes : Nat) (ht : P.underlying t = some (.slice e)) (hi : P.info? e = some i) (hzz : i.zero = some z) (hsz : i.size = d.sz) (hby : i.bytes = bytes) (hzs : z.cells.size = d.sz) (hs0 : 0 < d.sz)
  (b b2 : Addr) (n cap m c : Nat) (xs ys : List α) (hs : a.eval s = .slice (some b) n cap) (hx : a.eval x = .slice (some b2) m c) (hC1 : d.C W (some b) n xs) (hC2 : d.C W (some b2) m ys)
  (hg : cap < n + m) (h63 : n + m ≤ maxLen) (hbytes : (n + m) * bytes ≤ 140737488355328)
  (r : Nat) (hr : n + m = r) (h : ∀ W' A c', d.C W' A r (xs ++ ys) → r ≤ c' → Below W.heap.size W W' → K (a.put N (.slice A r c')) W') :
  if Region.wanted o (yielded ops a.tmps) = true then Oper.wp P o a W K Q else K (a.put N undef) W := by
 subst hr
 rw [if_pos hw]
 have e1 := Kd.C_len hC1
 have e2 := Kd.C_len hC2
 obtain ⟨olds, hr1, hc1⟩ := ReadsRow.inner_ hC1
 obtain ⟨news, hr2, hc2⟩ := ReadsRow.inner_ hC2
 have hlo : olds.length = n * d.sz := by rw [hr1.1, e1]
 have hln : news.length = m * d.sz := by rw [hr2.1, e2]
 obtain ⟨v', W', hrun, hown, hgr⟩ := run_append_arg_grows (P := P) W t o.type e i z d.sz bytes ht hi hzz hsz hby hzs hs0 b n cap olds hlo hc1 b2 m c news hln hc2 hg h63 hbytes
 have hb : Below W.heap.size W W' := ⟨hgr.os, hgr.tape, hgr.output, hgr.size, fun k hk => hgr.block k hk (by simp)⟩
 have hrr : Reps (d.K W') d.sz (xs ++ ys) (olds ++ news) := Reps.imp_ (Kd.reps_append hr1 hr2) (fun p c hp => d.K_below hb hp)
 obtain ⟨A, c', hv, hread⟩ := own_reads_row hown hrr (by rw [List.length_append, e1, e2])
 have hcc : n + m ≤ c' := by
  rcases hown.2 with ⟨hn, h0⟩ | ⟨g, cp, cur, hn, _, _, hle, _⟩
  ·rw [hv] at hn
   injection hn with _ h1 h2
   omega
  ·rw [hv] at hn
   injection hn with _ h1 h2
   omega
 unfold Oper.wp
 rw [hv] at hrun
 simp [execOp, hop, resolve, invoke, builtin, hs, hx, hrun, Result.andThen]
 subst hN
 exact h W' A c' hread hcc hb
theorem exec_load_blk {P : Program} {ρ : Operand → Value} {o : Oper} {w : World} (ty : TypeId) (x : Operand) (ho : o.op = .load ty x) (g : Nat) (hx : ρ x = .pointer (some ⟨g, 0, none⟩)) {cs : Array Value} {t : TypeId} (hg : w.heap[g]? = some (.cells cs t (0, 0))) {d : TypeDesc}
  (hu : P.underlying ty = some d) (hd : (match d with | .struct _ | .array _ _ => true | _ => false) = true) (hi : (P.info? ty).map (·.size) = some cs.size) : Sem.run P (execOp ρ o) w = .ok (Next.value (.agg cs)) w := by
 have hl : (loadCells ⟨g, 0, none⟩ cs.toList.length).run P w = .ok cs.toList.toArray w := run_loadCells_list (P := P) w ⟨g, 0, none⟩ cs.toList (cells_of_blk hg)
 have key : (loadVar ty ⟨g, 0, none⟩).run P w = .ok (.agg cs) w := by
  cases hq : P.info? ty with
  | none => simp [hq] at hi
  | some i =>
   have hs : i.size = cs.size := by simpa [hq] using hi
   have hagg : (isAgg ty).run P w = .ok true w := by
    unfold isAgg
    rw [Sem.run_bind, run_underlying hu w]
    cases d <;> simp_all
   simp only [Array.length_toList, Array.toArray_toList] at hl
   simp [loadVar, Sem.run_bind, hagg, sizeOf, typeInfo, hq, hs, hl]
 unfold execOp
 simp only [ho, hx, Instr.loadAt, Instr.sureAddr, Sem.run_bind, Sem.run_pure, Result.andThen_ok, key]
theorem run_loadVar_blk {P : Program} {w : World} (ty : TypeId) (g : Nat) {cs : Array Value} {t : TypeId} (hg : w.heap[g]? = some (.cells cs t (0, 0))) {d : TypeDesc}
  (hu : P.underlying ty = some d) (hd : (match d with | .struct _ | .array _ _ => true | _ => false) = true) (hi : (P.info? ty).map (·.size) = some cs.size) : (loadVar ty ⟨g, 0, none⟩).run P w = .ok (.agg cs) w := by
 have hl : (loadCells ⟨g, 0, none⟩ cs.toList.length).run P w = .ok cs.toList.toArray w := run_loadCells_list (P := P) w ⟨g, 0, none⟩ cs.toList (cells_of_blk hg)
 cases hq : P.info? ty with
 | none => simp [hq] at hi
 | some i =>
  have hs : i.size = cs.size := by simpa [hq] using hi
  have hagg : (isAgg ty).run P w = .ok true w := by
   unfold isAgg
   rw [Sem.run_bind, run_underlying hu w]
   cases d <;> simp_all
  simp only [Array.length_toList, Array.toArray_toList] at hl
  simp [loadVar, Sem.run_bind, hagg, sizeOf, typeInfo, hq, hs, hl]
theorem results_cells2 {fn : Func} {t u : Tmp} {ty1 ty2 : TypeId} (h : fn.results = #[.cell t ty1, .cell u ty2]) (tmps : Array Value) (P : Program) (w : World) (g1 g2 : Nat) (h1 : tmps.getD t undef = .pointer (some ⟨g1, 0, none⟩)) (h2 : tmps.getD u undef = .pointer (some ⟨g2, 0, none⟩)) {v1 v2 : Value}
  (b1 : (loadVar ty1 ⟨g1, 0, none⟩).run P w = .ok v1 w) (b2 : (loadVar ty2 ⟨g2, 0, none⟩).run P w = .ok v2 w) : (results fn tmps).run P w = .ok (.tuple #[v1, v2]) w := by
 rw [Array.getD_eq_getD_getElem?] at h1 h2
 simp [results, h, h1, h2, asAddr, b1, b2]
theorem exec_load_at {P : Program} {ρ : Operand → Value} {o : Oper} {w : World} (ty : TypeId) (x : Operand) (ho : o.op = .load ty x) (ad : Addr) (hx : ρ x = .pointer (some ad)) (cs : Array Value) (hc : ∀ (j : Nat) (v : Value), cs.toList[j]? = some v → w.cell? (ad.add j) = some v) {d : TypeDesc}
  (hu : P.underlying ty = some d) (hd : (match d with | .struct _ | .array _ _ => true | _ => false) = true) (hi : (P.info? ty).map (·.size) = some cs.size) : Sem.run P (execOp ρ o) w = .ok (Next.value (.agg cs)) w := by
 have hl : (loadCells ad cs.toList.length).run P w = .ok cs.toList.toArray w := run_loadCells_list (P := P) w ad cs.toList hc
 have key : (loadVar ty ad).run P w = .ok (.agg cs) w := by
  cases hq : P.info? ty with
  | none => simp [hq] at hi
  | some i =>
   have hs : i.size = cs.size := by simpa [hq] using hi
   have hagg : (isAgg ty).run P w = .ok true w := by
    unfold isAgg
    rw [Sem.run_bind, run_underlying hu w]
    cases d <;> simp_all
   simp only [Array.length_toList, Array.toArray_toList] at hl
   simp [loadVar, Sem.run_bind, hagg, sizeOf, typeInfo, hq, hs, hl]
 unfold execOp
 simp only [ho, hx, Instr.loadAt, Instr.sureAddr, Sem.run_bind, Sem.run_pure, Result.andThen_ok, key]
theorem step_lit {P : Program} {ops : Array Oper} {o : Oper} {a : Act} {W : World} {K : Act → World → Prop} {Q : Exit → Act → World → Prop} (hw : Region.wanted o (yielded ops a.tmps) = true) (N : Option Tmp) (hd : o.dst = N) (n : Nat) (cs : Array Value) (e : TypeId)
  (hrun : (execOp a.eval o).run P W = .ok (.value (.slice (some ⟨W.heap.size, 0, none⟩) n n)) (W.alloc (.cells cs e (0, 0))))
  (h : ∀ g, g = W.heap.size → ∀ w1, w1.heap[g]? = some (.cells cs e (0, 0)) → Below W.heap.size W w1 → K (a.put N (.slice (some ⟨g, 0, none⟩) n n)) w1) : if Region.wanted o (yielded ops a.tmps) = true then Oper.wp P o a W K Q else K (a.put N undef) W := by
 rw [if_pos hw]
 subst hd
 unfold Oper.wp
 rw [hrun]
 exact h _ rfl _ (blk_new W _) (pA (Below.refl _ _) _)
theorem C_of_blk1 {α : Type} (d : Kd α) {x : α} {w : World} {g : Nat} {t : TypeId} {cs : Array Value} (hb : w.heap[g]? = some (.cells cs t (0, 0))) (hK : d.K w x cs.toList) : Kd.C d w (some ⟨g, 0, none⟩) 1 [x] := by
 refine ⟨rfl, by decide, fun _ => ⟨_, rfl, fun j p hj => ?_⟩⟩
 cases j with
 | succ j => simp at hj
 | zero =>
  obtain rfl : x = p := by simpa using hj
  refine ⟨cs.toList, d.K_len hK, hK, fun i u hu => ?_⟩
  rw [Nat.zero_mul, Nat.zero_add]
  exact cells_of_blk hb i u hu
theorem wpList_store_cell {P : Program} {ops : Array Oper} {rest : List Oper} {o : Oper} {a : Act} {w : World} {Q : Exit → Act → World → Prop} (hgd : o.guard = none) (ty : TypeId) (x v : Operand) (ho : o.op = .store ty x v) (g i : Nat) (hx : a.eval x = .pointer (some ⟨g, i, none⟩))
  (u : Value) (hv : a.eval v = u) (hu : u.cells = #[u]) (h1 : u.oneCell' = true) {cur : Array Value} {t : TypeId} (hg : w.heap[g]? = some (.cells cur t (0, 0))) (hlt : i < cur.size) (cs : Array Value) (hcs : (cur.toList.take (i + 0) ++ [u] ++ cur.toList.drop (i + 0 + 1)).toArray = cs) (hi : (P.info? ty).map (·.size) = some 1)
  (h : ∀ w1, w1.heap[g]? = some (.cells cs t (0, 0)) → w.grownBy w1 (some g) → wpList P ops Q rest (a.put o.dst undef) w1) : wpList P ops Q (o :: rest) a w := by
 have hst := run_storeCells_at (P := P) g i t [u] 0 cur w hg (by simp only [List.length_singleton]; omega) (by simpa using h1)
 have key : (storeVar ty ⟨g, i, none⟩ u).run P w = .ok () (w.setRow g cs) := by
  cases hq : P.info? ty with
  | none => simp [hq] at hi
  | some j =>
   have hs : j.size = 1 := by simpa [hq] using hi
   rw [← hcs]
   simp only [List.length_singleton] at hst
   simp [storeVar, Sem.run_bind, sizeOf, typeInfo, hq, hs, hu, hst]
 have hrun : Sem.run P (execOp a.eval o) w = .ok Next.skip (w.setRow g cs) := by
  unfold execOp
  simp only [ho, hx, hv, Instr.storeAt, Instr.sureAddr, Sem.run_bind, Sem.run_pure, Result.andThen_ok, key]
 refine wpList_plain hgd fun K hK => ?_
 unfold Oper.wp
 rw [hrun]
 exact hK _ _ (h _ (setRow_heap w g cur cs t _ hg) (grown_setRow w g cs))
def ElemAt (w : World) (a : Addr) : Nat → List Value → Prop
 | _, [] => True
 | i, c :: cs => w.cell? ⟨a.block, a.off + i, none⟩ = some c ∧ ElemAt w a (i + 1) cs
theorem ElemAt.get {w : World} {a : Addr} : ∀ {cs : List Value} {i : Nat}, ElemAt w a i cs → ∀ j v, cs[j]? = some v → w.cell? ⟨a.block, a.off + (i + j), none⟩ = some v
 | [], _, _, j, v, hv => by simp at hv
 | c :: cs, i, h, 0, v, hv => by
  simp only [List.getElem?_cons_zero, Option.some.injEq] at hv
  subst hv
  exact h.1
 | c :: cs, i, h, j + 1, v, hv => by
  have := ElemAt.get h.2 j v (by simpa using hv)
  rw [show i + (j + 1) = i + 1 + j by omega]
  exact this
theorem blk_all {w : World} {g : Nat} {t : TypeId} {cs : Array Value} (h : w.heap[g]? = some (.cells cs t (0, 0))) : CellsAt w g 0 cs.toList := by
 have key : ∀ (l : List Value) (i : Nat), (∀ j v, l[j]? = some v → w.cell? ⟨g, i + j, none⟩ = some v) → CellsAt w g i l := by
  intro l
  induction l with
  | nil => intro i _; exact trivial
  | cons c l ih =>
   intro i hi
   exact ⟨by simpa using hi 0 c rfl, ih (i + 1) (fun j v hj => by rw [show i + 1 + j = i + (j + 1) by omega]; exact hi (j + 1) v (by simpa using hj))⟩
 refine key cs.toList 0 (fun j v hj => ?_)
 rw [Nat.zero_add, bC h j]
 simpa using hj
end Go.Proofs.YtblmgmhjlbkncaaDoor.PA
namespace Go.Proofs.YtblmgmhjlbkncaaDoor.PA
open Go.RowKit Go.Proofs.YtblmgmhjlbkncaaDoorW.PrintWords Go.Proofs.YtblmgmhjlbkncaaDoorW.PrintLast Go.Proofs.YtblmgmhjlbkncaaDoorW.PrintMore
attribute [local go_sem] max2_int min2_int max_two min_two max_three min_three max_four min_four
set_option linter.unusedVariables false
set_option linter.unusedSimpArgs false
def sawmilllaw19_Short.l0 : Nat → List (S54) → Int → Option (Bool)
 | 0, _, _ => none
 | k + 1, x0, x3 => if x3 < (x0.length : Int) then (if x3 ≥ 20 then (some false) else (if 0 ≤ x3 then (if (((rd_T54 x0 x3).f5).length : Int) > 12 then (some false) else (if (((rd_T54 x0 x3).f6).length : Int) > 12 then (some false) else (if (((rd_T54 x0 x3).f0).size : Int) > 100 then (some false) else (sawmilllaw19_Short.l0 k x0 (wrap64 (x3 + 1)))))) else (none))) else (some true)
def sawmilllaw19_Short.f (k : Nat) (l0 : List (S54)) : Option (Bool) := sawmilllaw19_Short.l0 k l0 0
set_option maxHeartbeats 8000000 in
set_option maxRecDepth 100000 in
theorem sawmilllaw19_Short.calls (k : Nat) (A0 : Option Addr) (c0 : Nat) (l0 : List (S54)) (r : Bool) (w : World) (hr0 : Kd.C k54 w A0 l0.length l0) (hc0 : l0.length ≤ c0) (h : sawmilllaw19_Short.f k l0 = some r) :
  Calls Tryd.prog 10 #[.slice A0 l0.length c0] w fun e w' => e = .returned (.bool r) ∧ Drawn0 w w' := by
 have HR0 := Aside0.mk hr0
 have HC0 := Aside0.mk hc0
 clear hr0 hc0
 have H : (sawmilllaw19_Short.l0 k l0 0) = some r := h
 clear h
 have H' := Aside0.mk H
 clear H
 go_enter Tryd.func10, Tryd.ntmps10
 go_wp2
 go_loopg [3] k (fun kq v3 w' => ∃ (x3_1 : Int), v3 = .int .i64 x3_1 ∧ Aside0 (sawmilllaw19_Short.l0 kq l0 x3_1 = some r) ∧ Aside0 (kq ≤ k) ∧ Drawn0 w w')
 case atStart => exact ⟨(0), (by first | rfl | (simp; done) | (simp [*]; done)), H', ⟨Nat.le_refl _⟩, by repeat (first | exact Drawn0.refl _ | apply Drawn0.step)⟩
 case round =>
  clear H'
  try clear c1
  obtain ⟨x3_1, rfl, HA, HK1, ⟨m1, rfl⟩⟩ := hrel
  cases gk with
  | zero => exact absurd HA.out (by simp [sawmilllaw19_Short.l0])
  | succ k1 =>
   have H := HA.out
   clear HA
   simp only [sawmilllaw19_Short.l0] at H
   by_cases c2 : x3_1 < (l0.length : Int)
   ·rw [if_pos c2] at H
    have c2b0 : decide (x3_1 < (l0.length : Int)) = true := decide_eq_true c2
    clear c2
    by_cases c3 : x3_1 ≥ 20
    ·rw [if_pos c3] at H
     have c3b0 : decide (20 ≤ x3_1) = true := decide_eq_true c3
     clear c3
     obtain rfl := Option.some.inj H
     go_wp2
     go_ret
     exact ⟨by first | rfl | (simp; done) | (simp [*]; done), by repeat (first | exact Drawn0.refl _ | apply Drawn0.step)⟩
    ·rw [if_neg c3] at H
     have c3b0 : decide (20 ≤ x3_1) = false := decide_eq_false c3
     clear c3
     by_cases c4 : 0 ≤ x3_1
     ·rw [if_pos c4] at H
      have c4b0 : decide (0 ≤ x3_1) = true := decide_eq_true c4
      clear c4
      by_cases c5 : (((rd_T54 l0 x3_1).f5).length : Int) > 12
      ·rw [if_pos c5] at H
       have c5b0 : decide (12 < (((rd_T54 l0 x3_1).f5).length : Int)) = true := decide_eq_true c5
       have c5b1 : decide (12 < ((rd_T54 l0 x3_1).f5).length) = true := decide_eq_true (by omega)
       clear c5
       obtain rfl := Option.some.inj H
       have p101 : 0 ≤ (x3_1 : Int) := of_decide_eq_true (by first | (with_reducible assumption) | assumption)
       have q101 : x3_1 < (l0.length : Int) := of_decide_eq_true (by first | (with_reducible assumption) | assumption)
       obtain ⟨ad101, A101_5, c101_5, A101_6, c101_6, e101, hx101_0, hx101_1, hx101_2, hx101_3, hx101_4, hx101_5, hx101_6, hl101_5, hi101_5, hl101_6, hi101_6⟩ := at_T54 HR0.out x3_1 p101 q101
       cases e101
       have HR101_5 := Aside0.mk hi101_5
       have HC101_5 := Aside0.mk hl101_5
       clear hi101_5 hl101_5
       have HR101_6 := Aside0.mk hi101_6
       have HC101_6 := Aside0.mk hl101_6
       clear hi101_6 hl101_6
       replace p101 := eq_true p101
       replace q101 := eq_true q101
       go_wp2
       go_ret
       exact ⟨by first | rfl | (simp; done) | (simp [*]; done), by repeat (first | exact Drawn0.refl _ | apply Drawn0.step)⟩
      ·rw [if_neg c5] at H
       have c5b0 : decide (12 < (((rd_T54 l0 x3_1).f5).length : Int)) = false := decide_eq_false c5
       have c5b1 : decide (12 < ((rd_T54 l0 x3_1).f5).length) = false := decide_eq_false (by omega)
       clear c5
       by_cases c6 : (((rd_T54 l0 x3_1).f6).length : Int) > 12
       ·rw [if_pos c6] at H
        have c6b0 : decide (12 < (((rd_T54 l0 x3_1).f6).length : Int)) = true := decide_eq_true c6
        have c6b1 : decide (12 < ((rd_T54 l0 x3_1).f6).length) = true := decide_eq_true (by omega)
        clear c6
        obtain rfl := Option.some.inj H
        have p101 : 0 ≤ (x3_1 : Int) := of_decide_eq_true (by first | (with_reducible assumption) | assumption)
        have q101 : x3_1 < (l0.length : Int) := of_decide_eq_true (by first | (with_reducible assumption) | assumption)
        obtain ⟨ad101, A101_5, c101_5, A101_6, c101_6, e101, hx101_0, hx101_1, hx101_2, hx101_3, hx101_4, hx101_5, hx101_6, hl101_5, hi101_5, hl101_6, hi101_6⟩ := at_T54 HR0.out x3_1 p101 q101
        cases e101
        have HR101_5 := Aside0.mk hi101_5
        have HC101_5 := Aside0.mk hl101_5
        clear hi101_5 hl101_5
        have HR101_6 := Aside0.mk hi101_6
        have HC101_6 := Aside0.mk hl101_6
        clear hi101_6 hl101_6
        replace p101 := eq_true p101
        replace q101 := eq_true q101
        have p102 : 0 ≤ (x3_1 : Int) := of_decide_eq_true (by first | (with_reducible assumption) | assumption)
        have q102 : x3_1 < (l0.length : Int) := of_decide_eq_true (by first | (with_reducible assumption) | assumption)
        obtain ⟨ad102, A102_5, c102_5, A102_6, c102_6, e102, hx102_0, hx102_1, hx102_2, hx102_3, hx102_4, hx102_5, hx102_6, hl102_5, hi102_5, hl102_6, hi102_6⟩ := at_T54 HR0.out x3_1 p102 q102
        obtain rfl : ad101 = ad102 := (by injection e102)
        have HR102_5 := Aside0.mk hi102_5
        have HC102_5 := Aside0.mk hl102_5
        clear hi102_5 hl102_5
        have HR102_6 := Aside0.mk hi102_6
        have HC102_6 := Aside0.mk hl102_6
        clear hi102_6 hl102_6
        replace p102 := eq_true p102
        replace q102 := eq_true q102
        have ea_ := Option.some.inj (hx101_5.symm.trans hx102_5)
        injection ea_ with ea_ en_ ec_
        subst ea_
        subst ec_
        clear en_
        have ea_ := Option.some.inj (hx101_6.symm.trans hx102_6)
        injection ea_ with ea_ en_ ec_
        subst ea_
        subst ec_
        clear en_
        go_wp2
        go_ret
        exact ⟨by first | rfl | (simp; done) | (simp [*]; done), by repeat (first | exact Drawn0.refl _ | apply Drawn0.step)⟩
       ·rw [if_neg c6] at H
        have c6b0 : decide (12 < (((rd_T54 l0 x3_1).f6).length : Int)) = false := decide_eq_false c6
        have c6b1 : decide (12 < ((rd_T54 l0 x3_1).f6).length) = false := decide_eq_false (by omega)
        clear c6
        by_cases c7 : (((rd_T54 l0 x3_1).f0).size : Int) > 100
        ·rw [if_pos c7] at H
         have c7b0 : decide (100 < (((rd_T54 l0 x3_1).f0).size : Int)) = true := decide_eq_true c7
         have c7b1 : decide (100 < ((rd_T54 l0 x3_1).f0).size) = true := decide_eq_true (by omega)
         clear c7
         obtain rfl := Option.some.inj H
         have p101 : 0 ≤ (x3_1 : Int) := of_decide_eq_true (by first | (with_reducible assumption) | assumption)
         have q101 : x3_1 < (l0.length : Int) := of_decide_eq_true (by first | (with_reducible assumption) | assumption)
         obtain ⟨ad101, A101_5, c101_5, A101_6, c101_6, e101, hx101_0, hx101_1, hx101_2, hx101_3, hx101_4, hx101_5, hx101_6, hl101_5, hi101_5, hl101_6, hi101_6⟩ := at_T54 HR0.out x3_1 p101 q101
         cases e101
         have HR101_5 := Aside0.mk hi101_5
         have HC101_5 := Aside0.mk hl101_5
         clear hi101_5 hl101_5
         have HR101_6 := Aside0.mk hi101_6
         have HC101_6 := Aside0.mk hl101_6
         clear hi101_6 hl101_6
         replace p101 := eq_true p101
         replace q101 := eq_true q101
         have p102 : 0 ≤ (x3_1 : Int) := of_decide_eq_true (by first | (with_reducible assumption) | assumption)
         have q102 : x3_1 < (l0.length : Int) := of_decide_eq_true (by first | (with_reducible assumption) | assumption)
         obtain ⟨ad102, A102_5, c102_5, A102_6, c102_6, e102, hx102_0, hx102_1, hx102_2, hx102_3, hx102_4, hx102_5, hx102_6, hl102_5, hi102_5, hl102_6, hi102_6⟩ := at_T54 HR0.out x3_1 p102 q102
         obtain rfl : ad101 = ad102 := (by injection e102)
         have HR102_5 := Aside0.mk hi102_5
         have HC102_5 := Aside0.mk hl102_5
         clear hi102_5 hl102_5
         have HR102_6 := Aside0.mk hi102_6
         have HC102_6 := Aside0.mk hl102_6
         clear hi102_6 hl102_6
         replace p102 := eq_true p102
         replace q102 := eq_true q102
         have ea_ := Option.some.inj (hx101_5.symm.trans hx102_5)
         injection ea_ with ea_ en_ ec_
         subst ea_
         subst ec_
         clear en_
         have ea_ := Option.some.inj (hx101_6.symm.trans hx102_6)
         injection ea_ with ea_ en_ ec_
         subst ea_
         subst ec_
         clear en_
         have p103 : 0 ≤ (x3_1 : Int) := of_decide_eq_true (by first | (with_reducible assumption) | assumption)
         have q103 : x3_1 < (l0.length : Int) := of_decide_eq_true (by first | (with_reducible assumption) | assumption)
         obtain ⟨ad103, A103_5, c103_5, A103_6, c103_6, e103, hx103_0, hx103_1, hx103_2, hx103_3, hx103_4, hx103_5, hx103_6, hl103_5, hi103_5, hl103_6, hi103_6⟩ := at_T54 HR0.out x3_1 p103 q103
         obtain rfl : ad101 = ad103 := (by injection e103)
         have HR103_5 := Aside0.mk hi103_5
         have HC103_5 := Aside0.mk hl103_5
         clear hi103_5 hl103_5
         have HR103_6 := Aside0.mk hi103_6
         have HC103_6 := Aside0.mk hl103_6
         clear hi103_6 hl103_6
         replace p103 := eq_true p103
         replace q103 := eq_true q103
         have ea_ := Option.some.inj (hx101_5.symm.trans hx103_5)
         injection ea_ with ea_ en_ ec_
         subst ea_
         subst ec_
         clear en_
         have ea_ := Option.some.inj (hx101_6.symm.trans hx103_6)
         injection ea_ with ea_ en_ ec_
         subst ea_
         subst ec_
         clear en_
         go_wp2
         go_ret
         exact ⟨by first | rfl | (simp; done) | (simp [*]; done), by repeat (first | exact Drawn0.refl _ | apply Drawn0.step)⟩
        ·rw [if_neg c7] at H
         have c7b0 : decide (100 < (((rd_T54 l0 x3_1).f0).size : Int)) = false := decide_eq_false c7
         have c7b1 : decide (100 < ((rd_T54 l0 x3_1).f0).size) = false := decide_eq_false (by omega)
         clear c7
         have H' := Aside0.mk H
         clear H
         have p101 : 0 ≤ (x3_1 : Int) := of_decide_eq_true (by first | (with_reducible assumption) | assumption)
         have q101 : x3_1 < (l0.length : Int) := of_decide_eq_true (by first | (with_reducible assumption) | assumption)
         obtain ⟨ad101, A101_5, c101_5, A101_6, c101_6, e101, hx101_0, hx101_1, hx101_2, hx101_3, hx101_4, hx101_5, hx101_6, hl101_5, hi101_5, hl101_6, hi101_6⟩ := at_T54 HR0.out x3_1 p101 q101
         cases e101
         have HR101_5 := Aside0.mk hi101_5
         have HC101_5 := Aside0.mk hl101_5
         clear hi101_5 hl101_5
         have HR101_6 := Aside0.mk hi101_6
         have HC101_6 := Aside0.mk hl101_6
         clear hi101_6 hl101_6
         replace p101 := eq_true p101
         replace q101 := eq_true q101
         have p102 : 0 ≤ (x3_1 : Int) := of_decide_eq_true (by first | (with_reducible assumption) | assumption)
         have q102 : x3_1 < (l0.length : Int) := of_decide_eq_true (by first | (with_reducible assumption) | assumption)
         obtain ⟨ad102, A102_5, c102_5, A102_6, c102_6, e102, hx102_0, hx102_1, hx102_2, hx102_3, hx102_4, hx102_5, hx102_6, hl102_5, hi102_5, hl102_6, hi102_6⟩ := at_T54 HR0.out x3_1 p102 q102
         obtain rfl : ad101 = ad102 := (by injection e102)
         have HR102_5 := Aside0.mk hi102_5
         have HC102_5 := Aside0.mk hl102_5
         clear hi102_5 hl102_5
         have HR102_6 := Aside0.mk hi102_6
         have HC102_6 := Aside0.mk hl102_6
         clear hi102_6 hl102_6
         replace p102 := eq_true p102
         replace q102 := eq_true q102
         have ea_ := Option.some.inj (hx101_5.symm.trans hx102_5)
         injection ea_ with ea_ en_ ec_
         subst ea_
         subst ec_
         clear en_
         have ea_ := Option.some.inj (hx101_6.symm.trans hx102_6)
         injection ea_ with ea_ en_ ec_
         subst ea_
         subst ec_
         clear en_
         have p103 : 0 ≤ (x3_1 : Int) := of_decide_eq_true (by first | (with_reducible assumption) | assumption)
         have q103 : x3_1 < (l0.length : Int) := of_decide_eq_true (by first | (with_reducible assumption) | assumption)
         obtain ⟨ad103, A103_5, c103_5, A103_6, c103_6, e103, hx103_0, hx103_1, hx103_2, hx103_3, hx103_4, hx103_5, hx103_6, hl103_5, hi103_5, hl103_6, hi103_6⟩ := at_T54 HR0.out x3_1 p103 q103
         obtain rfl : ad101 = ad103 := (by injection e103)
         have HR103_5 := Aside0.mk hi103_5
         have HC103_5 := Aside0.mk hl103_5
         clear hi103_5 hl103_5
         have HR103_6 := Aside0.mk hi103_6
         have HC103_6 := Aside0.mk hl103_6
         clear hi103_6 hl103_6
         replace p103 := eq_true p103
         replace q103 := eq_true q103
         have ea_ := Option.some.inj (hx101_5.symm.trans hx103_5)
         injection ea_ with ea_ en_ ec_
         subst ea_
         subst ec_
         clear en_
         have ea_ := Option.some.inj (hx101_6.symm.trans hx103_6)
         injection ea_ with ea_ en_ ec_
         subst ea_
         subst ec_
         clear en_
         go_wp2
         go_roundg k1
         case measure => have := HK1.out; omega
         case rel => exact ⟨(wrap64 (x3_1 + 1)), (by first | rfl | (simp; done) | (simp [*]; done)), H', ⟨by have := HK1.out; omega⟩, by repeat (first | exact Drawn0.refl _ | apply Drawn0.step)⟩
     ·rw [if_neg c4] at H
      exact absurd H (by simp)
   ·rw [if_neg c2] at H
    have c2b0 : decide (x3_1 < (l0.length : Int)) = false := decide_eq_false c2
    clear c2
    obtain rfl := Option.some.inj H
    go_wp2
    go_ret
    exact ⟨by first | rfl | (simp; done) | (simp [*]; done), by repeat (first | exact Drawn0.refl _ | apply Drawn0.step)⟩
def ident_digit.f (a0 : Int) : Option (Bool) := if 48 ≤ a0 then (some (decide (a0 ≤ 57))) else (some false)
set_option maxHeartbeats 8000000 in
set_option maxRecDepth 100000 in
theorem ident_digit.calls (a0 : Int) (r : Bool) (w : World) (h : ident_digit.f a0 = some r) :
  Calls Tryd.prog 63 #[.int .u8 a0] w fun e w' => e = .returned (.bool r) ∧ Drawn0 w w' := by
 have H : (if 48 ≤ a0 then (some (decide (a0 ≤ 57))) else (some false)) = some r := h
 clear h
 by_cases c2 : 48 ≤ a0
 ·rw [if_pos c2] at H
  have c2b0 : decide (48 ≤ a0) = true := decide_eq_true c2
  clear c2
  obtain rfl := Option.some.inj H
  go_enter Tryd.func63, Tryd.ntmps63
  go_wp2
  go_ret
  exact ⟨by first | rfl | (simp; done) | (simp [*]; done), by repeat (first | exact Drawn0.refl _ | apply Drawn0.step)⟩
 ·rw [if_neg c2] at H
  have c2b0 : decide (48 ≤ a0) = false := decide_eq_false c2
  clear c2
  obtain rfl := Option.some.inj H
  go_enter Tryd.func63, Tryd.ntmps63
  go_wp2
  go_ret
  exact ⟨by first | rfl | (simp; done) | (simp [*]; done), by repeat (first | exact Drawn0.refl _ | apply Drawn0.step)⟩
mutual
def ident_IsName.j0 : Nat → ByteArray → Bool → Option (Bool)
 | 0, _, _ => none
 | k + 1, x0, x21 => if x21 = true then (some false) else (ident_IsName.l0 k x0 (x0.size : Int) 0)
def ident_IsName.l0 : Nat → ByteArray → Int → Int → Option (Bool)
 | 0, _, _, _ => none
 | k + 1, x0, x23, x24 => if x24 < x23 then (if 0 ≤ x24 then (if x24 < (x0.size : Int) then ((ident_digit.f (bt x0 x24)).bind fun t105 => (if t105 = true then (ident_IsName.l0 k x0 x23 (wrap64 (x24 + 1))) else (if (bt x0 x24) = 95 then (ident_IsName.l0 k x0 x23 (wrap64 (x24 + 1))) else (if (bt x0 x24) < 97 then (some false) else (if (bt x0 x24) > 122 then (some false) else (ident_IsName.l0 k x0 x23 (wrap64 (x24 + 1)))))))) else (none)) else (none)) else (some true)
end
def ident_IsName.f (k : Nat) (a0 : ByteArray) : Option (Bool) := if a0.toList = ([] : List UInt8) then (ident_IsName.j0 k a0 true) else (if (a0.size : Int) > 16 then (ident_IsName.j0 k a0 true) else (if 0 < (a0.size : Int) then ((ident_digit.f (bt a0 0)).bind fun t104 => (if t104 = true then (ident_IsName.j0 k a0 true) else (ident_IsName.j0 k a0 ((bt a0 0) == 95)))) else (none)))
set_option maxHeartbeats 8000000 in
set_option maxRecDepth 100000 in
theorem ident_IsName.calls (k : Nat) (a0 : ByteArray) (r : Bool) (w : World) (h : ident_IsName.f k a0 = some r) :
  Calls Tryd.prog 29 #[.string a0] w fun e w' => e = .returned (.bool r) ∧ Drawn0 w w' := by
 have H : (if a0.toList = ([] : List UInt8) then (ident_IsName.j0 k a0 true) else (if (a0.size : Int) > 16 then (ident_IsName.j0 k a0 true) else (if 0 < (a0.size : Int) then ((ident_digit.f (bt a0 0)).bind fun t104 => (if t104 = true then (ident_IsName.j0 k a0 true) else (ident_IsName.j0 k a0 ((bt a0 0) == 95)))) else (none)))) = some r := h
 clear h
 have HC2 := Aside0.mk H
 clear H
 go_enter Tryd.func29, Tryd.ntmps29
 go_upto_region 1 with (fail)
 go_cut [21] (fun v21 wc => ∃ (kq : Nat) (x21_1 : Bool), v21 = .bool x21_1 ∧ Aside0 (ident_IsName.j0 kq a0 x21_1 = some r) ∧ Aside0 (kq ≤ k) ∧ Drawn0 w wc)
 case first =>
  have H := HC2.out
  clear HC2
  by_cases c3 : a0.toList = ([] : List UInt8)
  ·rw [if_pos c3] at H
   have c3b0 : (a0.toList == ([] : List UInt8) ) = true := beq_iff_eq.mpr c3
   have c3b1 : (a0.toList != ([] : List UInt8) ) = false := oD c3
   have c3b2 : a0.toList.isEmpty = true := List.isEmpty_iff.mpr c3
   clear c3
   (first | rw [c3b0] | (simp only [i64_w, i32_w]; rw [c3b0]) | skip)
   (try (rw [c3b2]; simp only [Bool.not_true, Bool.not_false]))
   have H' := Aside0.mk H
   clear H
   go_wp2
   go_meet
   case rel => exact ⟨_, (true), (by first | rfl | (simp; done) | (simp [*]; done)), H', ⟨by first | omega | exact Nat.le_refl _⟩, by repeat (first | exact Drawn0.refl _ | apply Drawn0.step)⟩
  ·rw [if_neg c3] at H
   have c3b0 : (a0.toList == ([] : List UInt8) ) = false := oC c3
   have c3b1 : (a0.toList != ([] : List UInt8) ) = true := bne_iff_ne.mpr c3
   have c3b2 : a0.toList.isEmpty = false := Bool.eq_false_iff.mpr (fun h_ => c3 (List.isEmpty_iff.mp h_))
   (first | rw [c3b0] | (simp only [i64_w, i32_w]; rw [c3b0]) | skip)
   (try (rw [c3b2]; simp only [Bool.not_true, Bool.not_false]))
   by_cases c4 : (a0.size : Int) > 16
   ·rw [if_pos c4] at H
    have c4b0 : decide (16 < (a0.size : Int)) = true := decide_eq_true c4
    have c4b1 : decide (16 < a0.size) = true := decide_eq_true (by omega)
    clear c4
    have H' := Aside0.mk H
    clear H
    go_wp2
    go_meet
    case rel => exact ⟨_, (true), (by first | rfl | (simp; done) | (simp [*]; done)), H', ⟨by first | omega | exact Nat.le_refl _⟩, by repeat (first | exact Drawn0.refl _ | apply Drawn0.step)⟩
   ·rw [if_neg c4] at H
    have c4b0 : decide (16 < (a0.size : Int)) = false := decide_eq_false c4
    have c4b1 : decide (16 < a0.size) = false := decide_eq_false (by omega)
    clear c4
    by_cases c5 : 0 < (a0.size : Int)
    ·rw [if_pos c5] at H
     have c5b0 : decide (0 < (a0.size : Int)) = true := decide_eq_true c5
     have c5b1 : decide (0 < a0.size) = true := decide_eq_true (by omega)
     clear c5
     replace H := oB H
     obtain ⟨t104, A70, H⟩ := H
     replace H : (if t104 = true then (ident_IsName.j0 k a0 true) else (ident_IsName.j0 k a0 ((bt a0 0) == 95))) = some r := H
     have A7 := Aside0.mk A70
     clear A70
     by_cases c8 : t104 = true
     ·subst c8
      have H1 : (ident_IsName.j0 k a0 true) = some r := by rw [if_pos rfl] at H; exact H
      clear H
      have H := H1
      clear H1
      have H' := Aside0.mk H
      clear H
      have p6 : 0 ≤ (0 : Int) := (by omega)
      have q6 : 0 < a0.size := (by have : (0 : Int) < (a0.size : Int) := of_decide_eq_true (by first | (with_reducible assumption) | assumption); omega)
      have hx6 : ∀ h : 0 < a0.size, ((a0[0]'h).toNat : Int) = bt a0 0 := bt_at a0 0
      clear p6
      have qi6 : (0 < (a0.size : Int)) = True := eq_true (of_decide_eq_true (by first | (with_reducible assumption) | assumption))
      replace q6 := eq_true q6
      go_wp2_with (first | (go_at_call 63; (with_reducible refine (ident_digit.calls (bt a0 0) true _ A7.out).mono ?_); rintro e w' ⟨rfl, ⟨nd, rfl⟩⟩))
      go_meet
      case rel => exact ⟨_, (true), (by first | rfl | (simp; done) | (simp [*]; done)), H', ⟨by first | omega | exact Nat.le_refl _⟩, by repeat (first | exact Drawn0.refl _ | apply Drawn0.step)⟩
     ·replace c8 := Bool.eq_false_iff.mpr c8
      subst c8
      have H1 : (ident_IsName.j0 k a0 ((bt a0 0) == 95)) = some r := by rw [if_neg (show ¬ (false = true) by decide)] at H; exact H
      clear H
      have H := H1
      clear H1
      have H' := Aside0.mk H
      clear H
      have p6 : 0 ≤ (0 : Int) := (by omega)
      have q6 : 0 < a0.size := (by have : (0 : Int) < (a0.size : Int) := of_decide_eq_true (by first | (with_reducible assumption) | assumption); omega)
      have hx6 : ∀ h : 0 < a0.size, ((a0[0]'h).toNat : Int) = bt a0 0 := bt_at a0 0
      clear p6
      have qi6 : (0 < (a0.size : Int)) = True := eq_true (of_decide_eq_true (by first | (with_reducible assumption) | assumption))
      replace q6 := eq_true q6
      go_wp2_with (first | (go_at_call 63; (with_reducible refine (ident_digit.calls (bt a0 0) false _ A7.out).mono ?_); rintro e w' ⟨rfl, ⟨nd, rfl⟩⟩; have p9 : 0 ≤ (0 : Int) := (by omega); have q9 : 0 < a0.size := (by have : (0 : Int) < (a0.size : Int) := of_decide_eq_true (by first | (with_reducible assumption) | assumption); omega); have hx9 : ∀ h : 0 < a0.size, ((a0[0]'h).toNat : Int) = bt a0 0 := bt_at a0 0; clear p9; have qi9 : (0 < (a0.size : Int)) = True := eq_true (of_decide_eq_true (by first | (with_reducible assumption) | assumption)); replace q9 := eq_true q9))
      go_meet
      case rel => exact ⟨_, (((bt a0 0) == 95)), (by first | rfl | (simp; done) | (simp [*]; done)), H', ⟨by first | omega | exact Nat.le_refl _⟩, by repeat (first | exact Drawn0.refl _ | apply Drawn0.step)⟩
    ·rw [if_neg c5] at H
     exact absurd H (by simp)
 case rest =>
  clear HC2
  try clear c2
  try clear p2
  try clear c3
  try clear c3b0
  try clear c3b1
  try clear c3b2
  try clear c4
  try clear c4b0
  try clear c4b1
  try clear c5
  try clear c5b0
  try clear c5b1
  try clear p6
  try clear q6
  try clear hx6
  try clear qi6
  try clear c8
  try clear p9
  try clear q9
  try clear hx9
  try clear qi9
  try clear p6
  try clear p9
  try clear q6
  try clear q9
  obtain ⟨kq, x21_1, rfl, HA, HJ1, ⟨mc1, rfl⟩⟩ := hcut
  cases kq with
  | zero => exact absurd HA.out (by simp [ident_IsName.j0])
  | succ kj1 =>
   have H := HA.out
   clear HA
   simp only [ident_IsName.j0] at H
   by_cases c10 : x21_1 = true
   ·subst c10
    have H1 : (some false) = some r := by rw [if_pos rfl] at H; exact H
    clear H
    have H := H1
    clear H1
    obtain rfl := Option.some.inj H
    go_wp2
    go_ret
    exact ⟨by first | rfl | (simp; done) | (simp [*]; done), by repeat (first | exact Drawn0.refl _ | apply Drawn0.step)⟩
   ·replace c10 := Bool.eq_false_iff.mpr c10
    subst c10
    have H1 : (ident_IsName.l0 kj1 a0 (a0.size : Int) 0) = some r := by rw [if_neg (show ¬ (false = true) by decide)] at H; exact H
    clear H
    have H := H1
    clear H1
    have H' := Aside0.mk H
    clear H
    go_wp2
    go_loopg [24] kj1 (fun kq v24 w' => ∃ (x24_2 : Int), v24 = .int .i64 x24_2 ∧ Aside0 (ident_IsName.l0 kq a0 (a0.size : Int) x24_2 = some r) ∧ Aside0 (kq ≤ kj1) ∧ Drawn0 w w')
    case atStart => exact ⟨(0), (by first | rfl | (simp; done) | (simp [*]; done)), H', ⟨Nat.le_refl _⟩, by repeat (first | exact Drawn0.refl _ | apply Drawn0.step)⟩
    case round =>
     clear H'
     try clear c1
     try clear c2
     try clear p2
     try clear c3
     try clear c3b0
     try clear c3b1
     try clear c3b2
     try clear c4
     try clear c4b0
     try clear c4b1
     try clear c5
     try clear c5b0
     try clear c5b1
     try clear p6
     try clear q6
     try clear hx6
     try clear qi6
     try clear c8
     try clear p9
     try clear q9
     try clear hx9
     try clear qi9
     try clear c10
     try clear p2
     try clear p6
     try clear p9
     try clear q6
     try clear q9
     obtain ⟨x24_2, rfl, HA, HK2, ⟨m2, rfl⟩⟩ := hrel
     cases gk with
     | zero => exact absurd HA.out (by simp [ident_IsName.l0])
     | succ k2 =>
      have H := HA.out
      clear HA
      simp only [ident_IsName.l0] at H
      by_cases c11 : x24_2 < (a0.size : Int)
      ·rw [if_pos c11] at H
       have c11b0 : decide (x24_2 < (a0.size : Int)) = true := decide_eq_true c11
       clear c11
       by_cases c12 : 0 ≤ x24_2
       ·rw [if_pos c12] at H
        have c12b0 : decide (0 ≤ x24_2) = true := decide_eq_true c12
        clear c12
        by_cases c13 : x24_2 < (a0.size : Int)
        ·rw [if_pos c13] at H
         have c13b0 : decide (x24_2 < (a0.size : Int)) = true := decide_eq_true c13
         clear c13
         replace H := oB H
         obtain ⟨t105, A150, H⟩ := H
         replace H : (if t105 = true then (ident_IsName.l0 k2 a0 (a0.size : Int) (wrap64 (x24_2 + 1))) else (if (bt a0 x24_2) = 95 then (ident_IsName.l0 k2 a0 (a0.size : Int) (wrap64 (x24_2 + 1))) else (if (bt a0 x24_2) < 97 then (some false) else (if (bt a0 x24_2) > 122 then (some false) else (ident_IsName.l0 k2 a0 (a0.size : Int) (wrap64 (x24_2 + 1))))))) = some r := H
         have A15 := Aside0.mk A150
         clear A150
         by_cases c16 : t105 = true
         ·subst c16
          have H1 : (ident_IsName.l0 k2 a0 (a0.size : Int) (wrap64 (x24_2 + 1))) = some r := by rw [if_pos rfl] at H; exact H
          clear H
          have H := H1
          clear H1
          have H' := Aside0.mk H
          clear H
          have p14 : 0 ≤ (x24_2 : Int) := of_decide_eq_true (by first | (with_reducible assumption) | assumption)
          have q14 : x24_2 < (a0.size : Int) := of_decide_eq_true (by first | (with_reducible assumption) | assumption)
          have hx14 := bt_at a0 x24_2
          replace p14 := eq_true p14
          replace q14 := eq_true q14
          go_wp2_with (first | ((with_reducible refine gate_callee (f := 63) rfl ?_); refine goesL_ (some 31) rfl rfl Tryd.func63 (by kernel_rfl) rfl #[.int .u8 (bt a0 x24_2)] rfl (by first | rfl | (simp only [List.map_toArray]; rfl)) ?_; (with_reducible refine (ident_digit.calls (bt a0 x24_2) true _ A15.out).mono ?_); rintro e w' ⟨rfl, ⟨nd, rfl⟩⟩; refine ⟨_, rfl, ?_⟩))
          go_roundg k2
          case measure => have := HJ1.out; have := HK2.out; omega
          case rel => exact ⟨(wrap64 (x24_2 + 1)), (by first | rfl | (simp; done) | (simp [*]; done)), H', ⟨by have := HJ1.out; have := HK2.out; omega⟩, by repeat (first | exact Drawn0.refl _ | apply Drawn0.step)⟩
         ·replace c16 := Bool.eq_false_iff.mpr c16
          subst c16
          have H1 : (if (bt a0 x24_2) = 95 then (ident_IsName.l0 k2 a0 (a0.size : Int) (wrap64 (x24_2 + 1))) else (if (bt a0 x24_2) < 97 then (some false) else (if (bt a0 x24_2) > 122 then (some false) else (ident_IsName.l0 k2 a0 (a0.size : Int) (wrap64 (x24_2 + 1)))))) = some r := by rw [if_neg (show ¬ (false = true) by decide)] at H; exact H
          clear H
          have H := H1
          clear H1
          by_cases c17 : (bt a0 x24_2) = 95
          ·rw [if_pos c17] at H
           have c17b0 : ((bt a0 x24_2) == 95) = true := beq_iff_eq.mpr c17
           have c17b1 : ((bt a0 x24_2) != 95) = false := oD c17
           clear c17
           have H' := Aside0.mk H
           clear H
           have p14 : 0 ≤ (x24_2 : Int) := of_decide_eq_true (by first | (with_reducible assumption) | assumption)
           have q14 : x24_2 < (a0.size : Int) := of_decide_eq_true (by first | (with_reducible assumption) | assumption)
           have hx14 := bt_at a0 x24_2
           replace p14 := eq_true p14
           replace q14 := eq_true q14
           go_wp2_with (first | ((with_reducible refine gate_callee (f := 63) rfl ?_); refine goesL_ (some 31) rfl rfl Tryd.func63 (by kernel_rfl) rfl #[.int .u8 (bt a0 x24_2)] rfl (by first | rfl | (simp only [List.map_toArray]; rfl)) ?_; (with_reducible refine (ident_digit.calls (bt a0 x24_2) false _ A15.out).mono ?_); rintro e w' ⟨rfl, ⟨nd, rfl⟩⟩; refine ⟨_, rfl, ?_⟩))
           go_roundg k2
           case measure => have := HJ1.out; have := HK2.out; omega
           case rel => exact ⟨(wrap64 (x24_2 + 1)), (by first | rfl | (simp; done) | (simp [*]; done)), H', ⟨by have := HJ1.out; have := HK2.out; omega⟩, by repeat (first | exact Drawn0.refl _ | apply Drawn0.step)⟩
          ·rw [if_neg c17] at H
           have c17b0 : ((bt a0 x24_2) == 95) = false := oC c17
           have c17b1 : ((bt a0 x24_2) != 95) = true := bne_iff_ne.mpr c17
           by_cases c18 : (bt a0 x24_2) < 97
           ·rw [if_pos c18] at H
            have c18b0 : decide ((bt a0 x24_2) < 97) = true := decide_eq_true c18
            clear c18
            obtain rfl := Option.some.inj H
            have p14 : 0 ≤ (x24_2 : Int) := of_decide_eq_true (by first | (with_reducible assumption) | assumption)
            have q14 : x24_2 < (a0.size : Int) := of_decide_eq_true (by first | (with_reducible assumption) | assumption)
            have hx14 := bt_at a0 x24_2
            replace p14 := eq_true p14
            replace q14 := eq_true q14
            go_wp2_with (first | ((with_reducible refine gate_callee (f := 63) rfl ?_); refine goesL_ (some 31) rfl rfl Tryd.func63 (by kernel_rfl) rfl #[.int .u8 (bt a0 x24_2)] rfl (by first | rfl | (simp only [List.map_toArray]; rfl)) ?_; (with_reducible refine (ident_digit.calls (bt a0 x24_2) false _ A15.out).mono ?_); rintro e w' ⟨rfl, ⟨nd, rfl⟩⟩; refine ⟨_, rfl, ?_⟩))
            go_ret
            exact ⟨by first | rfl | (simp; done) | (simp [*]; done), by repeat (first | exact Drawn0.refl _ | apply Drawn0.step)⟩
           ·rw [if_neg c18] at H
            have c18b0 : decide ((bt a0 x24_2) < 97) = false := decide_eq_false c18
            clear c18
            by_cases c19 : (bt a0 x24_2) > 122
            ·rw [if_pos c19] at H
             have c19b0 : decide (122 < (bt a0 x24_2)) = true := decide_eq_true c19
             clear c19
             obtain rfl := Option.some.inj H
             have p14 : 0 ≤ (x24_2 : Int) := of_decide_eq_true (by first | (with_reducible assumption) | assumption)
             have q14 : x24_2 < (a0.size : Int) := of_decide_eq_true (by first | (with_reducible assumption) | assumption)
             have hx14 := bt_at a0 x24_2
             replace p14 := eq_true p14
             replace q14 := eq_true q14
             go_wp2_with (first | ((with_reducible refine gate_callee (f := 63) rfl ?_); refine goesL_ (some 31) rfl rfl Tryd.func63 (by kernel_rfl) rfl #[.int .u8 (bt a0 x24_2)] rfl (by first | rfl | (simp only [List.map_toArray]; rfl)) ?_; (with_reducible refine (ident_digit.calls (bt a0 x24_2) false _ A15.out).mono ?_); rintro e w' ⟨rfl, ⟨nd, rfl⟩⟩; refine ⟨_, rfl, ?_⟩))
             go_ret
             exact ⟨by first | rfl | (simp; done) | (simp [*]; done), by repeat (first | exact Drawn0.refl _ | apply Drawn0.step)⟩
            ·rw [if_neg c19] at H
             have c19b0 : decide (122 < (bt a0 x24_2)) = false := decide_eq_false c19
             clear c19
             have H' := Aside0.mk H
             clear H
             have p14 : 0 ≤ (x24_2 : Int) := of_decide_eq_true (by first | (with_reducible assumption) | assumption)
             have q14 : x24_2 < (a0.size : Int) := of_decide_eq_true (by first | (with_reducible assumption) | assumption)
             have hx14 := bt_at a0 x24_2
             replace p14 := eq_true p14
             replace q14 := eq_true q14
             go_wp2_with (first | ((with_reducible refine gate_callee (f := 63) rfl ?_); refine goesL_ (some 31) rfl rfl Tryd.func63 (by kernel_rfl) rfl #[.int .u8 (bt a0 x24_2)] rfl (by first | rfl | (simp only [List.map_toArray]; rfl)) ?_; (with_reducible refine (ident_digit.calls (bt a0 x24_2) false _ A15.out).mono ?_); rintro e w' ⟨rfl, ⟨nd, rfl⟩⟩; refine ⟨_, rfl, ?_⟩))
             go_roundg k2
             case measure => have := HJ1.out; have := HK2.out; omega
             case rel => exact ⟨(wrap64 (x24_2 + 1)), (by first | rfl | (simp; done) | (simp [*]; done)), H', ⟨by have := HJ1.out; have := HK2.out; omega⟩, by repeat (first | exact Drawn0.refl _ | apply Drawn0.step)⟩
        ·rw [if_neg c13] at H
         exact absurd H (by simp)
       ·rw [if_neg c12] at H
        exact absurd H (by simp)
      ·rw [if_neg c11] at H
       have c11b0 : decide (x24_2 < (a0.size : Int)) = false := decide_eq_false c11
       clear c11
       obtain rfl := Option.some.inj H
       go_wp2
       go_ret
       exact ⟨by first | rfl | (simp; done) | (simp [*]; done), by repeat (first | exact Drawn0.refl _ | apply Drawn0.step)⟩
def product_Find.l0 : Nat → ByteArray → List (S54) → Int → Int → Option (Int × Bool)
 | 0, _, _, _, _ => none
 | k + 1, x1, x8, x9, x10 => if x10 < x9 then (if 0 ≤ x10 then (if x10 < (x8.length : Int) then (if ((rd_T54 x8 x10).f0).toList = x1.toList then (some (x10, true)) else (product_Find.l0 k x1 x8 x9 (wrap64 (x10 + 1)))) else (none)) else (none)) else (some (0, false))
def product_Find.f (k : Nat) (l0 : List (S54)) (a1 : ByteArray) : Option (Int × Bool) := product_Find.l0 k a1 l0 (l0.length : Int) 0
set_option maxHeartbeats 8000000 in
set_option maxRecDepth 100000 in
theorem product_Find.calls (k : Nat) (A0 : Option Addr) (c0 : Nat) (l0 : List (S54)) (a1 : ByteArray) (r1 : Int) (r2 : Bool) (w : World) (hr0 : Kd.C k54 w A0 l0.length l0) (hc0 : l0.length ≤ c0) (h : product_Find.f k l0 a1 = some (r1, r2)) :
  Calls Tryd.prog 59 #[.slice A0 l0.length c0, .string a1] w fun e w' => e = .returned (.tuple #[.int .i64 r1, .bool r2]) ∧ Below w.heap.size w w' := by
 have hu54 := Tryd.underlying54
 have HR0 := Aside0.mk hr0
 have HC0 := Aside0.mk hc0
 clear hr0 hc0
 have HB := q_ (Below.refl w.heap.size w)
 have H : (product_Find.l0 k a1 l0 (l0.length : Int) 0) = some (r1, r2) := h
 clear h
 have H' := Aside0.mk H
 clear H
 go_enter Tryd.func59, Tryd.ntmps59
 go_wp2
 go_loopg [10] k (fun kq v10 w' => ∃ (x10_1 : Int), v10 = .int .i64 x10_1 ∧ Aside0 (product_Find.l0 kq a1 l0 (l0.length : Int) x10_1 = some (r1, r2)) ∧ Aside0 (kq ≤ k) ∧ Aside0 (Below w.heap.size w w'))
 case atStart => exact ⟨(0), (by first | rfl | (simp; done) | (simp [*]; done)), H', ⟨Nat.le_refl _⟩, ⟨by repeat (first | (with_reducible first | exact HB.out | apply pA | apply pN | apply p1) | exact HB.out)⟩⟩
 case round =>
  clear H'
  try clear p2
  obtain ⟨x10_1, rfl, HA, HK1, HB⟩ := hrel
  cases gk with
  | zero => exact absurd HA.out (by simp [product_Find.l0])
  | succ k1 =>
   have H := HA.out
   clear HA
   simp only [product_Find.l0] at H
   by_cases c3 : x10_1 < (l0.length : Int)
   ·rw [if_pos c3] at H
    have c3b0 : decide (x10_1 < (l0.length : Int)) = true := decide_eq_true c3
    clear c3
    by_cases c4 : 0 ≤ x10_1
    ·rw [if_pos c4] at H
     have c4b0 : decide (0 ≤ x10_1) = true := decide_eq_true c4
     clear c4
     by_cases c5 : x10_1 < (l0.length : Int)
     ·rw [if_pos c5] at H
      have c5b0 : decide (x10_1 < (l0.length : Int)) = true := decide_eq_true c5
      clear c5
      by_cases c6 : ((rd_T54 l0 x10_1).f0).toList = a1.toList
      ·rw [if_pos c6] at H
       have c6b0 : (((rd_T54 l0 x10_1).f0).toList == a1.toList) = true := beq_iff_eq.mpr c6
       have c6b1 : (((rd_T54 l0 x10_1).f0).toList != a1.toList) = false := oD c6
       clear c6
       simp only [Option.some.injEq, Prod.mk.injEq] at H
       obtain ⟨rfl, rfl⟩ := H
       have p106 : 0 ≤ (x10_1 : Int) := of_decide_eq_true (by first | (with_reducible assumption) | assumption)
       have q106 : x10_1 < (l0.length : Int) := of_decide_eq_true (by first | (with_reducible assumption) | assumption)
       obtain ⟨ad106, A106_5, c106_5, A106_6, c106_6, e106, hx106_0, hx106_1, hx106_2, hx106_3, hx106_4, hx106_5, hx106_6, hl106_5, hi106_5, hl106_6, hi106_6⟩ := at_T54 HR0.out x10_1 p106 q106
       cases e106
       replace hx106_0 := (HB.out.cell (World.block_lt_of_cell? w _ hx106_0)).trans hx106_0
       replace hx106_1 := (HB.out.cell (World.block_lt_of_cell? w _ hx106_1)).trans hx106_1
       replace hx106_2 := (HB.out.cell (World.block_lt_of_cell? w _ hx106_2)).trans hx106_2
       replace hx106_3 := (HB.out.cell (World.block_lt_of_cell? w _ hx106_3)).trans hx106_3
       replace hx106_4 := (HB.out.cell (World.block_lt_of_cell? w _ hx106_4)).trans hx106_4
       replace hx106_5 := (HB.out.cell (World.block_lt_of_cell? w _ hx106_5)).trans hx106_5
       replace hx106_6 := (HB.out.cell (World.block_lt_of_cell? w _ hx106_6)).trans hx106_6
       have HR106_5 := Aside0.mk hi106_5
       have HC106_5 := Aside0.mk hl106_5
       clear hi106_5 hl106_5
       have HR106_6 := Aside0.mk hi106_6
       have HC106_6 := Aside0.mk hl106_6
       clear hi106_6 hl106_6
       replace p106 := eq_true p106
       replace q106 := eq_true q106
       go_wp2_with (first | ((with_reducible refine gate_dst (N := 7) rfl ?_); refine box_event ?hg (N := 7) ?hd (cs := #[.string (⟨#[]⟩ : ByteArray), .int .i64 0, .int .i64 0, .int .i64 0, .int .i64 0, .slice none 0 0, .slice none 0 0]) (t := 54) ?hr ?_; (case hd => rfl); (case hg => rfl); (case hr => first | (go_simp; done) | (go_simp; rfl)); intro gb107 hg w7 hbox hb; have n0_ := q_ (pT (by repeat (first | (with_reducible first | exact HB.out | apply pA | apply pN | apply p1) | exact HB.out)) hb); have n1_ := q_ (hbox); have n2_ := q_ ((by rw [hg]; exact (pZ (by repeat (first | (with_reducible first | exact HB.out | apply pA | apply pN | apply p1) | exact HB.out))) : w.heap.size ≤ gb107)); have n3_ := n2_; clear HB; have HB := n0_; have BK107 := n1_; have GW107 := n2_; have GE107 := n3_; clear n0_ n1_ n2_ n3_; clear hb hbox hg; have hcz8 := blk_all BK107.out; simp only [CellsAt, List.toList_toArray, Nat.reduceAdd, and_true] at hcz8; have hfz8 := bF BK107.out))
       go_ret2
       exact ⟨by first | rfl | (simp [*] <;> rfl), by repeat (first | (with_reducible first | exact HB.out | apply pA | apply pN | apply p1 | refine pS ?_ GE107.out) | exact HB.out)⟩
      ·rw [if_neg c6] at H
       have c6b0 : (((rd_T54 l0 x10_1).f0).toList == a1.toList) = false := oC c6
       have c6b1 : (((rd_T54 l0 x10_1).f0).toList != a1.toList) = true := bne_iff_ne.mpr c6
       have H' := Aside0.mk H
       clear H
       have p106 : 0 ≤ (x10_1 : Int) := of_decide_eq_true (by first | (with_reducible assumption) | assumption)
       have q106 : x10_1 < (l0.length : Int) := of_decide_eq_true (by first | (with_reducible assumption) | assumption)
       obtain ⟨ad106, A106_5, c106_5, A106_6, c106_6, e106, hx106_0, hx106_1, hx106_2, hx106_3, hx106_4, hx106_5, hx106_6, hl106_5, hi106_5, hl106_6, hi106_6⟩ := at_T54 HR0.out x10_1 p106 q106
       cases e106
       replace hx106_0 := (HB.out.cell (World.block_lt_of_cell? w _ hx106_0)).trans hx106_0
       replace hx106_1 := (HB.out.cell (World.block_lt_of_cell? w _ hx106_1)).trans hx106_1
       replace hx106_2 := (HB.out.cell (World.block_lt_of_cell? w _ hx106_2)).trans hx106_2
       replace hx106_3 := (HB.out.cell (World.block_lt_of_cell? w _ hx106_3)).trans hx106_3
       replace hx106_4 := (HB.out.cell (World.block_lt_of_cell? w _ hx106_4)).trans hx106_4
       replace hx106_5 := (HB.out.cell (World.block_lt_of_cell? w _ hx106_5)).trans hx106_5
       replace hx106_6 := (HB.out.cell (World.block_lt_of_cell? w _ hx106_6)).trans hx106_6
       have HR106_5 := Aside0.mk hi106_5
       have HC106_5 := Aside0.mk hl106_5
       clear hi106_5 hl106_5
       have HR106_6 := Aside0.mk hi106_6
       have HC106_6 := Aside0.mk hl106_6
       clear hi106_6 hl106_6
       replace p106 := eq_true p106
       replace q106 := eq_true q106
       go_wp2_with (first | ((with_reducible refine gate_dst (N := 7) rfl ?_); refine box_event ?hg (N := 7) ?hd (cs := #[.string (⟨#[]⟩ : ByteArray), .int .i64 0, .int .i64 0, .int .i64 0, .int .i64 0, .slice none 0 0, .slice none 0 0]) (t := 54) ?hr ?_; (case hd => rfl); (case hg => rfl); (case hr => first | (go_simp; done) | (go_simp; rfl)); intro gb107 hg w9 hbox hb; have n0_ := q_ (pT (by repeat (first | (with_reducible first | exact HB.out | apply pA | apply pN | apply p1) | exact HB.out)) hb); have n1_ := q_ (hbox); have n2_ := q_ ((by rw [hg]; exact (pZ (by repeat (first | (with_reducible first | exact HB.out | apply pA | apply pN | apply p1) | exact HB.out))) : w.heap.size ≤ gb107)); have n3_ := n2_; clear HB; have HB := n0_; have BK107 := n1_; have GW107 := n2_; have GE107 := n3_; clear n0_ n1_ n2_ n3_; clear hb hbox hg; have hcz10 := blk_all BK107.out; simp only [CellsAt, List.toList_toArray, Nat.reduceAdd, and_true] at hcz10; have hfz10 := bF BK107.out))
       go_roundg k1
       case measure => have := HK1.out; omega
       case rel => exact ⟨(wrap64 (x10_1 + 1)), (by first | rfl | (simp; done) | (simp [*]; done)), H', ⟨by have := HK1.out; omega⟩, ⟨by repeat (first | (with_reducible first | exact HB.out | apply pA | apply pN | apply p1 | refine pS ?_ GE107.out) | exact HB.out)⟩⟩
     ·rw [if_neg c5] at H
      exact absurd H (by simp)
    ·rw [if_neg c4] at H
     exact absurd H (by simp)
   ·rw [if_neg c3] at H
    have c3b0 : decide (x10_1 < (l0.length : Int)) = false := decide_eq_false c3
    clear c3
    simp only [Option.some.injEq, Prod.mk.injEq] at H
    obtain ⟨rfl, rfl⟩ := H
    go_wp2
    go_ret2
    exact ⟨by first | rfl | (simp [*] <;> rfl), by repeat (first | (with_reducible first | exact HB.out | apply pA | apply pN | apply p1) | exact HB.out)⟩
def units_Floor.f (a0 a1 : Int) : Option (Int × Bool) := if 0 ≤ a0 ∧ a0 ≤ 9223372036854775807 ∧ 0 < a1 ∧ a1 ≤ 9223372036854775807 then some (a0 / a1, true) else none
theorem floor_up (a b : Int) (w : World) : Calls Tryd.prog 101 #[.int .i64 a, .int .i64 b] w fun e w' => e = .returned (.bool false) ∧ w' = w := by
 go_enter Tryd.func101, Tryd.ntmps101
 go_wp2
 go_ret
 exact ⟨rfl, rfl⟩
set_option maxHeartbeats 1000000 in
set_option maxRecDepth 100000 in
theorem floor_of (a b : Int) (ha : 0 ≤ a) (ha' : a ≤ 9223372036854775807) (hb : 0 < b) (hb' : b ≤ 9223372036854775807) (w : World) :
  Calls Tryd.prog 102 #[.agg #[.func (.func 101) #[] #[]], .int .i64 a, .int .i64 b] w fun e w' => e = .returned (.tuple #[.int .i64 (a / b), .bool true]) ∧ Below w.heap.size w w' := by
 have e1 : Int.tdiv a b = a / b := Int.tdiv_eq_ediv_of_nonneg ha
 have e2 : Int.tmod a b = a % b := Int.tmod_eq_emod_of_nonneg ha
 have e3 : 0 ≤ a / b := Int.ediv_nonneg ha (by omega)
 have e4 : a / b ≤ a := Int.ediv_le_self b ha
 have e5 : wrap64 (a / b) = a / b := by unfold wrap64; omega
 have e6 : 0 ≤ a % b := Int.emod_nonneg a (by omega)
 have e7 : decide (a % b < 0) = false := decide_eq_false (by omega)
 have e8 : decide (b < 0) = false := decide_eq_false (by omega)
 have e9 : (b == 0) = false := beq_false_of_ne (by omega)
 have e10 : (b == -1) = false := beq_false_of_ne (by omega)
 have e11 : (a == -9223372036854775808) = false := beq_false_of_ne (by omega)
 go_enter Tryd.func102, Tryd.ntmps102
 go_wp2_with (first | (go_at_call 101; refine (floor_up _ _ _).mono ?_; rintro e w' ⟨rfl, rfl⟩))
 go_quiet (fail)
 go_wp2_with (first | (go_at_call 101; refine (floor_up _ _ _).mono ?_; rintro e w' ⟨rfl, rfl⟩))
 all_goals go_ret2
 all_goals exact ⟨by simp_all, by repeat (first | exact Below.refl _ _ | apply pA | apply pN | apply below_drew)⟩
theorem units_Floor.calls (a0 a1 : Int) (r1 : Int) (r2 : Bool) (w : World) (h : units_Floor.f a0 a1 = some (r1, r2)) :
  Calls Tryd.prog 97 #[.int .i64 a0, .int .i64 a1] w fun e w' => e = .returned (.tuple #[.int .i64 r1, .bool r2]) ∧ Below w.heap.size w w' := by
 unfold units_Floor.f at h
 by_cases c : 0 ≤ a0 ∧ a0 ≤ 9223372036854775807 ∧ 0 < a1 ∧ a1 ≤ 9223372036854775807
 ·rw [if_pos c] at h
  simp only [Option.some.injEq, Prod.mk.injEq] at h
  obtain ⟨rfl, rfl⟩ := h
  go_enter Tryd.func97, Tryd.ntmps97
  go_wp2_with (first | (go_at_call 102; refine (floor_of _ _ c.1 c.2.1 c.2.2.1 c.2.2.2 _).mono ?_; rintro e w' ⟨rfl, hb⟩))
  go_ret2
  exact ⟨rfl, hb⟩
 ·rw [if_neg c] at h
  exact absurd h (by simp)
end Go.Proofs.YtblmgmhjlbkncaaDoor.PA
namespace Go.Proofs.YtblmgmhjlbkncaaDoor.PA
open Go.RowKit Go.Proofs.YtblmgmhjlbkncaaDoorW.PrintWords Go.Proofs.YtblmgmhjlbkncaaDoorW.PrintLast Go.Proofs.YtblmgmhjlbkncaaDoorW.PrintMore
attribute [local go_sem] max2_int min2_int max_two min_two max_three min_three max_four min_four
set_option linter.unusedVariables false
set_option linter.unusedSimpArgs false
def product_Green.j0 : Nat → Bool → ByteArray → Int → Int → Int → Int → List Int → List Int → Option (Int × Int)
 | 0, _, _, _, _, _, _, _, _ => none
 | k + 1, x31, x109000, x109001, x109002, x109003, x109004, x109005, x109006 => if x31 = true then (some (0, 0)) else ((units_Floor.f (wrap64 ((wrap64 ((wrap64 (x109001 * (wrap64 (1000 + x109003)))) + 1000)) - 1)) 1000).bind fun bt109 => ((units_Floor.f (wrap64 ((wrap64 ((wrap64 (x109002 * (wrap64 (1000 + x109003)))) + 1000)) - 1)) 1000).bind fun bt111 => (some (bt109.1, bt111.1))))
def product_Green.f (k : Nat) (a0_0 : ByteArray) (a0_1 : Int) (a0_2 : Int) (a0_3 : Int) (a0_4 : Int) (l0_5 : List Int) (l0_6 : List Int) : Option (Int × Int) := if (mn a0_1 a0_2) < 1 then (product_Green.j0 k true a0_0 a0_1 a0_2 a0_3 a0_4 l0_5 l0_6) else (if (mx a0_1 a0_2) > 600 then (product_Green.j0 k true a0_0 a0_1 a0_2 a0_3 a0_4 l0_5 l0_6) else (if a0_3 < 0 then (product_Green.j0 k true a0_0 a0_1 a0_2 a0_3 a0_4 l0_5 l0_6) else (product_Green.j0 k (decide (a0_3 > 200)) a0_0 a0_1 a0_2 a0_3 a0_4 l0_5 l0_6)))
set_option maxHeartbeats 8000000 in
set_option maxRecDepth 100000 in
theorem product_Green.calls (k : Nat) (a0_0 : ByteArray) (a0_1 : Int) (a0_2 : Int) (a0_3 : Int) (a0_4 : Int) (A0_5 : Option Addr) (c0_5 : Nat) (l0_5 : List Int) (A0_6 : Option Addr) (c0_6 : Nat) (l0_6 : List Int) (r1 : Int) (r2 : Int) (w : World) (hr0_5 : Kd.C (Kd.int .i64) w A0_5 l0_5.length l0_5) (hc0_5 : l0_5.length ≤ c0_5) (hr0_6 : Kd.C (Kd.int .i64) w A0_6 l0_6.length l0_6) (hc0_6 : l0_6.length ≤ c0_6) (h : product_Green.f k a0_0 a0_1 a0_2 a0_3 a0_4 l0_5 l0_6 = some (r1, r2)) :
  Calls Tryd.prog 88 #[.agg #[.string a0_0, .int .i64 a0_1, .int .i64 a0_2, .int .i64 a0_3, .int .i64 a0_4, .slice A0_5 l0_5.length c0_5, .slice A0_6 l0_6.length c0_6]] w fun e w' => e = .returned (.tuple #[.int .i64 r1, .int .i64 r2]) ∧ Below w.heap.size w w' := by
 have hu54 := Tryd.underlying54
 have HR0_5 := Aside0.mk hr0_5
 have HC0_5 := Aside0.mk hc0_5
 clear hr0_5 hc0_5
 have HR0_6 := Aside0.mk hr0_6
 have HC0_6 := Aside0.mk hc0_6
 clear hr0_6 hc0_6
 have HB := q_ (Below.refl w.heap.size w)
 have H : (if (mn a0_1 a0_2) < 1 then (product_Green.j0 k true a0_0 a0_1 a0_2 a0_3 a0_4 l0_5 l0_6) else (if (mx a0_1 a0_2) > 600 then (product_Green.j0 k true a0_0 a0_1 a0_2 a0_3 a0_4 l0_5 l0_6) else (if a0_3 < 0 then (product_Green.j0 k true a0_0 a0_1 a0_2 a0_3 a0_4 l0_5 l0_6) else (product_Green.j0 k (decide (a0_3 > 200)) a0_0 a0_1 a0_2 a0_3 a0_4 l0_5 l0_6)))) = some (r1, r2) := h
 clear h
 have HC2 := Aside0.mk H
 clear H
 go_enter Tryd.func88, Tryd.ntmps88
 go_upto_region 1 with (first | ((with_reducible refine gate_dst (N := 1) rfl ?_); (try (refine gate_guard (by rfl) ?_; dsimp only)); refine box_event ?hg (N := 1) ?hd (cs := #[.string a0_0, .int .i64 a0_1, .int .i64 a0_2, .int .i64 a0_3, .int .i64 a0_4, .slice A0_5 l0_5.length c0_5, .slice A0_6 l0_6.length c0_6]) (t := 54) ?hr ?_; (case hd => rfl); (case hg => rfl); (case hr => first | (go_simp; done) | (go_simp; rfl)); intro gb108 hg w3 hbox hb; have n0_ := q_ (pT (by repeat (first | (with_reducible first | exact HB.out | apply pA | apply pN | apply p1) | exact HB.out)) hb); have n1_ := q_ (hbox); have n2_ := q_ ((by rw [hg]; exact (pZ (by repeat (first | (with_reducible first | exact HB.out | apply pA | apply pN | apply p1) | exact HB.out))) : w.heap.size ≤ gb108)); have n3_ := n2_; clear HB; have HB := n0_; have BK108 := n1_; have GW108 := n2_; have GE108 := n3_; clear n0_ n1_ n2_ n3_; clear hb hbox hg))
 (try simp only [Act.put, List.setIfInBounds_toArray, List.set_cons_zero, List.set_cons_succ])
 go_cut [31] (fun v31 wc => ∃ (kq : Nat) (x31_1 : Bool), v31 = .bool x31_1 ∧ Aside0 (product_Green.j0 kq x31_1 a0_0 a0_1 a0_2 a0_3 a0_4 l0_5 l0_6 = some (r1, r2)) ∧ Aside0 (kq ≤ k) ∧ Aside0 (wc.heap[gb108]? = some (.cells #[.string a0_0, .int .i64 a0_1, .int .i64 a0_2, .int .i64 a0_3, .int .i64 a0_4, (.slice A0_5 l0_5.length c0_5), (.slice A0_6 l0_6.length c0_6)] 54 (0, 0))) ∧ Aside0 (Below w.heap.size w wc))
 case first =>
  have H := HC2.out
  clear HC2
  obtain ⟨ji4, hji4⟩ : ∃ j_ : Int, (mn a0_1 a0_2) = j_ := ⟨_, rfl⟩
  replace H : (if (ji4) < 1 then (product_Green.j0 k true a0_0 a0_1 a0_2 a0_3 a0_4 l0_5 l0_6) else (if (mx a0_1 a0_2) > 600 then (product_Green.j0 k true a0_0 a0_1 a0_2 a0_3 a0_4 l0_5 l0_6) else (if a0_3 < 0 then (product_Green.j0 k true a0_0 a0_1 a0_2 a0_3 a0_4 l0_5 l0_6) else (product_Green.j0 k (decide (a0_3 > 200)) a0_0 a0_1 a0_2 a0_3 a0_4 l0_5 l0_6)))) = some (r1, r2) := by first | (rw [hji4] at H; exact H) | (simp only [hji4] at H ⊢; exact H)
  have hji4_ : (if a0_2 < a0_1 then a0_2 else a0_1) = ji4 := hji4
  by_cases c5 : (ji4) < 1
  ·rw [if_pos c5] at H
   have c5b0 : decide ((ji4) < 1) = true := decide_eq_true c5
   clear c5
   (first | rw [c5b0] | (simp only [i64_w, i32_w]; rw [c5b0]) | skip)
   have H' := Aside0.mk H
   clear H
   have hcz6 := blk_all BK108.out
   simp only [CellsAt, List.toList_toArray, Nat.reduceAdd, and_true] at hcz6
   have hfz6 := bF BK108.out
   go_wp2
   go_meet
   case rel => exact ⟨_, (true), (by first | rfl | (simp; done) | (simp [*]; done)), H', ⟨by first | omega | exact Nat.le_refl _⟩, ⟨by (with_reducible repeat (first | refine bN ?_ _ | refine bW ?_ | refine bA ?_ _)); exact BK108.out⟩, ⟨by repeat (first | (with_reducible first | exact HB.out | apply pA | apply pN | apply p1 | refine pS ?_ GE108.out) | exact HB.out)⟩⟩
  ·rw [if_neg c5] at H
   have c5b0 : decide ((ji4) < 1) = false := decide_eq_false c5
   clear c5
   (first | rw [c5b0] | (simp only [i64_w, i32_w]; rw [c5b0]) | skip)
   obtain ⟨ji7, hji7⟩ : ∃ j_ : Int, (mx a0_1 a0_2) = j_ := ⟨_, rfl⟩
   replace H : (if (ji7) > 600 then (product_Green.j0 k true a0_0 a0_1 a0_2 a0_3 a0_4 l0_5 l0_6) else (if a0_3 < 0 then (product_Green.j0 k true a0_0 a0_1 a0_2 a0_3 a0_4 l0_5 l0_6) else (product_Green.j0 k (decide (a0_3 > 200)) a0_0 a0_1 a0_2 a0_3 a0_4 l0_5 l0_6))) = some (r1, r2) := by first | (rw [hji7] at H; exact H) | (simp only [hji7] at H ⊢; exact H)
   have hji7_ : (if a0_1 < a0_2 then a0_2 else a0_1) = ji7 := hji7
   by_cases c8 : (ji7) > 600
   ·rw [if_pos c8] at H
    have c8b0 : decide (600 < (ji7)) = true := decide_eq_true c8
    clear c8
    have H' := Aside0.mk H
    clear H
    have hcz9 := blk_all BK108.out
    simp only [CellsAt, List.toList_toArray, Nat.reduceAdd, and_true] at hcz9
    have hfz9 := bF BK108.out
    go_wp2
    go_meet
    case rel => exact ⟨_, (true), (by first | rfl | (simp; done) | (simp [*]; done)), H', ⟨by first | omega | exact Nat.le_refl _⟩, ⟨by (with_reducible repeat (first | refine bN ?_ _ | refine bW ?_ | refine bA ?_ _)); exact BK108.out⟩, ⟨by repeat (first | (with_reducible first | exact HB.out | apply pA | apply pN | apply p1 | refine pS ?_ GE108.out) | exact HB.out)⟩⟩
   ·rw [if_neg c8] at H
    have c8b0 : decide (600 < (ji7)) = false := decide_eq_false c8
    clear c8
    by_cases c10 : a0_3 < 0
    ·rw [if_pos c10] at H
     have c10b0 : decide (a0_3 < 0) = true := decide_eq_true c10
     clear c10
     have H' := Aside0.mk H
     clear H
     have hcz11 := blk_all BK108.out
     simp only [CellsAt, List.toList_toArray, Nat.reduceAdd, and_true] at hcz11
     have hfz11 := bF BK108.out
     go_wp2
     go_meet
     case rel => exact ⟨_, (true), (by first | rfl | (simp; done) | (simp [*]; done)), H', ⟨by first | omega | exact Nat.le_refl _⟩, ⟨by (with_reducible repeat (first | refine bN ?_ _ | refine bW ?_ | refine bA ?_ _)); exact BK108.out⟩, ⟨by repeat (first | (with_reducible first | exact HB.out | apply pA | apply pN | apply p1 | refine pS ?_ GE108.out) | exact HB.out)⟩⟩
    ·rw [if_neg c10] at H
     have c10b0 : decide (a0_3 < 0) = false := decide_eq_false c10
     clear c10
     have H' := Aside0.mk H
     clear H
     have hcz12 := blk_all BK108.out
     simp only [CellsAt, List.toList_toArray, Nat.reduceAdd, and_true] at hcz12
     have hfz12 := bF BK108.out
     go_wp2
     go_meet
     case rel => exact ⟨_, (decide (a0_3 > 200)), (by first | rfl | (simp; done) | (simp [*]; done)), H', ⟨by first | omega | exact Nat.le_refl _⟩, ⟨by (with_reducible repeat (first | refine bN ?_ _ | refine bW ?_ | refine bA ?_ _)); exact BK108.out⟩, ⟨by repeat (first | (with_reducible first | exact HB.out | apply pA | apply pN | apply p1 | refine pS ?_ GE108.out) | exact HB.out)⟩⟩
 case rest =>
  clear HC2
  try clear c1
  try clear p2
  try clear c5
  try clear c5b0
  try clear c8
  try clear c8b0
  try clear c10
  try clear c10b0
  try clear hcz11
  try clear hcz12
  try clear hcz6
  try clear hcz9
  try clear hfz11
  try clear hfz12
  try clear hfz6
  try clear hfz9
  obtain ⟨kq, x31_1, rfl, HA, HJ1, BK108, HB⟩ := hcut
  cases kq with
  | zero => exact absurd HA.out (by simp [product_Green.j0])
  | succ kj1 =>
   have H := HA.out
   clear HA
   simp only [product_Green.j0] at H
   by_cases c13 : x31_1 = true
   ·subst c13
    have H1 : (some (0, 0)) = some (r1, r2) := by rw [if_pos rfl] at H; exact H
    clear H
    have H := H1
    clear H1
    simp only [Option.some.injEq, Prod.mk.injEq] at H
    obtain ⟨rfl, rfl⟩ := H
    go_wp2
    go_ret2
    exact ⟨by first | rfl | (simp [*] <;> rfl), by repeat (first | (with_reducible first | exact HB.out | apply pA | apply pN | apply p1 | refine pS ?_ GE108.out) | exact HB.out)⟩
   ·replace c13 := Bool.eq_false_iff.mpr c13
    subst c13
    have H1 : ((units_Floor.f (wrap64 ((wrap64 ((wrap64 (a0_1 * (wrap64 (1000 + a0_3)))) + 1000)) - 1)) 1000).bind fun bt109 => ((units_Floor.f (wrap64 ((wrap64 ((wrap64 (a0_2 * (wrap64 (1000 + a0_3)))) + 1000)) - 1)) 1000).bind fun bt111 => (some (bt109.1, bt111.1)))) = some (r1, r2) := by rw [if_neg (show ¬ (false = true) by decide)] at H; exact H
    clear H
    have H := H1
    clear H1
    replace H := oB H
    obtain ⟨⟨t109, t110⟩, A140, H⟩ := H
    replace H : ((units_Floor.f (wrap64 ((wrap64 ((wrap64 (a0_2 * (wrap64 (1000 + a0_3)))) + 1000)) - 1)) 1000).bind fun bt111 => (some (t109, bt111.1))) = some (r1, r2) := H
    have A14 := Aside0.mk A140
    clear A140
    replace H := oB H
    obtain ⟨⟨t111, t112⟩, A150, H⟩ := H
    replace H : (some (t109, t111)) = some (r1, r2) := H
    have A15 := Aside0.mk A150
    clear A150
    simp only [Option.some.injEq, Prod.mk.injEq] at H
    obtain ⟨rfl, rfl⟩ := H
    have hcz16 := blk_all BK108.out
    simp only [CellsAt, List.toList_toArray, Nat.reduceAdd, and_true] at hcz16
    have hfz16 := bF BK108.out
    go_wp2_with (first | ((with_reducible refine gate_callee (f := 97) rfl ?_); refine goesL_ (some 41) rfl rfl Tryd.func97 (by kernel_rfl) rfl #[.int .i64 (wrap64 ((wrap64 ((wrap64 (a0_1 * (wrap64 (1000 + a0_3)))) + 1000)) - 1)), .int .i64 1000] rfl (by first | rfl | (simp only [List.map_toArray]; rfl)) ?_; (with_reducible refine (units_Floor.calls (wrap64 ((wrap64 ((wrap64 (a0_1 * (wrap64 (1000 + a0_3)))) + 1000)) - 1)) 1000 t109 t110 _ A14.out).mono ?_); rintro e w17 ⟨rfl, hb⟩; refine ⟨_, rfl, ?_⟩; have n0_ := q_ (bB (g := gb108) (by (with_reducible repeat (first | refine bN ?_ _ | refine bW ?_ | refine bA ?_ _)); exact BK108.out) hb); have n1_ := q_ (pT (by repeat (first | (with_reducible first | exact HB.out | apply pA | apply pN | apply p1 | refine pS ?_ GE108.out) | exact HB.out)) hb); clear BK108; clear HB; have BK108 := n0_; have HB := n1_; clear n0_ n1_; (try clear hb); (try clear hb2); (try clear hk); (try clear hi); have hcz18 := blk_all BK108.out; simp only [CellsAt, List.toList_toArray, Nat.reduceAdd, and_true] at hcz18; have hfz18 := bF BK108.out) | ((with_reducible refine gate_callee (f := 97) rfl ?_); refine goesL_ (some 53) rfl rfl Tryd.func97 (by kernel_rfl) rfl #[.int .i64 (wrap64 ((wrap64 ((wrap64 (a0_2 * (wrap64 (1000 + a0_3)))) + 1000)) - 1)), .int .i64 1000] rfl (by first | rfl | (simp only [List.map_toArray]; rfl)) ?_; (with_reducible refine (units_Floor.calls (wrap64 ((wrap64 ((wrap64 (a0_2 * (wrap64 (1000 + a0_3)))) + 1000)) - 1)) 1000 t111 t112 _ A15.out).mono ?_); rintro e w19 ⟨rfl, hb⟩; refine ⟨_, rfl, ?_⟩; have n0_ := q_ (bB (g := gb108) (by (with_reducible repeat (first | refine bN ?_ _ | refine bW ?_ | refine bA ?_ _)); exact BK108.out) hb); have n1_ := q_ (pT (by repeat (first | (with_reducible first | exact HB.out | apply pA | apply pN | apply p1 | refine pS ?_ GE108.out) | exact HB.out)) hb); clear BK108; clear HB; have BK108 := n0_; have HB := n1_; clear n0_ n1_; (try clear hb); (try clear hb2); (try clear hk); (try clear hi)))
    go_ret2
    exact ⟨by first | rfl | (simp [*] <;> rfl), by repeat (first | (with_reducible first | exact HB.out | apply pA | apply pN | apply p1 | refine pS ?_ GE108.out) | exact HB.out)⟩
def product_sized.j0 : Nat → Bool → ByteArray → Int → Int → Int → Int → List Int → List Int → Option (Bool)
 | 0, _, _, _, _, _, _, _, _ => none
 | k + 1, x24, x114000, x114001, x114002, x114003, x114004, x114005, x114006 => if x24 = true then (some false) else (if x114003 < 0 then (some false) else (if x114003 > 200 then (some false) else (if x114004 < 0 then (some false) else (if x114004 > 1000 then (some false) else ((product_Green.f k x114000 x114001 x114002 x114003 x114004 x114005 x114006).bind fun bt114 => (some (decide (bt114.2 ≤ 600))))))))
def product_sized.f (k : Nat) (a0_0 : ByteArray) (a0_1 : Int) (a0_2 : Int) (a0_3 : Int) (a0_4 : Int) (l0_5 : List Int) (l0_6 : List Int) : Option (Bool) := if a0_1 < 5 then (product_sized.j0 k true a0_0 a0_1 a0_2 a0_3 a0_4 l0_5 l0_6) else (if a0_1 > 300 then (product_sized.j0 k true a0_0 a0_1 a0_2 a0_3 a0_4 l0_5 l0_6) else (if a0_2 < a0_1 then (product_sized.j0 k true a0_0 a0_1 a0_2 a0_3 a0_4 l0_5 l0_6) else (product_sized.j0 k (decide (a0_2 > 600)) a0_0 a0_1 a0_2 a0_3 a0_4 l0_5 l0_6)))
set_option maxHeartbeats 8000000 in
set_option maxRecDepth 100000 in
theorem product_sized.calls (k : Nat) (a0_0 : ByteArray) (a0_1 : Int) (a0_2 : Int) (a0_3 : Int) (a0_4 : Int) (A0_5 : Option Addr) (c0_5 : Nat) (l0_5 : List Int) (A0_6 : Option Addr) (c0_6 : Nat) (l0_6 : List Int) (r : Bool) (w : World) (hr0_5 : Kd.C (Kd.int .i64) w A0_5 l0_5.length l0_5) (hc0_5 : l0_5.length ≤ c0_5) (hr0_6 : Kd.C (Kd.int .i64) w A0_6 l0_6.length l0_6) (hc0_6 : l0_6.length ≤ c0_6) (h : product_sized.f k a0_0 a0_1 a0_2 a0_3 a0_4 l0_5 l0_6 = some r) :
  Calls Tryd.prog 60 #[.agg #[.string a0_0, .int .i64 a0_1, .int .i64 a0_2, .int .i64 a0_3, .int .i64 a0_4, .slice A0_5 l0_5.length c0_5, .slice A0_6 l0_6.length c0_6]] w fun e w' => e = .returned (.bool r) ∧ Below w.heap.size w w' := by
 have hu54 := Tryd.underlying54
 have HR0_5 := Aside0.mk hr0_5
 have HC0_5 := Aside0.mk hc0_5
 clear hr0_5 hc0_5
 have HR0_6 := Aside0.mk hr0_6
 have HC0_6 := Aside0.mk hc0_6
 clear hr0_6 hc0_6
 have HB := q_ (Below.refl w.heap.size w)
 have H : (if a0_1 < 5 then (product_sized.j0 k true a0_0 a0_1 a0_2 a0_3 a0_4 l0_5 l0_6) else (if a0_1 > 300 then (product_sized.j0 k true a0_0 a0_1 a0_2 a0_3 a0_4 l0_5 l0_6) else (if a0_2 < a0_1 then (product_sized.j0 k true a0_0 a0_1 a0_2 a0_3 a0_4 l0_5 l0_6) else (product_sized.j0 k (decide (a0_2 > 600)) a0_0 a0_1 a0_2 a0_3 a0_4 l0_5 l0_6)))) = some r := h
 clear h
 have HC2 := Aside0.mk H
 clear H
 go_enter Tryd.func60, Tryd.ntmps60
 go_upto_region 1 with (first | ((with_reducible refine gate_dst (N := 1) rfl ?_); refine box_event ?hg (N := 1) ?hd (cs := #[.string a0_0, .int .i64 a0_1, .int .i64 a0_2, .int .i64 a0_3, .int .i64 a0_4, .slice A0_5 l0_5.length c0_5, .slice A0_6 l0_6.length c0_6]) (t := 54) ?hr ?_; (case hd => rfl); (case hg => rfl); (case hr => first | (go_simp; done) | (go_simp; rfl)); intro gb113 hg w3 hbox hb; have n0_ := q_ (pT (by repeat (first | (with_reducible first | exact HB.out | apply pA | apply pN | apply p1) | exact HB.out)) hb); have n1_ := q_ (hbox); have n2_ := q_ ((by rw [hg]; exact (pZ (by repeat (first | (with_reducible first | exact HB.out | apply pA | apply pN | apply p1) | exact HB.out))) : w.heap.size ≤ gb113)); have n3_ := n2_; clear HB; have HB := n0_; have BK113 := n1_; have GW113 := n2_; have GE113 := n3_; clear n0_ n1_ n2_ n3_; clear hb hbox hg))
 (try simp only [Act.put, List.setIfInBounds_toArray, List.set_cons_zero, List.set_cons_succ])
 go_cut [24] (fun v24 wc => ∃ (kq : Nat) (x24_1 : Bool), v24 = .bool x24_1 ∧ Aside0 (product_sized.j0 kq x24_1 a0_0 a0_1 a0_2 a0_3 a0_4 l0_5 l0_6 = some r) ∧ Aside0 (kq ≤ k) ∧ Aside0 (wc.heap[gb113]? = some (.cells #[.string a0_0, .int .i64 a0_1, .int .i64 a0_2, .int .i64 a0_3, .int .i64 a0_4, (.slice A0_5 l0_5.length c0_5), (.slice A0_6 l0_6.length c0_6)] 54 (0, 0))) ∧ Aside0 (Below w.heap.size w wc))
 case first =>
  have H := HC2.out
  clear HC2
  by_cases c4 : a0_1 < 5
  ·rw [if_pos c4] at H
   have c4b0 : decide (a0_1 < 5) = true := decide_eq_true c4
   clear c4
   (first | rw [c4b0] | (simp only [i64_w, i32_w]; rw [c4b0]) | skip)
   have H' := Aside0.mk H
   clear H
   have hcz5 := blk_all BK113.out
   simp only [CellsAt, List.toList_toArray, Nat.reduceAdd, and_true] at hcz5
   have hfz5 := bF BK113.out
   go_wp2
   go_meet
   case rel => exact ⟨_, (true), (by first | rfl | (simp; done) | (simp [*]; done)), H', ⟨by first | omega | exact Nat.le_refl _⟩, ⟨by (with_reducible repeat (first | refine bN ?_ _ | refine bW ?_ | refine bA ?_ _)); exact BK113.out⟩, ⟨by repeat (first | (with_reducible first | exact HB.out | apply pA | apply pN | apply p1 | refine pS ?_ GE113.out) | exact HB.out)⟩⟩
  ·rw [if_neg c4] at H
   have c4b0 : decide (a0_1 < 5) = false := decide_eq_false c4
   clear c4
   (first | rw [c4b0] | (simp only [i64_w, i32_w]; rw [c4b0]) | skip)
   by_cases c6 : a0_1 > 300
   ·rw [if_pos c6] at H
    have c6b0 : decide (300 < a0_1) = true := decide_eq_true c6
    clear c6
    have H' := Aside0.mk H
    clear H
    have hcz7 := blk_all BK113.out
    simp only [CellsAt, List.toList_toArray, Nat.reduceAdd, and_true] at hcz7
    have hfz7 := bF BK113.out
    go_wp2
    go_meet
    case rel => exact ⟨_, (true), (by first | rfl | (simp; done) | (simp [*]; done)), H', ⟨by first | omega | exact Nat.le_refl _⟩, ⟨by (with_reducible repeat (first | refine bN ?_ _ | refine bW ?_ | refine bA ?_ _)); exact BK113.out⟩, ⟨by repeat (first | (with_reducible first | exact HB.out | apply pA | apply pN | apply p1 | refine pS ?_ GE113.out) | exact HB.out)⟩⟩
   ·rw [if_neg c6] at H
    have c6b0 : decide (300 < a0_1) = false := decide_eq_false c6
    clear c6
    by_cases c8 : a0_2 < a0_1
    ·rw [if_pos c8] at H
     have c8b0 : decide (a0_2 < a0_1) = true := decide_eq_true c8
     clear c8
     have H' := Aside0.mk H
     clear H
     have hcz9 := blk_all BK113.out
     simp only [CellsAt, List.toList_toArray, Nat.reduceAdd, and_true] at hcz9
     have hfz9 := bF BK113.out
     go_wp2
     go_meet
     case rel => exact ⟨_, (true), (by first | rfl | (simp; done) | (simp [*]; done)), H', ⟨by first | omega | exact Nat.le_refl _⟩, ⟨by (with_reducible repeat (first | refine bN ?_ _ | refine bW ?_ | refine bA ?_ _)); exact BK113.out⟩, ⟨by repeat (first | (with_reducible first | exact HB.out | apply pA | apply pN | apply p1 | refine pS ?_ GE113.out) | exact HB.out)⟩⟩
    ·rw [if_neg c8] at H
     have c8b0 : decide (a0_2 < a0_1) = false := decide_eq_false c8
     clear c8
     have H' := Aside0.mk H
     clear H
     have hcz10 := blk_all BK113.out
     simp only [CellsAt, List.toList_toArray, Nat.reduceAdd, and_true] at hcz10
     have hfz10 := bF BK113.out
     go_wp2
     go_meet
     case rel => exact ⟨_, (decide (a0_2 > 600)), (by first | rfl | (simp; done) | (simp [*]; done)), H', ⟨by first | omega | exact Nat.le_refl _⟩, ⟨by (with_reducible repeat (first | refine bN ?_ _ | refine bW ?_ | refine bA ?_ _)); exact BK113.out⟩, ⟨by repeat (first | (with_reducible first | exact HB.out | apply pA | apply pN | apply p1 | refine pS ?_ GE113.out) | exact HB.out)⟩⟩
 case rest =>
  clear HC2
  try clear p2
  try clear c4
  try clear c4b0
  try clear c6
  try clear c6b0
  try clear c8
  try clear c8b0
  try clear hcz10
  try clear hcz5
  try clear hcz7
  try clear hcz9
  try clear hfz10
  try clear hfz5
  try clear hfz7
  try clear hfz9
  obtain ⟨kq, x24_1, rfl, HA, HJ1, BK113, HB⟩ := hcut
  cases kq with
  | zero => exact absurd HA.out (by simp [product_sized.j0])
  | succ kj1 =>
   have H := HA.out
   clear HA
   simp only [product_sized.j0] at H
   by_cases c11 : x24_1 = true
   ·subst c11
    have H1 : (some false) = some r := by rw [if_pos rfl] at H; exact H
    clear H
    have H := H1
    clear H1
    obtain rfl := Option.some.inj H
    go_wp2
    go_ret
    exact ⟨by first | rfl | (simp [*] <;> rfl), by repeat (first | (with_reducible first | exact HB.out | apply pA | apply pN | apply p1 | refine pS ?_ GE113.out) | exact HB.out)⟩
   ·replace c11 := Bool.eq_false_iff.mpr c11
    subst c11
    have H1 : (if a0_3 < 0 then (some false) else (if a0_3 > 200 then (some false) else (if a0_4 < 0 then (some false) else (if a0_4 > 1000 then (some false) else ((product_Green.f kj1 a0_0 a0_1 a0_2 a0_3 a0_4 l0_5 l0_6).bind fun bt114 => (some (decide (bt114.2 ≤ 600)))))))) = some r := by rw [if_neg (show ¬ (false = true) by decide)] at H; exact H
    clear H
    have H := H1
    clear H1
    by_cases c12 : a0_3 < 0
    ·rw [if_pos c12] at H
     have c12b0 : decide (a0_3 < 0) = true := decide_eq_true c12
     clear c12
     obtain rfl := Option.some.inj H
     have hcz13 := blk_all BK113.out
     simp only [CellsAt, List.toList_toArray, Nat.reduceAdd, and_true] at hcz13
     have hfz13 := bF BK113.out
     go_wp2
     go_ret
     exact ⟨by first | rfl | (simp [*] <;> rfl), by repeat (first | (with_reducible first | exact HB.out | apply pA | apply pN | apply p1 | refine pS ?_ GE113.out) | exact HB.out)⟩
    ·rw [if_neg c12] at H
     have c12b0 : decide (a0_3 < 0) = false := decide_eq_false c12
     clear c12
     by_cases c14 : a0_3 > 200
     ·rw [if_pos c14] at H
      have c14b0 : decide (200 < a0_3) = true := decide_eq_true c14
      clear c14
      obtain rfl := Option.some.inj H
      have hcz15 := blk_all BK113.out
      simp only [CellsAt, List.toList_toArray, Nat.reduceAdd, and_true] at hcz15
      have hfz15 := bF BK113.out
      go_wp2
      go_ret
      exact ⟨by first | rfl | (simp [*] <;> rfl), by repeat (first | (with_reducible first | exact HB.out | apply pA | apply pN | apply p1 | refine pS ?_ GE113.out) | exact HB.out)⟩
     ·rw [if_neg c14] at H
      have c14b0 : decide (200 < a0_3) = false := decide_eq_false c14
      clear c14
      by_cases c16 : a0_4 < 0
      ·rw [if_pos c16] at H
       have c16b0 : decide (a0_4 < 0) = true := decide_eq_true c16
       clear c16
       obtain rfl := Option.some.inj H
       have hcz17 := blk_all BK113.out
       simp only [CellsAt, List.toList_toArray, Nat.reduceAdd, and_true] at hcz17
       have hfz17 := bF BK113.out
       go_wp2
       go_ret
       exact ⟨by first | rfl | (simp [*] <;> rfl), by repeat (first | (with_reducible first | exact HB.out | apply pA | apply pN | apply p1 | refine pS ?_ GE113.out) | exact HB.out)⟩
      ·rw [if_neg c16] at H
       have c16b0 : decide (a0_4 < 0) = false := decide_eq_false c16
       clear c16
       by_cases c18 : a0_4 > 1000
       ·rw [if_pos c18] at H
        have c18b0 : decide (1000 < a0_4) = true := decide_eq_true c18
        clear c18
        obtain rfl := Option.some.inj H
        have hcz19 := blk_all BK113.out
        simp only [CellsAt, List.toList_toArray, Nat.reduceAdd, and_true] at hcz19
        have hfz19 := bF BK113.out
        go_wp2
        go_ret
        exact ⟨by first | rfl | (simp [*] <;> rfl), by repeat (first | (with_reducible first | exact HB.out | apply pA | apply pN | apply p1 | refine pS ?_ GE113.out) | exact HB.out)⟩
       ·rw [if_neg c18] at H
        have c18b0 : decide (1000 < a0_4) = false := decide_eq_false c18
        clear c18
        replace H := oB H
        obtain ⟨⟨t114, t115⟩, A200, H⟩ := H
        replace H : (some (decide (t115 ≤ 600))) = some r := H
        have A20 := Aside0.mk A200
        clear A200
        obtain rfl := Option.some.inj H
        have hcz21 := blk_all BK113.out
        simp only [CellsAt, List.toList_toArray, Nat.reduceAdd, and_true] at hcz21
        have hfz21 := bF BK113.out
        go_wp2_with (first | ((with_reducible refine gate_callee (f := 88) rfl ?_); refine goesL_ (some 45) rfl rfl Tryd.func88 (by kernel_rfl) rfl #[.agg #[.string a0_0, .int .i64 a0_1, .int .i64 a0_2, .int .i64 a0_3, .int .i64 a0_4, .slice A0_5 l0_5.length c0_5, .slice A0_6 l0_6.length c0_6]] rfl (by first | rfl | (simp only [List.map_toArray]; rfl)) ?_; (with_reducible refine (product_Green.calls kj1 a0_0 a0_1 a0_2 a0_3 a0_4 _ _ l0_5 _ _ l0_6 t114 t115 _ ?side1 ?side2 ?side3 ?side4 A20.out).mono ?_); (case side1 => repeat (first | exact (Kd.C_below HR0_5.out HB.out) | (with_reducible refine Kd.C_alloc ?_ _) | (with_reducible refine Kd.C_drewN ?_ _) | (with_reducible refine Kd.C_drew ?_))); (case side2 => exact HC0_5.out); (case side3 => repeat (first | exact (Kd.C_below HR0_6.out HB.out) | (with_reducible refine Kd.C_alloc ?_ _) | (with_reducible refine Kd.C_drewN ?_ _) | (with_reducible refine Kd.C_drew ?_))); (case side4 => exact HC0_6.out); rintro e w22 ⟨rfl, hb⟩; refine ⟨_, rfl, ?_⟩; have n0_ := q_ (bB (g := gb113) (by (with_reducible repeat (first | refine bN ?_ _ | refine bW ?_ | refine bA ?_ _)); exact BK113.out) hb); have n1_ := q_ (pT (by repeat (first | (with_reducible first | exact HB.out | apply pA | apply pN | apply p1 | refine pS ?_ GE113.out) | exact HB.out)) hb); clear BK113; clear HB; have BK113 := n0_; have HB := n1_; clear n0_ n1_; (try clear hb); (try clear hb2); (try clear hk); (try clear hi)))
        go_ret
        exact ⟨by first | rfl | (simp [*] <;> rfl), by repeat (first | (with_reducible first | exact HB.out | apply pA | apply pN | apply p1 | refine pS ?_ GE113.out) | exact HB.out)⟩
end Go.Proofs.YtblmgmhjlbkncaaDoor.PA
namespace Go.Proofs.YtblmgmhjlbkncaaDoor.PA
open Go.RowKit Go.Proofs.YtblmgmhjlbkncaaDoorW.PrintWords Go.Proofs.YtblmgmhjlbkncaaDoorW.PrintLast Go.Proofs.YtblmgmhjlbkncaaDoorW.PrintMore
attribute [local go_sem] max2_int min2_int max_two min_two max_three min_three max_four min_four
set_option linter.unusedVariables false
set_option linter.unusedSimpArgs false
mutual
def product_checkLengths.l0 : Nat → List Int → Int → Int → ByteArray → Int → Int → Int → Int → List Int → List Int → Option (Int)
 | 0, _, _, _, _, _, _, _, _, _, _ => none
 | k + 1, x24, x25, x26, x117000, x117001, x117002, x117003, x117004, x117005, x117006 => if x26 < x25 then (if 0 ≤ x26 then (if x26 < (x24.length : Int) then (if (rd x24 x26) < 100 then (product_checkLengths.j1 k x26 (rd x24 x26) x24 x25 x26 true x117000 x117001 x117002 x117003 x117004 x117005 x117006) else (product_checkLengths.j1 k x26 (rd x24 x26) x24 x25 x26 (decide ((rd x24 x26) > 20000)) x117000 x117001 x117002 x117003 x117004 x117005 x117006)) else (none)) else (none)) else (product_checkLengths.l1 k x117006 (x117006.length : Int) 0)
def product_checkLengths.j1 : Nat → Int → Int → List Int → Int → Int → Bool → ByteArray → Int → Int → Int → Int → List Int → List Int → Option (Int)
 | 0, _, _, _, _, _, _, _, _, _, _, _, _, _ => none
 | k + 1, x4, x5, x24, x25, x26, x36, x117000, x117001, x117002, x117003, x117004, x117005, x117006 => if x36 = true then (some 9) else (if x4 > 0 then (if 0 ≤ (wrap64 (x4 - 1)) then (if (wrap64 (x4 - 1)) < (x117005.length : Int) then (if x5 ≤ (rd x117005 (wrap64 (x4 - 1))) then (some 11) else (product_checkLengths.l0 k x24 x25 (wrap64 (x26 + 1)) x117000 x117001 x117002 x117003 x117004 x117005 x117006)) else (none)) else (none)) else (product_checkLengths.l0 k x24 x25 (wrap64 (x26 + 1)) x117000 x117001 x117002 x117003 x117004 x117005 x117006))
def product_checkLengths.l1 : Nat → List Int → Int → Int → Option (Int)
 | 0, _, _, _ => none
 | k + 1, x51, x52, x53 => if x53 < x52 then (if 0 ≤ x53 then (if x53 < (x51.length : Int) then (if (rd x51 x53) < 0 then (some 9) else (if (rd x51 x53) > 1000000 then (some 9) else (product_checkLengths.l1 k x51 x52 (wrap64 (x53 + 1))))) else (none)) else (none)) else (some 0)
end
def product_checkLengths.f (k : Nat) (a0_0 : ByteArray) (a0_1 : Int) (a0_2 : Int) (a0_3 : Int) (a0_4 : Int) (l0_5 : List Int) (l0_6 : List Int) : Option (Int) := if (l0_5.length : Int) = 0 then (some 3) else (if (l0_5.length : Int) > 8 then (some 4) else (if (l0_5.length : Int) = (l0_6.length : Int) then (product_checkLengths.l0 k l0_5 (l0_5.length : Int) 0 a0_0 a0_1 a0_2 a0_3 a0_4 l0_5 l0_6) else (some 19)))
set_option maxHeartbeats 8000000 in
set_option maxRecDepth 100000 in
theorem product_checkLengths.calls (k : Nat) (a0_0 : ByteArray) (a0_1 : Int) (a0_2 : Int) (a0_3 : Int) (a0_4 : Int) (A0_5 : Option Addr) (c0_5 : Nat) (l0_5 : List Int) (A0_6 : Option Addr) (c0_6 : Nat) (l0_6 : List Int) (r : Int) (w : World) (hr0_5 : Kd.C (Kd.int .i64) w A0_5 l0_5.length l0_5) (hc0_5 : l0_5.length ≤ c0_5) (hr0_6 : Kd.C (Kd.int .i64) w A0_6 l0_6.length l0_6) (hc0_6 : l0_6.length ≤ c0_6) (h : product_checkLengths.f k a0_0 a0_1 a0_2 a0_3 a0_4 l0_5 l0_6 = some r) :
  Calls Tryd.prog 61 #[.agg #[.string a0_0, .int .i64 a0_1, .int .i64 a0_2, .int .i64 a0_3, .int .i64 a0_4, .slice A0_5 l0_5.length c0_5, .slice A0_6 l0_6.length c0_6]] w fun e w' => e = .returned (.int .i64 r) ∧ Below w.heap.size w w' := by
 have hu54 := Tryd.underlying54
 have HR0_5 := Aside0.mk hr0_5
 have HC0_5 := Aside0.mk hc0_5
 clear hr0_5 hc0_5
 have HR0_6 := Aside0.mk hr0_6
 have HC0_6 := Aside0.mk hc0_6
 clear hr0_6 hc0_6
 have HB := q_ (Below.refl w.heap.size w)
 have H : (if (l0_5.length : Int) = 0 then (some 3) else (if (l0_5.length : Int) > 8 then (some 4) else (if (l0_5.length : Int) = (l0_6.length : Int) then (product_checkLengths.l0 k l0_5 (l0_5.length : Int) 0 a0_0 a0_1 a0_2 a0_3 a0_4 l0_5 l0_6) else (some 19)))) = some r := h
 clear h
 by_cases c2 : (l0_5.length : Int) = 0
 ·rw [if_pos c2] at H
  have c2b0 : ((l0_5.length : Int) == 0) = true := beq_iff_eq.mpr c2
  have c2b1 : ((l0_5.length : Int) != 0) = false := oD c2
  clear c2
  obtain rfl := Option.some.inj H
  go_enter Tryd.func61, Tryd.ntmps61
  go_wp2_with (first | ((with_reducible refine gate_dst (N := 1) rfl ?_); refine box_event ?hg (N := 1) ?hd (cs := #[.string a0_0, .int .i64 a0_1, .int .i64 a0_2, .int .i64 a0_3, .int .i64 a0_4, .slice A0_5 l0_5.length c0_5, .slice A0_6 l0_6.length c0_6]) (t := 54) ?hr ?_; (case hd => rfl); (case hg => rfl); (case hr => first | (go_simp; done) | (go_simp; rfl)); intro gb116 hg w3 hbox hb; have n0_ := q_ (pT (by repeat (first | (with_reducible first | exact HB.out | apply pA | apply pN | apply p1) | exact HB.out)) hb); have n1_ := q_ (hbox); have n2_ := q_ ((by rw [hg]; exact (pZ (by repeat (first | (with_reducible first | exact HB.out | apply pA | apply pN | apply p1) | exact HB.out))) : w.heap.size ≤ gb116)); have n3_ := n2_; clear HB; have HB := n0_; have BK116 := n1_; have GW116 := n2_; have GE116 := n3_; clear n0_ n1_ n2_ n3_; clear hb hbox hg; have hcz4 := blk_all BK116.out; simp only [CellsAt, List.toList_toArray, Nat.reduceAdd, and_true] at hcz4; have hfz4 := bF BK116.out))
  go_ret
  exact ⟨by first | rfl | (simp [*] <;> rfl), by repeat (first | (with_reducible first | exact HB.out | apply pA | apply pN | apply p1 | refine pS ?_ GE116.out) | exact HB.out)⟩
 ·rw [if_neg c2] at H
  have c2b0 : ((l0_5.length : Int) == 0) = false := oC c2
  have c2b1 : ((l0_5.length : Int) != 0) = true := bne_iff_ne.mpr c2
  have c2b2 : ¬ (l0_5 = []) := fun h_ => c2 (by rw [h_]; rfl)
  by_cases c5 : (l0_5.length : Int) > 8
  ·rw [if_pos c5] at H
   have c5b0 : decide (8 < (l0_5.length : Int)) = true := decide_eq_true c5
   have c5b1 : decide (8 < l0_5.length) = true := decide_eq_true (by omega)
   clear c5
   obtain rfl := Option.some.inj H
   go_enter Tryd.func61, Tryd.ntmps61
   go_wp2_with (first | ((with_reducible refine gate_dst (N := 1) rfl ?_); refine box_event ?hg (N := 1) ?hd (cs := #[.string a0_0, .int .i64 a0_1, .int .i64 a0_2, .int .i64 a0_3, .int .i64 a0_4, .slice A0_5 l0_5.length c0_5, .slice A0_6 l0_6.length c0_6]) (t := 54) ?hr ?_; (case hd => rfl); (case hg => rfl); (case hr => first | (go_simp; done) | (go_simp; rfl)); intro gb116 hg w6 hbox hb; have n0_ := q_ (pT (by repeat (first | (with_reducible first | exact HB.out | apply pA | apply pN | apply p1) | exact HB.out)) hb); have n1_ := q_ (hbox); have n2_ := q_ ((by rw [hg]; exact (pZ (by repeat (first | (with_reducible first | exact HB.out | apply pA | apply pN | apply p1) | exact HB.out))) : w.heap.size ≤ gb116)); have n3_ := n2_; clear HB; have HB := n0_; have BK116 := n1_; have GW116 := n2_; have GE116 := n3_; clear n0_ n1_ n2_ n3_; clear hb hbox hg; have hcz7 := blk_all BK116.out; simp only [CellsAt, List.toList_toArray, Nat.reduceAdd, and_true] at hcz7; have hfz7 := bF BK116.out))
   go_ret
   exact ⟨by first | rfl | (simp [*] <;> rfl), by repeat (first | (with_reducible first | exact HB.out | apply pA | apply pN | apply p1 | refine pS ?_ GE116.out) | exact HB.out)⟩
  ·rw [if_neg c5] at H
   have c5b0 : decide (8 < (l0_5.length : Int)) = false := decide_eq_false c5
   have c5b1 : decide (8 < l0_5.length) = false := decide_eq_false (by omega)
   clear c5
   by_cases c8 : (l0_5.length : Int) = (l0_6.length : Int)
   ·rw [if_pos c8] at H
    have c8b0 : ((l0_5.length : Int) == (l0_6.length : Int)) = true := beq_iff_eq.mpr c8
    have c8b1 : ((l0_5.length : Int) != (l0_6.length : Int)) = false := oD c8
    have c8b2 : (l0_5.length == l0_6.length) = true := by first | simpa using c8 | (simp at c8 ⊢; omega)
    clear c8
    have H' := Aside0.mk H
    clear H
    go_enter Tryd.func61, Tryd.ntmps61
    go_wp2_with (first | ((with_reducible refine gate_dst (N := 1) rfl ?_); refine box_event ?hg (N := 1) ?hd (cs := #[.string a0_0, .int .i64 a0_1, .int .i64 a0_2, .int .i64 a0_3, .int .i64 a0_4, .slice A0_5 l0_5.length c0_5, .slice A0_6 l0_6.length c0_6]) (t := 54) ?hr ?_; (case hd => rfl); (case hg => rfl); (case hr => first | (go_simp; done) | (go_simp; rfl)); intro gb116 hg w9 hbox hb; have n0_ := q_ (pT (by repeat (first | (with_reducible first | exact HB.out | apply pA | apply pN | apply p1) | exact HB.out)) hb); have n1_ := q_ (hbox); have n2_ := q_ ((by rw [hg]; exact (pZ (by repeat (first | (with_reducible first | exact HB.out | apply pA | apply pN | apply p1) | exact HB.out))) : w.heap.size ≤ gb116)); have n3_ := n2_; clear HB; have HB := n0_; have BK116 := n1_; have GW116 := n2_; have GE116 := n3_; clear n0_ n1_ n2_ n3_; clear hb hbox hg; have hcz10 := blk_all BK116.out; simp only [CellsAt, List.toList_toArray, Nat.reduceAdd, and_true] at hcz10; have hfz10 := bF BK116.out))
    go_loopg [26] k (fun kq v26 w' => ∃ (x26_1 : Int), v26 = .int .i64 x26_1 ∧ Aside0 (product_checkLengths.l0 kq l0_5 (l0_5.length : Int) x26_1 a0_0 a0_1 a0_2 a0_3 a0_4 l0_5 l0_6 = some r) ∧ Aside0 (kq ≤ k) ∧ Aside0 (w'.heap[gb116]? = some (.cells #[.string a0_0, .int .i64 a0_1, .int .i64 a0_2, .int .i64 a0_3, .int .i64 a0_4, (.slice A0_5 l0_5.length c0_5), (.slice A0_6 l0_6.length c0_6)] 54 (0, 0))) ∧ Aside0 (Below w.heap.size w w'))
    case atStart => exact ⟨(0), (by first | rfl | (simp; done) | (simp [*]; done)), H', ⟨Nat.le_refl _⟩, ⟨by (with_reducible repeat (first | refine bN ?_ _ | refine bW ?_ | refine bA ?_ _)); exact BK116.out⟩, ⟨by repeat (first | (with_reducible first | exact HB.out | apply pA | apply pN | apply p1 | refine pS ?_ GE116.out) | exact HB.out)⟩⟩
    case round =>
     clear H'
     try clear c2
     try clear c2b0
     try clear c2b1
     try clear c2b2
     try clear p2
     try clear c5
     try clear c5b0
     try clear c5b1
     try clear c6
     try clear c8
     try clear c8b0
     try clear c8b1
     try clear c8b2
     try clear hcz10
     try clear hcz4
     try clear hcz7
     try clear hfz10
     try clear hfz4
     try clear hfz7
     obtain ⟨x26_1, rfl, HA, HK1, BK116, HB⟩ := hrel
     cases gk with
     | zero => exact absurd HA.out (by simp [product_checkLengths.l0])
     | succ k1 =>
      have H := HA.out
      clear HA
      simp only [product_checkLengths.l0] at H
      by_cases c11 : x26_1 < (l0_5.length : Int)
      ·rw [if_pos c11] at H
       have c11b0 : decide (x26_1 < (l0_5.length : Int)) = true := decide_eq_true c11
       clear c11
       by_cases c12 : 0 ≤ x26_1
       ·rw [if_pos c12] at H
        have c12b0 : decide (0 ≤ x26_1) = true := decide_eq_true c12
        clear c12
        by_cases c13 : x26_1 < (l0_5.length : Int)
        ·rw [if_pos c13] at H
         have c13b0 : decide (x26_1 < (l0_5.length : Int)) = true := decide_eq_true c13
         clear c13
         have HC14 := Aside0.mk H
         clear H
         have p117 : 0 ≤ (x26_1 : Int) := of_decide_eq_true (by first | (with_reducible assumption) | assumption)
         have q117 : x26_1 < (l0_5.length : Int) := of_decide_eq_true (by first | (with_reducible assumption) | assumption)
         obtain ⟨ad117, e117, hx117_0⟩ := Kd.at_int HR0_5.out x26_1 p117 q117
         cases e117
         replace hx117_0 := (HB.out.cell (World.block_lt_of_cell? w _ hx117_0)).trans hx117_0
         replace p117 := eq_true p117
         replace q117 := eq_true q117
         go_upto_region 11 with (fail)
         go_cut [36] (fun v36 wc => ∃ (kq : Nat) (x36_13 : Bool), v36 = .bool x36_13 ∧ Aside0 (product_checkLengths.j1 kq x26_1 (rd l0_5 x26_1) l0_5 (l0_5.length : Int) x26_1 x36_13 a0_0 a0_1 a0_2 a0_3 a0_4 l0_5 l0_6 = some r) ∧ Aside0 (kq ≤ k1) ∧ Aside0 (wc.heap[gb116]? = some (.cells #[.string a0_0, .int .i64 a0_1, .int .i64 a0_2, .int .i64 a0_3, .int .i64 a0_4, (.slice (some ad117) l0_5.length c0_5), (.slice A0_6 l0_6.length c0_6)] 54 (0, 0))) ∧ Aside0 (Below w.heap.size w wc))
         case first =>
          have H := HC14.out
          clear HC14
          by_cases c15 : (rd l0_5 x26_1) < 100
          ·rw [if_pos c15] at H
           have c15b0 : decide ((rd l0_5 x26_1) < 100) = true := decide_eq_true c15
           clear c15
           (first | rw [c15b0] | (simp only [i64_w, i32_w]; rw [c15b0]) | skip)
           have H' := Aside0.mk H
           clear H
           go_wp2
           go_meet
           case rel => exact ⟨_, (true), (by first | rfl | (simp; done) | (simp [*]; done)), H', ⟨by have := HK1.out; first | omega | exact Nat.le_refl _⟩, ⟨by (with_reducible repeat (first | refine bN ?_ _ | refine bW ?_ | refine bA ?_ _)); exact BK116.out⟩, ⟨by repeat (first | (with_reducible first | exact HB.out | apply pA | apply pN | apply p1 | refine pS ?_ GE116.out) | exact HB.out)⟩⟩
          ·rw [if_neg c15] at H
           have c15b0 : decide ((rd l0_5 x26_1) < 100) = false := decide_eq_false c15
           clear c15
           (first | rw [c15b0] | (simp only [i64_w, i32_w]; rw [c15b0]) | skip)
           have H' := Aside0.mk H
           clear H
           go_wp2
           go_meet
           case rel => exact ⟨_, (decide ((rd l0_5 x26_1) > 20000)), (by first | rfl | (simp; done) | (simp [*]; done)), H', ⟨by have := HK1.out; first | omega | exact Nat.le_refl _⟩, ⟨by (with_reducible repeat (first | refine bN ?_ _ | refine bW ?_ | refine bA ?_ _)); exact BK116.out⟩, ⟨by repeat (first | (with_reducible first | exact HB.out | apply pA | apply pN | apply p1 | refine pS ?_ GE116.out) | exact HB.out)⟩⟩
         case rest =>
          clear HC14
          try clear c1
          try clear p1
          try clear q1
          try clear hx1
          try clear c2
          try clear c2b0
          try clear c2b1
          try clear c2b2
          try clear p2
          try clear c5
          try clear c5b0
          try clear c5b1
          try clear c6
          try clear c8
          try clear c8b0
          try clear c8b1
          try clear c8b2
          try clear c11
          try clear c11b0
          try clear p11
          try clear q11
          try clear hx11
          try clear c12
          try clear c12b0
          try clear c13
          try clear c13b0
          try clear c15
          try clear c15b0
          try clear hcz10
          try clear hcz4
          try clear hcz7
          try clear hfz10
          try clear hfz4
          try clear hfz7
          try clear hx117_0
          try clear p117
          try clear p2
          try clear q117
          obtain ⟨kq, x36_13, rfl, HA, HJ13, BK116, HB⟩ := hcut
          cases kq with
          | zero => exact absurd HA.out (by simp [product_checkLengths.j1])
          | succ kj13 =>
           have H := HA.out
           clear HA
           simp only [product_checkLengths.j1] at H
           by_cases c16 : x36_13 = true
           ·subst c16
            have H1 : (some 9) = some r := by rw [if_pos rfl] at H; exact H
            clear H
            have H := H1
            clear H1
            obtain rfl := Option.some.inj H
            go_wp2
            go_ret
            exact ⟨by first | rfl | (simp [*] <;> rfl), by repeat (first | (with_reducible first | exact HB.out | apply pA | apply pN | apply p1 | refine pS ?_ GE116.out) | exact HB.out)⟩
           ·replace c16 := Bool.eq_false_iff.mpr c16
            subst c16
            have H1 : (if x26_1 > 0 then (if 0 ≤ (wrap64 (x26_1 - 1)) then (if (wrap64 (x26_1 - 1)) < (l0_5.length : Int) then (if (rd l0_5 x26_1) ≤ (rd l0_5 (wrap64 (x26_1 - 1))) then (some 11) else (product_checkLengths.l0 kj13 l0_5 (l0_5.length : Int) (wrap64 (x26_1 + 1)) a0_0 a0_1 a0_2 a0_3 a0_4 l0_5 l0_6)) else (none)) else (none)) else (product_checkLengths.l0 kj13 l0_5 (l0_5.length : Int) (wrap64 (x26_1 + 1)) a0_0 a0_1 a0_2 a0_3 a0_4 l0_5 l0_6)) = some r := by rw [if_neg (show ¬ (false = true) by decide)] at H; exact H
            clear H
            have H := H1
            clear H1
            by_cases c17 : x26_1 > 0
            ·rw [if_pos c17] at H
             have c17b0 : decide (0 < x26_1) = true := decide_eq_true c17
             clear c17
             obtain ⟨ji18, hji18⟩ : ∃ j_ : Int, (wrap64 (x26_1 - 1)) = j_ := ⟨_, rfl⟩
             replace H : (if 0 ≤ (ji18) then (if (ji18) < (l0_5.length : Int) then (if (rd l0_5 x26_1) ≤ (rd l0_5 (ji18)) then (some 11) else (product_checkLengths.l0 kj13 l0_5 (l0_5.length : Int) (wrap64 (x26_1 + 1)) a0_0 a0_1 a0_2 a0_3 a0_4 l0_5 l0_6)) else (none)) else (none)) = some r := by first | (rw [hji18] at H; exact H) | (simp only [hji18] at H ⊢; exact H)
             have hji18w : (IntKind.i64.wrap (x26_1 - 1)) = ji18 := (i64_w _).trans hji18
             by_cases c19 : 0 ≤ (ji18)
             ·rw [if_pos c19] at H
              have c19b0 : decide (0 ≤ (ji18)) = true := decide_eq_true c19
              clear c19
              by_cases c20 : (ji18) < (l0_5.length : Int)
              ·rw [if_pos c20] at H
               have c20b0 : decide ((ji18) < (l0_5.length : Int)) = true := decide_eq_true c20
               clear c20
               by_cases c21 : (rd l0_5 x26_1) ≤ (rd l0_5 (ji18))
               ·rw [if_pos c21] at H
                have c21b0 : decide ((rd l0_5 x26_1) ≤ (rd l0_5 (ji18))) = true := decide_eq_true c21
                clear c21
                obtain rfl := Option.some.inj H
                have hcz22 := blk_all BK116.out
                simp only [CellsAt, List.toList_toArray, Nat.reduceAdd, and_true] at hcz22
                have hfz22 := bF BK116.out
                have p118 : 0 ≤ ((ji18) : Int) := of_decide_eq_true (by first | (with_reducible assumption) | assumption)
                have q118 : (ji18) < (l0_5.length : Int) := of_decide_eq_true (by first | (with_reducible assumption) | assumption)
                obtain ⟨ad118, e118, hx118_0⟩ := Kd.at_int HR0_5.out (ji18) p118 q118
                obtain rfl : ad117 = ad118 := (by injection e118)
                replace hx118_0 := (HB.out.cell (World.block_lt_of_cell? w _ hx118_0)).trans hx118_0
                replace p118 := eq_true p118
                replace q118 := eq_true q118
                go_wp2
                go_ret
                exact ⟨by first | rfl | (simp [errW_none, errW_some] <;> rfl) | (simp only [← hji18]; first | rfl | (simp [errW_none, errW_some] <;> rfl)) | (simp [*, errW_none, errW_some] <;> rfl), by repeat (first | (with_reducible first | exact HB.out | apply pA | apply pN | apply p1 | refine pS ?_ GE116.out) | exact HB.out)⟩
               ·rw [if_neg c21] at H
                have c21b0 : decide ((rd l0_5 x26_1) ≤ (rd l0_5 (ji18))) = false := decide_eq_false c21
                clear c21
                have H' := Aside0.mk H
                clear H
                have hcz23 := blk_all BK116.out
                simp only [CellsAt, List.toList_toArray, Nat.reduceAdd, and_true] at hcz23
                have hfz23 := bF BK116.out
                have p118 : 0 ≤ ((ji18) : Int) := of_decide_eq_true (by first | (with_reducible assumption) | assumption)
                have q118 : (ji18) < (l0_5.length : Int) := of_decide_eq_true (by first | (with_reducible assumption) | assumption)
                obtain ⟨ad118, e118, hx118_0⟩ := Kd.at_int HR0_5.out (ji18) p118 q118
                obtain rfl : ad117 = ad118 := (by injection e118)
                replace hx118_0 := (HB.out.cell (World.block_lt_of_cell? w _ hx118_0)).trans hx118_0
                replace p118 := eq_true p118
                replace q118 := eq_true q118
                go_wp2
                go_roundg kj13
                case measure => have := HK1.out; have := HJ13.out; omega
                case rel => exact ⟨(wrap64 (x26_1 + 1)), (by first | rfl | (simp; done) | (simp [*]; done)), H', ⟨by have := HK1.out; have := HJ13.out; omega⟩, ⟨by (with_reducible repeat (first | refine bN ?_ _ | refine bW ?_ | refine bA ?_ _)); exact BK116.out⟩, ⟨by repeat (first | (with_reducible first | exact HB.out | apply pA | apply pN | apply p1 | refine pS ?_ GE116.out) | exact HB.out)⟩⟩
              ·rw [if_neg c20] at H
               exact absurd H (by simp)
             ·rw [if_neg c19] at H
              exact absurd H (by simp)
            ·rw [if_neg c17] at H
             have c17b0 : decide (0 < x26_1) = false := decide_eq_false c17
             clear c17
             have H' := Aside0.mk H
             clear H
             go_wp2
             go_roundg kj13
             case measure => have := HK1.out; have := HJ13.out; omega
             case rel => exact ⟨(wrap64 (x26_1 + 1)), (by first | rfl | (simp; done) | (simp [*]; done)), H', ⟨by have := HK1.out; have := HJ13.out; omega⟩, ⟨by (with_reducible repeat (first | refine bN ?_ _ | refine bW ?_ | refine bA ?_ _)); exact BK116.out⟩, ⟨by repeat (first | (with_reducible first | exact HB.out | apply pA | apply pN | apply p1 | refine pS ?_ GE116.out) | exact HB.out)⟩⟩
        ·rw [if_neg c13] at H
         exact absurd H (by simp)
       ·rw [if_neg c12] at H
        exact absurd H (by simp)
      ·rw [if_neg c11] at H
       have c11b0 : decide (x26_1 < (l0_5.length : Int)) = false := decide_eq_false c11
       clear c11
       have H' := Aside0.mk H
       clear H
       have hcz24 := blk_all BK116.out
       simp only [CellsAt, List.toList_toArray, Nat.reduceAdd, and_true] at hcz24
       have hfz24 := bF BK116.out
       go_wp2
       go_loopg [53] k1 (fun kq v53 w' => ∃ (x53_2 : Int), v53 = .int .i64 x53_2 ∧ Aside0 (product_checkLengths.l1 kq l0_6 (l0_6.length : Int) x53_2 = some r) ∧ Aside0 (kq ≤ k1) ∧ Aside0 (w'.heap[gb116]? = some (.cells #[.string a0_0, .int .i64 a0_1, .int .i64 a0_2, .int .i64 a0_3, .int .i64 a0_4, (.slice A0_5 l0_5.length c0_5), (.slice A0_6 l0_6.length c0_6)] 54 (0, 0))) ∧ Aside0 (Below w.heap.size w w'))
       case atStart => exact ⟨(0), (by first | rfl | (simp; done) | (simp [*]; done)), H', ⟨Nat.le_refl _⟩, ⟨by (with_reducible repeat (first | refine bN ?_ _ | refine bW ?_ | refine bA ?_ _)); exact BK116.out⟩, ⟨by repeat (first | (with_reducible first | exact HB.out | apply pA | apply pN | apply p1 | refine pS ?_ GE116.out) | exact HB.out)⟩⟩
       case round =>
        clear H'
        try clear c1
        try clear p1
        try clear q1
        try clear hx1
        try clear c2
        try clear c2b0
        try clear c2b1
        try clear c2b2
        try clear p2
        try clear c5
        try clear c5b0
        try clear c5b1
        try clear c6
        try clear p6
        try clear c8
        try clear c8b0
        try clear c8b1
        try clear c8b2
        try clear c11
        try clear c11b0
        try clear p11
        try clear q11
        try clear hx11
        try clear c12
        try clear c12b0
        try clear c13
        try clear c13b0
        try clear c15
        try clear c15b0
        try clear c16
        try clear c17
        try clear c17b0
        try clear c19
        try clear c19b0
        try clear c20
        try clear c20b0
        try clear c21
        try clear c21b0
        try clear hcz10
        try clear hcz22
        try clear hcz23
        try clear hcz24
        try clear hcz4
        try clear hcz7
        try clear hfz10
        try clear hfz22
        try clear hfz23
        try clear hfz24
        try clear hfz4
        try clear hfz7
        try clear hx117_0
        try clear hx118_0
        try clear p1
        try clear p11
        try clear p117
        try clear p118
        try clear p2
        try clear q1
        try clear q11
        try clear q117
        try clear q118
        obtain ⟨x53_2, rfl, HA, HK2, BK116, HB⟩ := hrel
        cases gk with
        | zero => exact absurd HA.out (by simp [product_checkLengths.l1])
        | succ k2 =>
         have H := HA.out
         clear HA
         simp only [product_checkLengths.l1] at H
         by_cases c25 : x53_2 < (l0_6.length : Int)
         ·rw [if_pos c25] at H
          have c25b0 : decide (x53_2 < (l0_6.length : Int)) = true := decide_eq_true c25
          clear c25
          by_cases c26 : 0 ≤ x53_2
          ·rw [if_pos c26] at H
           have c26b0 : decide (0 ≤ x53_2) = true := decide_eq_true c26
           clear c26
           by_cases c27 : x53_2 < (l0_6.length : Int)
           ·rw [if_pos c27] at H
            have c27b0 : decide (x53_2 < (l0_6.length : Int)) = true := decide_eq_true c27
            clear c27
            by_cases c28 : (rd l0_6 x53_2) < 0
            ·rw [if_pos c28] at H
             have c28b0 : decide ((rd l0_6 x53_2) < 0) = true := decide_eq_true c28
             clear c28
             obtain rfl := Option.some.inj H
             have p119 : 0 ≤ (x53_2 : Int) := of_decide_eq_true (by first | (with_reducible assumption) | assumption)
             have q119 : x53_2 < (l0_6.length : Int) := of_decide_eq_true (by first | (with_reducible assumption) | assumption)
             obtain ⟨ad119, e119, hx119_0⟩ := Kd.at_int HR0_6.out x53_2 p119 q119
             cases e119
             replace hx119_0 := (HB.out.cell (World.block_lt_of_cell? w _ hx119_0)).trans hx119_0
             replace p119 := eq_true p119
             replace q119 := eq_true q119
             go_wp2
             go_ret
             exact ⟨by first | rfl | (simp [*] <;> rfl), by repeat (first | (with_reducible first | exact HB.out | apply pA | apply pN | apply p1 | refine pS ?_ GE116.out) | exact HB.out)⟩
            ·rw [if_neg c28] at H
             have c28b0 : decide ((rd l0_6 x53_2) < 0) = false := decide_eq_false c28
             clear c28
             by_cases c29 : (rd l0_6 x53_2) > 1000000
             ·rw [if_pos c29] at H
              have c29b0 : decide (1000000 < (rd l0_6 x53_2)) = true := decide_eq_true c29
              clear c29
              obtain rfl := Option.some.inj H
              have p119 : 0 ≤ (x53_2 : Int) := of_decide_eq_true (by first | (with_reducible assumption) | assumption)
              have q119 : x53_2 < (l0_6.length : Int) := of_decide_eq_true (by first | (with_reducible assumption) | assumption)
              obtain ⟨ad119, e119, hx119_0⟩ := Kd.at_int HR0_6.out x53_2 p119 q119
              cases e119
              replace hx119_0 := (HB.out.cell (World.block_lt_of_cell? w _ hx119_0)).trans hx119_0
              replace p119 := eq_true p119
              replace q119 := eq_true q119
              go_wp2
              go_ret
              exact ⟨by first | rfl | (simp [*] <;> rfl), by repeat (first | (with_reducible first | exact HB.out | apply pA | apply pN | apply p1 | refine pS ?_ GE116.out) | exact HB.out)⟩
             ·rw [if_neg c29] at H
              have c29b0 : decide (1000000 < (rd l0_6 x53_2)) = false := decide_eq_false c29
              clear c29
              have H' := Aside0.mk H
              clear H
              have p119 : 0 ≤ (x53_2 : Int) := of_decide_eq_true (by first | (with_reducible assumption) | assumption)
              have q119 : x53_2 < (l0_6.length : Int) := of_decide_eq_true (by first | (with_reducible assumption) | assumption)
              obtain ⟨ad119, e119, hx119_0⟩ := Kd.at_int HR0_6.out x53_2 p119 q119
              cases e119
              replace hx119_0 := (HB.out.cell (World.block_lt_of_cell? w _ hx119_0)).trans hx119_0
              replace p119 := eq_true p119
              replace q119 := eq_true q119
              go_wp2
              go_roundg k2
              case measure => have := HK1.out; have := HK2.out; omega
              case rel => exact ⟨(wrap64 (x53_2 + 1)), (by first | rfl | (simp; done) | (simp [*]; done)), H', ⟨by have := HK1.out; have := HK2.out; omega⟩, ⟨by (with_reducible repeat (first | refine bN ?_ _ | refine bW ?_ | refine bA ?_ _)); exact BK116.out⟩, ⟨by repeat (first | (with_reducible first | exact HB.out | apply pA | apply pN | apply p1 | refine pS ?_ GE116.out) | exact HB.out)⟩⟩
           ·rw [if_neg c27] at H
            exact absurd H (by simp)
          ·rw [if_neg c26] at H
           exact absurd H (by simp)
         ·rw [if_neg c25] at H
          have c25b0 : decide (x53_2 < (l0_6.length : Int)) = false := decide_eq_false c25
          clear c25
          obtain rfl := Option.some.inj H
          go_wp2
          go_ret
          exact ⟨by first | rfl | (simp [*] <;> rfl), by repeat (first | (with_reducible first | exact HB.out | apply pA | apply pN | apply p1 | refine pS ?_ GE116.out) | exact HB.out)⟩
   ·rw [if_neg c8] at H
    have c8b0 : ((l0_5.length : Int) == (l0_6.length : Int)) = false := oC c8
    have c8b1 : ((l0_5.length : Int) != (l0_6.length : Int)) = true := bne_iff_ne.mpr c8
    have c8b2 : (l0_5.length == l0_6.length) = false := by first | simpa using c8 | (simp at c8 ⊢; omega)
    obtain rfl := Option.some.inj H
    go_enter Tryd.func61, Tryd.ntmps61
    go_wp2_with (first | ((with_reducible refine gate_dst (N := 1) rfl ?_); refine box_event ?hg (N := 1) ?hd (cs := #[.string a0_0, .int .i64 a0_1, .int .i64 a0_2, .int .i64 a0_3, .int .i64 a0_4, .slice A0_5 l0_5.length c0_5, .slice A0_6 l0_6.length c0_6]) (t := 54) ?hr ?_; (case hd => rfl); (case hg => rfl); (case hr => first | (go_simp; done) | (go_simp; rfl)); intro gb116 hg w30 hbox hb; have n0_ := q_ (pT (by repeat (first | (with_reducible first | exact HB.out | apply pA | apply pN | apply p1) | exact HB.out)) hb); have n1_ := q_ (hbox); have n2_ := q_ ((by rw [hg]; exact (pZ (by repeat (first | (with_reducible first | exact HB.out | apply pA | apply pN | apply p1) | exact HB.out))) : w.heap.size ≤ gb116)); have n3_ := n2_; clear HB; have HB := n0_; have BK116 := n1_; have GW116 := n2_; have GE116 := n3_; clear n0_ n1_ n2_ n3_; clear hb hbox hg; have hcz31 := blk_all BK116.out; simp only [CellsAt, List.toList_toArray, Nat.reduceAdd, and_true] at hcz31; have hfz31 := bF BK116.out))
    go_ret
    exact ⟨by first | rfl | (simp [*] <;> rfl), by repeat (first | (with_reducible first | exact HB.out | apply pA | apply pN | apply p1 | refine pS ?_ GE116.out) | exact HB.out)⟩
end Go.Proofs.YtblmgmhjlbkncaaDoor.PA
namespace Go.Proofs.YtblmgmhjlbkncaaDoor.PA
open Go.RowKit Go.Proofs.YtblmgmhjlbkncaaDoorW.PrintWords Go.Proofs.YtblmgmhjlbkncaaDoorW.PrintLast Go.Proofs.YtblmgmhjlbkncaaDoorW.PrintMore
attribute [local go_sem] max2_int min2_int max_two min_two max_three min_three max_four min_four
set_option linter.unusedVariables false
set_option linter.unusedSimpArgs false
def product_Check.l0 : Nat → List (S54) → List (S54) → Int → Int → Option (Int)
 | 0, _, _, _, _ => none
 | k + 1, x0, x11, x12, x13 => if x13 < x12 then (if 0 ≤ x13 then (if x13 < (x11.length : Int) then ((ident_IsName.f k ((rd_T54 x11 x13).f0)).bind fun t122 => (if t122 = true then (if x13 ≤ (x0.length : Int) then ((product_Find.f k (x0.take (x13 : Int).toNat) ((rd_T54 x11 x13).f0)).bind fun bt127 => (if bt127.2 = true then (some 7) else ((product_sized.f k ((rd_T54 x11 x13).f0) ((rd_T54 x11 x13).f1) ((rd_T54 x11 x13).f2) ((rd_T54 x11 x13).f3) ((rd_T54 x11 x13).f4) ((rd_T54 x11 x13).f5) ((rd_T54 x11 x13).f6)).bind fun t129 => (if t129 = true then ((product_checkLengths.f k ((rd_T54 x11 x13).f0) ((rd_T54 x11 x13).f1) ((rd_T54 x11 x13).f2) ((rd_T54 x11 x13).f3) ((rd_T54 x11 x13).f4) ((rd_T54 x11 x13).f5) ((rd_T54 x11 x13).f6)).bind fun t130 => (if t130 = 0 then (product_Check.l0 k x0 x11 x12 (wrap64 (x13 + 1))) else (some t130))) else (some 9))))) else (none)) else (some 6))) else (none)) else (none)) else (some 0)
def product_Check.f (k : Nat) (l0 : List (S54)) : Option (Int) := if (l0.length : Int) > 16 then (some 4) else (product_Check.l0 k l0 l0 (l0.length : Int) 0)
def product_Check.T8 : Bool × List (List Nat × List Nat) := (true, [([], []), ([], []), ([0, 1], [0, 1]), ([], []), ([3], [3]), ([2, 4], [2, 4]), ([5], [5]), ([6], [6]), ([6], [6]), ([7, 5, 0, 1, 2, 3, 4, 5, 6, 7], [7]), ([8, 9, 0, 1, 2, 3, 4, 5, 6, 7, 8, 9], [8])])
def product_Check.B8 : List Nat := [0, 0, 3, 0, 8, 31, 63, 127, 127, 255, 1023]
theorem product_Check.tab8 : rtab .any (opsOf Tryd.f27 8) = product_Check.T8 := by kernel_rfl
theorem product_Check.bits8 : waitsOk product_Check.T8.2 product_Check.B8 = true := by kernel_rfl
set_option maxHeartbeats 8000000 in
set_option maxRecDepth 100000 in
theorem product_Check.calls (k : Nat) (A0 : Option Addr) (c0 : Nat) (l0 : List (S54)) (r : Int) (w : World) (hr0 : Kd.C k54 w A0 l0.length l0) (hc0 : l0.length ≤ c0) (h : product_Check.f k l0 = some r) :
  Calls Tryd.prog 27 #[.slice A0 l0.length c0] w fun e w' => e = .returned (.int .i64 r) ∧ Below w.heap.size w w' := by
 have hu54 := Tryd.underlying54
 have HR0 := Aside0.mk hr0
 have HC0 := Aside0.mk hc0
 clear hr0 hc0
 have HB := q_ (Below.refl w.heap.size w)
 have H : (if (l0.length : Int) > 16 then (some 4) else (product_Check.l0 k l0 l0 (l0.length : Int) 0)) = some r := h
 clear h
 by_cases c2 : (l0.length : Int) > 16
 ·rw [if_pos c2] at H
  have c2b0 : decide (16 < (l0.length : Int)) = true := decide_eq_true c2
  have c2b1 : decide (16 < l0.length) = true := decide_eq_true (by omega)
  clear c2
  obtain rfl := Option.some.inj H
  go_enter Tryd.func27, Tryd.ntmps27
  go_wp2
  go_ret
  exact ⟨by first | rfl | (simp [*] <;> rfl), by repeat (first | (with_reducible first | exact HB.out | apply pA | apply pN | apply p1) | exact HB.out)⟩
 ·rw [if_neg c2] at H
  have c2b0 : decide (16 < (l0.length : Int)) = false := decide_eq_false c2
  have c2b1 : decide (16 < l0.length) = false := decide_eq_false (by omega)
  clear c2
  have H' := Aside0.mk H
  clear H
  go_enter Tryd.func27, Tryd.ntmps27
  go_wp2
  go_loopg [13] k (fun kq v13 w' => ∃ (x13_1 : Int), v13 = .int .i64 x13_1 ∧ Aside0 (product_Check.l0 kq l0 l0 (l0.length : Int) x13_1 = some r) ∧ Aside0 (kq ≤ k) ∧ Aside0 (Below w.heap.size w w'))
  case atStart => exact ⟨(0), (by first | rfl | (simp; done) | (simp [*]; done)), H', ⟨Nat.le_refl _⟩, ⟨by repeat (first | (with_reducible first | exact HB.out | apply pA | apply pN | apply p1) | exact HB.out)⟩⟩
  case round =>
   clear H'
   try clear c2
   try clear c2b0
   try clear c2b1
   try clear p2
   obtain ⟨x13_1, rfl, HA, HK1, HB⟩ := hrel
   cases gk with
   | zero => exact absurd HA.out (by simp [product_Check.l0])
   | succ k1 =>
    have H := HA.out
    clear HA
    simp only [product_Check.l0] at H
    by_cases c3 : x13_1 < (l0.length : Int)
    ·rw [if_pos c3] at H
     have c3b0 : decide (x13_1 < (l0.length : Int)) = true := decide_eq_true c3
     clear c3
     by_cases c4 : 0 ≤ x13_1
     ·rw [if_pos c4] at H
      have c4b0 : decide (0 ≤ x13_1) = true := decide_eq_true c4
      clear c4
      by_cases c5 : x13_1 < (l0.length : Int)
      ·rw [if_pos c5] at H
       have c5b0 : decide (x13_1 < (l0.length : Int)) = true := decide_eq_true c5
       clear c5
       replace H := oB H
       obtain ⟨t122, A60, H⟩ := H
       replace H : (if t122 = true then (if x13_1 ≤ (l0.length : Int) then ((product_Find.f k1 (l0.take (x13_1 : Int).toNat) ((rd_T54 l0 x13_1).f0)).bind fun bt127 => (if bt127.2 = true then (some 7) else ((product_sized.f k1 ((rd_T54 l0 x13_1).f0) ((rd_T54 l0 x13_1).f1) ((rd_T54 l0 x13_1).f2) ((rd_T54 l0 x13_1).f3) ((rd_T54 l0 x13_1).f4) ((rd_T54 l0 x13_1).f5) ((rd_T54 l0 x13_1).f6)).bind fun t129 => (if t129 = true then ((product_checkLengths.f k1 ((rd_T54 l0 x13_1).f0) ((rd_T54 l0 x13_1).f1) ((rd_T54 l0 x13_1).f2) ((rd_T54 l0 x13_1).f3) ((rd_T54 l0 x13_1).f4) ((rd_T54 l0 x13_1).f5) ((rd_T54 l0 x13_1).f6)).bind fun t130 => (if t130 = 0 then (product_Check.l0 k1 l0 l0 (l0.length : Int) (wrap64 (x13_1 + 1))) else (some t130))) else (some 9))))) else (none)) else (some 6)) = some r := H
       have A6 := Aside0.mk A60
       clear A60
       by_cases c7 : t122 = true
       ·subst c7
        have H1 : (if x13_1 ≤ (l0.length : Int) then ((product_Find.f k1 (l0.take (x13_1 : Int).toNat) ((rd_T54 l0 x13_1).f0)).bind fun bt127 => (if bt127.2 = true then (some 7) else ((product_sized.f k1 ((rd_T54 l0 x13_1).f0) ((rd_T54 l0 x13_1).f1) ((rd_T54 l0 x13_1).f2) ((rd_T54 l0 x13_1).f3) ((rd_T54 l0 x13_1).f4) ((rd_T54 l0 x13_1).f5) ((rd_T54 l0 x13_1).f6)).bind fun t129 => (if t129 = true then ((product_checkLengths.f k1 ((rd_T54 l0 x13_1).f0) ((rd_T54 l0 x13_1).f1) ((rd_T54 l0 x13_1).f2) ((rd_T54 l0 x13_1).f3) ((rd_T54 l0 x13_1).f4) ((rd_T54 l0 x13_1).f5) ((rd_T54 l0 x13_1).f6)).bind fun t130 => (if t130 = 0 then (product_Check.l0 k1 l0 l0 (l0.length : Int) (wrap64 (x13_1 + 1))) else (some t130))) else (some 9))))) else (none)) = some r := by rw [if_pos rfl] at H; exact H
        clear H
        have H := H1
        clear H1
        have c8b0 := eq_true (of_decide_eq_true (by first | (with_reducible assumption) | assumption) : 0 ≤ x13_1)
        by_cases c9 : x13_1 ≤ (l0.length : Int)
        ·rw [if_pos c9] at H
         have c9b0 := eq_true c9
         have c9b1 : decide (x13_1 ≤ (l0.length : Int)) = true := decide_eq_true c9
         clear c9
         obtain ⟨y123, hy123⟩ : ∃ y_ : List (S54), y_ = (l0.take (x13_1 : Int).toNat) := ⟨_, rfl⟩
         replace H : ((product_Find.f k1 y123 ((rd_T54 l0 x13_1).f0)).bind fun bt127 => (if bt127.2 = true then (some 7) else ((product_sized.f k1 ((rd_T54 l0 x13_1).f0) ((rd_T54 l0 x13_1).f1) ((rd_T54 l0 x13_1).f2) ((rd_T54 l0 x13_1).f3) ((rd_T54 l0 x13_1).f4) ((rd_T54 l0 x13_1).f5) ((rd_T54 l0 x13_1).f6)).bind fun t129 => (if t129 = true then ((product_checkLengths.f k1 ((rd_T54 l0 x13_1).f0) ((rd_T54 l0 x13_1).f1) ((rd_T54 l0 x13_1).f2) ((rd_T54 l0 x13_1).f3) ((rd_T54 l0 x13_1).f4) ((rd_T54 l0 x13_1).f5) ((rd_T54 l0 x13_1).f6)).bind fun t130 => (if t130 = 0 then (product_Check.l0 k1 l0 l0 (l0.length : Int) (wrap64 (x13_1 + 1))) else (some t130))) else (some 9))))) = some r := by first | (rw [hy123]; with_reducible exact H) | (have H2_ := (Option.bind_some _ _).symm.trans H; rw [hy123]; with_reducible exact H2_) | (have H2_ := (Option.bind_some _ _).symm.trans H; with_reducible exact H2_) | with_reducible exact H | (rw [hy123]; exact H) | exact H
         have Ny123 := Aside0.mk hy123
         clear hy123
         replace H := oB H
         obtain ⟨⟨t127, t128⟩, A100, H⟩ := H
         replace H : (if t128 = true then (some 7) else ((product_sized.f k1 ((rd_T54 l0 x13_1).f0) ((rd_T54 l0 x13_1).f1) ((rd_T54 l0 x13_1).f2) ((rd_T54 l0 x13_1).f3) ((rd_T54 l0 x13_1).f4) ((rd_T54 l0 x13_1).f5) ((rd_T54 l0 x13_1).f6)).bind fun t129 => (if t129 = true then ((product_checkLengths.f k1 ((rd_T54 l0 x13_1).f0) ((rd_T54 l0 x13_1).f1) ((rd_T54 l0 x13_1).f2) ((rd_T54 l0 x13_1).f3) ((rd_T54 l0 x13_1).f4) ((rd_T54 l0 x13_1).f5) ((rd_T54 l0 x13_1).f6)).bind fun t130 => (if t130 = 0 then (product_Check.l0 k1 l0 l0 (l0.length : Int) (wrap64 (x13_1 + 1))) else (some t130))) else (some 9)))) = some r := H
         have A10 := Aside0.mk A100
         clear A100
         by_cases c11 : t128 = true
         ·subst c11
          have H1 : (some 7) = some r := by rw [if_pos rfl] at H; exact H
          clear H
          have H := H1
          clear H1
          obtain rfl := Option.some.inj H
          have p120 : 0 ≤ (x13_1 : Int) := of_decide_eq_true (by first | (with_reducible assumption) | assumption)
          have q120 : x13_1 < (l0.length : Int) := of_decide_eq_true (by first | (with_reducible assumption) | assumption)
          obtain ⟨ad120, A120_5, c120_5, A120_6, c120_6, e120, hx120_0, hx120_1, hx120_2, hx120_3, hx120_4, hx120_5, hx120_6, hl120_5, hi120_5, hl120_6, hi120_6⟩ := at_T54 HR0.out x13_1 p120 q120
          cases e120
          replace hx120_0 := (HB.out.cell (World.block_lt_of_cell? w _ hx120_0)).trans hx120_0
          replace hx120_1 := (HB.out.cell (World.block_lt_of_cell? w _ hx120_1)).trans hx120_1
          replace hx120_2 := (HB.out.cell (World.block_lt_of_cell? w _ hx120_2)).trans hx120_2
          replace hx120_3 := (HB.out.cell (World.block_lt_of_cell? w _ hx120_3)).trans hx120_3
          replace hx120_4 := (HB.out.cell (World.block_lt_of_cell? w _ hx120_4)).trans hx120_4
          replace hx120_5 := (HB.out.cell (World.block_lt_of_cell? w _ hx120_5)).trans hx120_5
          replace hx120_6 := (HB.out.cell (World.block_lt_of_cell? w _ hx120_6)).trans hx120_6
          have HR120_5 := Aside0.mk hi120_5
          have HC120_5 := Aside0.mk hl120_5
          clear hi120_5 hl120_5
          have HR120_6 := Aside0.mk hi120_6
          have HC120_6 := Aside0.mk hl120_6
          clear hi120_6 hl120_6
          replace p120 := eq_true p120
          replace q120 := eq_true q120
          try go_wp2_with (first | ((with_reducible refine gate_dst (N := 4) rfl ?_); refine box_event ?hg (N := 4) ?hd (cs := #[.string (⟨#[]⟩ : ByteArray), .int .i64 0, .int .i64 0, .int .i64 0, .int .i64 0, .slice none 0 0, .slice none 0 0]) (t := 54) ?hr ?_; (case hd => rfl); (case hg => rfl); (case hr => first | (go_simp; done) | (go_simp; rfl)); intro gb121 hg w12 hbox hb; have n0_ := q_ (pT (by repeat (first | (with_reducible first | exact HB.out | apply pA | apply pN | apply p1) | exact HB.out)) hb); have n1_ := q_ (hbox); have n2_ := q_ ((by rw [hg]; exact (pZ (by repeat (first | (with_reducible first | exact HB.out | apply pA | apply pN | apply p1) | exact HB.out))) : w.heap.size ≤ gb121)); have n3_ := n2_; clear HB; have HB := n0_; have BK121 := n1_; have GW121 := n2_; have GE121 := n3_; clear n0_ n1_ n2_ n3_; clear hb hbox hg; have hcz13 := blk_all BK121.out; simp only [CellsAt, List.toList_toArray, Nat.reduceAdd, and_true] at hcz13; have hfz13 := bF BK121.out) | ((with_reducible refine gate_callee (f := 29) rfl ?_); refine goesL_ (some 20) rfl rfl Tryd.func29 (by kernel_rfl) rfl #[.string ((rd_T54 l0 x13_1).f0)] rfl (by first | rfl | (simp only [List.map_toArray]; rfl)) ?_; (with_reducible refine (ident_IsName.calls k1 ((rd_T54 l0 x13_1).f0) true _ A6.out).mono ?_); rintro e w' ⟨rfl, ⟨nd, rfl⟩⟩; refine ⟨_, rfl, ?_⟩))
          have n0_ : Aside0 ((((((((w12.setCell ⟨gb121, 0, none⟩ (.string ((rd_T54 l0 x13_1).f0))).setCell ⟨gb121, 1, none⟩ (.int .i64 ((rd_T54 l0 x13_1).f1))).setCell ⟨gb121, 2, none⟩ (.int .i64 ((rd_T54 l0 x13_1).f2))).setCell ⟨gb121, 3, none⟩ (.int .i64 ((rd_T54 l0 x13_1).f3))).setCell ⟨gb121, 4, none⟩ (.int .i64 ((rd_T54 l0 x13_1).f4))).setCell ⟨gb121, 5, none⟩ (.slice A120_5 ((rd_T54 l0 x13_1).f5).length c120_5)).setCell ⟨gb121, 6, none⟩ (.slice A120_6 ((rd_T54 l0 x13_1).f6).length c120_6)).heap[gb121]? = some (.cells #[.string ((rd_T54 l0 x13_1).f0), .int .i64 ((rd_T54 l0 x13_1).f1), .int .i64 ((rd_T54 l0 x13_1).f2), .int .i64 ((rd_T54 l0 x13_1).f3), .int .i64 ((rd_T54 l0 x13_1).f4), .slice A120_5 ((rd_T54 l0 x13_1).f5).length c120_5, .slice A120_6 ((rd_T54 l0 x13_1).f6).length c120_6] 54 (0, 0))) := ⟨by (with_reducible repeat (first | refine bN ?_ _ | refine bW ?_ | refine bA ?_ _)); refine blk_put (cs := #[.string ((rd_T54 l0 x13_1).f0), .int .i64 ((rd_T54 l0 x13_1).f1), .int .i64 ((rd_T54 l0 x13_1).f2), .int .i64 ((rd_T54 l0 x13_1).f3), .int .i64 ((rd_T54 l0 x13_1).f4), .slice A120_5 ((rd_T54 l0 x13_1).f5).length c120_5, .slice none 0 0]) ?_ 6 _ rfl; (with_reducible repeat (first | refine bN ?_ _ | refine bW ?_ | refine bA ?_ _)); refine blk_put (cs := #[.string ((rd_T54 l0 x13_1).f0), .int .i64 ((rd_T54 l0 x13_1).f1), .int .i64 ((rd_T54 l0 x13_1).f2), .int .i64 ((rd_T54 l0 x13_1).f3), .int .i64 ((rd_T54 l0 x13_1).f4), .slice none 0 0, .slice none 0 0]) ?_ 5 _ rfl; (with_reducible repeat (first | refine bN ?_ _ | refine bW ?_ | refine bA ?_ _)); refine blk_put (cs := #[.string ((rd_T54 l0 x13_1).f0), .int .i64 ((rd_T54 l0 x13_1).f1), .int .i64 ((rd_T54 l0 x13_1).f2), .int .i64 ((rd_T54 l0 x13_1).f3), .int .i64 0, .slice none 0 0, .slice none 0 0]) ?_ 4 _ rfl; (with_reducible repeat (first | refine bN ?_ _ | refine bW ?_ | refine bA ?_ _)); refine blk_put (cs := #[.string ((rd_T54 l0 x13_1).f0), .int .i64 ((rd_T54 l0 x13_1).f1), .int .i64 ((rd_T54 l0 x13_1).f2), .int .i64 0, .int .i64 0, .slice none 0 0, .slice none 0 0]) ?_ 3 _ rfl; (with_reducible repeat (first | refine bN ?_ _ | refine bW ?_ | refine bA ?_ _)); refine blk_put (cs := #[.string ((rd_T54 l0 x13_1).f0), .int .i64 ((rd_T54 l0 x13_1).f1), .int .i64 0, .int .i64 0, .int .i64 0, .slice none 0 0, .slice none 0 0]) ?_ 2 _ rfl; (with_reducible repeat (first | refine bN ?_ _ | refine bW ?_ | refine bA ?_ _)); refine blk_put (cs := #[.string ((rd_T54 l0 x13_1).f0), .int .i64 0, .int .i64 0, .int .i64 0, .int .i64 0, .slice none 0 0, .slice none 0 0]) ?_ 1 _ rfl; (with_reducible repeat (first | refine bN ?_ _ | refine bW ?_ | refine bA ?_ _)); refine blk_put (cs := #[.string (⟨#[]⟩ : ByteArray), .int .i64 0, .int .i64 0, .int .i64 0, .int .i64 0, .slice none 0 0, .slice none 0 0]) ?_ 0 _ rfl; (with_reducible repeat (first | refine bN ?_ _ | refine bW ?_ | refine bA ?_ _)); exact BK121.out⟩
          have n1_ : Aside0 (Below w.heap.size w (((((((w12.setCell ⟨gb121, 0, none⟩ (.string ((rd_T54 l0 x13_1).f0))).setCell ⟨gb121, 1, none⟩ (.int .i64 ((rd_T54 l0 x13_1).f1))).setCell ⟨gb121, 2, none⟩ (.int .i64 ((rd_T54 l0 x13_1).f2))).setCell ⟨gb121, 3, none⟩ (.int .i64 ((rd_T54 l0 x13_1).f3))).setCell ⟨gb121, 4, none⟩ (.int .i64 ((rd_T54 l0 x13_1).f4))).setCell ⟨gb121, 5, none⟩ (.slice A120_5 ((rd_T54 l0 x13_1).f5).length c120_5)).setCell ⟨gb121, 6, none⟩ (.slice A120_6 ((rd_T54 l0 x13_1).f6).length c120_6))) := ⟨by repeat (first | (with_reducible first | exact HB.out | apply pA | apply pN | apply p1 | refine pS ?_ GE121.out) | exact HB.out)⟩
          (try clear BK121)
          (try clear HB)
          generalize (((((((w12.setCell ⟨gb121, 0, none⟩ (.string ((rd_T54 l0 x13_1).f0))).setCell ⟨gb121, 1, none⟩ (.int .i64 ((rd_T54 l0 x13_1).f1))).setCell ⟨gb121, 2, none⟩ (.int .i64 ((rd_T54 l0 x13_1).f2))).setCell ⟨gb121, 3, none⟩ (.int .i64 ((rd_T54 l0 x13_1).f3))).setCell ⟨gb121, 4, none⟩ (.int .i64 ((rd_T54 l0 x13_1).f4))).setCell ⟨gb121, 5, none⟩ (.slice A120_5 ((rd_T54 l0 x13_1).f5).length c120_5)).setCell ⟨gb121, 6, none⟩ (.slice A120_6 ((rd_T54 l0 x13_1).f6).length c120_6)) = w14 at n0_ n1_ ⊢
          have BK121 := n0_
          have HB := n1_
          clear n0_ n1_
          (try (rw [drewN_self w14]; generalize hq_ : World.drewN w14 _ = w14; have n0_ : Aside0 (w14.heap[gb121]? = some (.cells #[.string ((rd_T54 l0 x13_1).f0), .int .i64 ((rd_T54 l0 x13_1).f1), .int .i64 ((rd_T54 l0 x13_1).f2), .int .i64 ((rd_T54 l0 x13_1).f3), .int .i64 ((rd_T54 l0 x13_1).f4), .slice A120_5 ((rd_T54 l0 x13_1).f5).length c120_5, .slice A120_6 ((rd_T54 l0 x13_1).f6).length c120_6] 54 (0, 0))) := ⟨by rw [← hq_]; exact (by (with_reducible repeat (first | refine bN ?_ _ | refine bW ?_ | refine bA ?_ _)); exact BK121.out)⟩; have n1_ : Aside0 (Below w.heap.size w w14) := ⟨by rw [← hq_]; exact (by repeat (first | (with_reducible first | exact HB.out | apply pA | apply pN | apply p1 | refine pS ?_ GE121.out) | exact HB.out))⟩; clear BK121 HB hq_; have BK121 := n0_; have HB := n1_; clear n0_ n1_))
          have n0_ := q_ (bW BK121.out)
          have n1_ := q_ (p1 HB.out)
          clear BK121
          clear HB
          have BK121 := n0_
          have HB := n1_
          clear n0_ n1_
          have q16 : (x13_1 : Int) ≤ ((l0.length : Int) : Int) := of_decide_eq_true (by first | (with_reducible assumption) | assumption)
          obtain ⟨i016, hi016, _, hsz16, _⟩ := info_parts info54
          have hroom16 : l0.length ≤ c0 := HC0.out
          have hC16 : Kd.C k54 _ (some ad120) l0.length l0 := HR0.out
          have hcut16 := cut_to (P := Tryd.prog) 24 54 .i64 Tryd.underlying24 hi016 (some ad120) l0.length c0 x13_1 (of_decide_eq_true (by first | (with_reducible assumption) | assumption)) q16 hroom16
          have hr16 := Kd.C_take (m := (x13_1 : Int).toNat) hC16 (by omega)
          have hy16 : y123.length = (x13_1 : Int).toNat := (by rw [Ny123.out, List.length_take]; omega)
          rw [← Ny123.out] at hr16
          rw [← hy16] at hcut16
          have HR126 := Aside0.mk hr16
          have HC126 := q_ (show y123.length ≤ c0 from by omega)
          clear hr16 hC16 hroom16 hi016 hsz16
          have KY16 := Aside0.mk hy16
          clear hy16
          replace q16 := eq_true q16
          refine start_ (n := 11) (S := fun w' => w'.cell? ⟨gb121, 0, none⟩ = some (.string ((rd_T54 l0 x13_1).f0)) ∧ w'.cell? ⟨gb121, 1, none⟩ = some (.int .i64 ((rd_T54 l0 x13_1).f1)) ∧ w'.cell? ⟨gb121, 2, none⟩ = some (.int .i64 ((rd_T54 l0 x13_1).f2)) ∧ w'.cell? ⟨gb121, 3, none⟩ = some (.int .i64 ((rd_T54 l0 x13_1).f3)) ∧ w'.cell? ⟨gb121, 4, none⟩ = some (.int .i64 ((rd_T54 l0 x13_1).f4)) ∧ w'.cell? ⟨gb121, 5, none⟩ = some (.slice A120_5 ((rd_T54 l0 x13_1).f5).length c120_5) ∧ w'.cell? ⟨gb121, 6, none⟩ = some (.slice A120_6 ((rd_T54 l0 x13_1).f6).length c120_6)) (ds := []) #[false, false, false, false, false, false, false, false, false, false, false] (by kernel_rfl) rfl rfl ⟨(bC BK121.out 0).trans rfl, (bC BK121.out 1).trans rfl, (bC BK121.out 2).trans rfl, (bC BK121.out 3).trans rfl, (bC BK121.out 4).trans rfl, (bC BK121.out 5).trans rfl, (bC BK121.out 6).trans rfl⟩ (fun hHeld => ?_); refine with_tabW product_Check.tab8 product_Check.bits8 (fun HT_ HW_ => ?_)
          generalize w14.drew = w15 at BK121 HB HR126 hHeld ⊢
          refine pure_ (i := 0) (N := some 23) (v := ?_) (a' := ?_) #[true, false, false, false, false, false, false, false, false, false, false] rfl rfl (any_of HT_.out (by kernel_rfl)) (fun _ _ _ h => h) (Or.inl ⟨by rfl, ?_⟩) ?_ ?_
          rotate_left
          ·intro w'
           go_simp
           with_reducible rfl
          rotate_left
          ·simp only [Act.put, List.setIfInBounds_toArray, List.set_cons_zero, List.set_cons_succ, i64_w, i32_w]
           rfl
          refine pure_ (i := 1) (N := some 24) (v := ?_) (a' := ?_) #[true, true, false, false, false, false, false, false, false, false, false] rfl rfl (any_of HT_.out (by kernel_rfl)) (fun _ _ _ h => h) (Or.inl ⟨by rfl, ?_⟩) ?_ ?_
          rotate_left
          ·intro w'
           go_simp
           with_reducible rfl
          rotate_left
          ·simp only [Act.put, List.setIfInBounds_toArray, List.set_cons_zero, List.set_cons_succ, i64_w, i32_w]
           rfl
          refine pure_ (i := 2) (N := some 25) (v := ?_) (a' := ?_) #[true, true, true, false, false, false, false, false, false, false, false] rfl rfl (any_of HT_.out (by kernel_rfl)) (fun _ _ _ h => h) (Or.inl ⟨by rfl, ?_⟩) ?_ ?_
          rotate_left
          ·intro w'
           go_simp
           with_reducible rfl
          rotate_left
          ·simp only [Act.put, List.setIfInBounds_toArray, List.set_cons_zero, List.set_cons_succ, i64_w, i32_w]
           rfl
          refine pure_ (i := 3) (N := some 26) (v := ?_) (a' := ?_) #[true, true, true, true, false, false, false, false, false, false, false] rfl rfl (any_of HT_.out (by kernel_rfl)) (fun _ _ _ h => h) (Or.inl ⟨by rfl, ?_⟩) ?_ ?_
          rotate_left
          ·intro w'
           go_simp
           with_reducible rfl
          rotate_left
          ·simp only [Act.put, List.setIfInBounds_toArray, List.set_cons_zero, List.set_cons_succ, i64_w, i32_w]
           rfl
          refine take_ (i := 4) (N := some 27) (v := ?_) (a' := ?_) #[true, true, true, true, true, false, false, false, false, false, false] rfl rfl (take_ofW HT_.out HW_.out (by kernel_rfl)) (fun _ _ _ h => h) (Or.inl ⟨by rfl, ?_⟩) hHeld ?_ ?_
          rotate_left
          ·rintro w' ⟨s0, s1, s2, s3, s4, s5, s6⟩
           go_simp
           with_reducible rfl
          rotate_left
          ·simp only [Act.put, List.setIfInBounds_toArray, List.set_cons_zero, List.set_cons_succ, i64_w, i32_w]
           rfl
          refine one_ (i := 5) (N := some 28) #[true, true, true, true, true, true, false, false, false, false, false] rfl rfl (one_of HT_.out (by kernel_rfl)) (by decide) (fun K hK => ?_)
          refine goes_ Tryd.func59 (by kernel_rfl) rfl #[.slice (some ad120) y123.length c0, .string ((rd_T54 l0 x13_1).f0)] (by rfl) rfl rfl (by first | rfl | (simp only [List.map_toArray]; rfl)) ?_
          with_reducible refine (product_Find.calls k1 _ _ y123 ((rd_T54 l0 x13_1).f0) t127 true _ ?side1 ?side2 A10.out).mono ?_
          (case side1 => repeat (first | exact (Kd.C_below HR126.out HB.out) | (with_reducible refine Kd.C_alloc ?_ _) | (with_reducible refine Kd.C_drewN ?_ _) | (with_reducible refine Kd.C_drew ?_)))
          (case side2 => exact HC126.out)
          rintro e w17 ⟨rfl, hb⟩
          refine ⟨_, rfl, ?_⟩
          have n0_ := q_ (bB (g := gb121) (by (with_reducible repeat (first | refine bN ?_ _ | refine bW ?_ | refine bA ?_ _)); exact BK121.out) hb)
          have n1_ := q_ (pT (by repeat (first | (with_reducible first | exact HB.out | apply pA | apply pN | apply p1 | refine pS ?_ GE121.out) | exact HB.out)) hb)
          clear BK121
          clear HB
          have BK121 := n0_
          have HB := n1_
          clear n0_ n1_
          (try clear hb)
          (try clear hb2)
          (try clear hk)
          (try clear hi)
          refine hK.out _ _ ⟨(bC BK121.out 0).trans rfl, (bC BK121.out 1).trans rfl, (bC BK121.out 2).trans rfl, (bC BK121.out 3).trans rfl, (bC BK121.out 4).trans rfl, (bC BK121.out 5).trans rfl, (bC BK121.out 6).trans rfl⟩ (fun hHeld => ?_)
          clear hK K
          refine norm_ (a' := ?_) ?_ ?_
          rotate_left
          ·show Act.put _ (some 28) _ = _
           simp only [Act.put, List.setIfInBounds_toArray, List.set_cons_zero, List.set_cons_succ, i64_w, i32_w]
           rfl
          refine pure_ (i := 6) (N := some 22) (v := ?_) (a' := ?_) #[true, true, true, true, true, true, true, false, false, false, false] rfl rfl (any_of HT_.out (by kernel_rfl)) (fun _ _ _ h => h) (Or.inl ⟨by rfl, ?_⟩) ?_ ?_
          rotate_left
          ·intro w'
           go_simp
           with_reducible rfl
          rotate_left
          ·simp only [Act.put, List.setIfInBounds_toArray, List.set_cons_zero, List.set_cons_succ, i64_w, i32_w]
           rfl
          refine pure_ (i := 7) (N := some 29) (v := ?_) (a' := ?_) #[true, true, true, true, true, true, true, true, false, false, false] rfl rfl (any_of HT_.out (by kernel_rfl)) (fun _ _ _ h => h) (Or.inl ⟨by rfl, ?_⟩) ?_ ?_
          rotate_left
          ·intro w'
           go_simp
           with_reducible rfl
          rotate_left
          ·simp only [Act.put, List.setIfInBounds_toArray, List.set_cons_zero, List.set_cons_succ, i64_w, i32_w]
           rfl
          refine pure_ (i := 8) (N := some 30) (v := ?_) (a' := ?_) #[true, true, true, true, true, true, true, true, true, false, false] rfl rfl (any_of HT_.out (by kernel_rfl)) (fun _ _ _ h => h) (Or.inl ⟨by rfl, ?_⟩) ?_ ?_
          rotate_left
          ·intro w'
           go_simp
           with_reducible rfl
          rotate_left
          ·simp only [Act.put, List.setIfInBounds_toArray, List.set_cons_zero, List.set_cons_succ, i64_w, i32_w]
           rfl
          refine pure_ (i := 9) (N := some 5) (v := ?_) (a' := ?_) #[true, true, true, true, true, true, true, true, true, true, false] rfl rfl (any_of HT_.out (by kernel_rfl)) (fun _ _ _ h => h) (Or.inl ⟨by rfl, ?_⟩) ?_ ?_
          rotate_left
          ·intro w'
           go_simp
           with_reducible rfl
          rotate_left
          ·simp only [Act.put, List.setIfInBounds_toArray, List.set_cons_zero, List.set_cons_succ, i64_w, i32_w]
           rfl
          refine pure_ (i := 10) (N := some 6) (v := ?_) (a' := ?_) #[true, true, true, true, true, true, true, true, true, true, true] rfl rfl (any_of HT_.out (by kernel_rfl)) (fun _ _ _ h => h) (Or.inl ⟨by rfl, ?_⟩) ?_ ?_
          rotate_left
          ·intro w'
           go_simp
           with_reducible rfl
          rotate_left
          ·simp only [Act.put, List.setIfInBounds_toArray, List.set_cons_zero, List.set_cons_succ, i64_w, i32_w]
           rfl
          refine done_ (done_of HT_.out (by kernel_rfl)) ?_
          try go_wp2
          go_ret
          exact ⟨by first | rfl | (simp [*] <;> rfl), by repeat (first | (with_reducible first | exact HB.out | apply pA | apply pN | apply p1 | refine pS ?_ GE121.out) | exact HB.out)⟩
         ·replace c11 := Bool.eq_false_iff.mpr c11
          subst c11
          have H1 : ((product_sized.f k1 ((rd_T54 l0 x13_1).f0) ((rd_T54 l0 x13_1).f1) ((rd_T54 l0 x13_1).f2) ((rd_T54 l0 x13_1).f3) ((rd_T54 l0 x13_1).f4) ((rd_T54 l0 x13_1).f5) ((rd_T54 l0 x13_1).f6)).bind fun t129 => (if t129 = true then ((product_checkLengths.f k1 ((rd_T54 l0 x13_1).f0) ((rd_T54 l0 x13_1).f1) ((rd_T54 l0 x13_1).f2) ((rd_T54 l0 x13_1).f3) ((rd_T54 l0 x13_1).f4) ((rd_T54 l0 x13_1).f5) ((rd_T54 l0 x13_1).f6)).bind fun t130 => (if t130 = 0 then (product_Check.l0 k1 l0 l0 (l0.length : Int) (wrap64 (x13_1 + 1))) else (some t130))) else (some 9))) = some r := by rw [if_neg (show ¬ (false = true) by decide)] at H; exact H
          clear H
          have H := H1
          clear H1
          replace H := oB H
          obtain ⟨t129, A180, H⟩ := H
          replace H : (if t129 = true then ((product_checkLengths.f k1 ((rd_T54 l0 x13_1).f0) ((rd_T54 l0 x13_1).f1) ((rd_T54 l0 x13_1).f2) ((rd_T54 l0 x13_1).f3) ((rd_T54 l0 x13_1).f4) ((rd_T54 l0 x13_1).f5) ((rd_T54 l0 x13_1).f6)).bind fun t130 => (if t130 = 0 then (product_Check.l0 k1 l0 l0 (l0.length : Int) (wrap64 (x13_1 + 1))) else (some t130))) else (some 9)) = some r := H
          have A18 := Aside0.mk A180
          clear A180
          by_cases c19 : t129 = true
          ·subst c19
           have H1 : ((product_checkLengths.f k1 ((rd_T54 l0 x13_1).f0) ((rd_T54 l0 x13_1).f1) ((rd_T54 l0 x13_1).f2) ((rd_T54 l0 x13_1).f3) ((rd_T54 l0 x13_1).f4) ((rd_T54 l0 x13_1).f5) ((rd_T54 l0 x13_1).f6)).bind fun t130 => (if t130 = 0 then (product_Check.l0 k1 l0 l0 (l0.length : Int) (wrap64 (x13_1 + 1))) else (some t130))) = some r := by rw [if_pos rfl] at H; exact H
           clear H
           have H := H1
           clear H1
           replace H := oB H
           obtain ⟨t130, A200, H⟩ := H
           replace H : (if t130 = 0 then (product_Check.l0 k1 l0 l0 (l0.length : Int) (wrap64 (x13_1 + 1))) else (some t130)) = some r := H
           have A20 := Aside0.mk A200
           clear A200
           by_cases c21 : t130 = 0
           ·rw [if_pos c21] at H
            have c21b0 : (t130 == 0) = true := beq_iff_eq.mpr c21
            have c21b1 : (t130 != 0) = false := oD c21
            clear c21
            have H' := Aside0.mk H
            clear H
            have p120 : 0 ≤ (x13_1 : Int) := of_decide_eq_true (by first | (with_reducible assumption) | assumption)
            have q120 : x13_1 < (l0.length : Int) := of_decide_eq_true (by first | (with_reducible assumption) | assumption)
            obtain ⟨ad120, A120_5, c120_5, A120_6, c120_6, e120, hx120_0, hx120_1, hx120_2, hx120_3, hx120_4, hx120_5, hx120_6, hl120_5, hi120_5, hl120_6, hi120_6⟩ := at_T54 HR0.out x13_1 p120 q120
            cases e120
            replace hx120_0 := (HB.out.cell (World.block_lt_of_cell? w _ hx120_0)).trans hx120_0
            replace hx120_1 := (HB.out.cell (World.block_lt_of_cell? w _ hx120_1)).trans hx120_1
            replace hx120_2 := (HB.out.cell (World.block_lt_of_cell? w _ hx120_2)).trans hx120_2
            replace hx120_3 := (HB.out.cell (World.block_lt_of_cell? w _ hx120_3)).trans hx120_3
            replace hx120_4 := (HB.out.cell (World.block_lt_of_cell? w _ hx120_4)).trans hx120_4
            replace hx120_5 := (HB.out.cell (World.block_lt_of_cell? w _ hx120_5)).trans hx120_5
            replace hx120_6 := (HB.out.cell (World.block_lt_of_cell? w _ hx120_6)).trans hx120_6
            have HR120_5 := Aside0.mk hi120_5
            have HC120_5 := Aside0.mk hl120_5
            clear hi120_5 hl120_5
            have HR120_6 := Aside0.mk hi120_6
            have HC120_6 := Aside0.mk hl120_6
            clear hi120_6 hl120_6
            replace p120 := eq_true p120
            replace q120 := eq_true q120
            try go_wp2_with (first | ((with_reducible refine gate_dst (N := 4) rfl ?_); refine box_event ?hg (N := 4) ?hd (cs := #[.string (⟨#[]⟩ : ByteArray), .int .i64 0, .int .i64 0, .int .i64 0, .int .i64 0, .slice none 0 0, .slice none 0 0]) (t := 54) ?hr ?_; (case hd => rfl); (case hg => rfl); (case hr => first | (go_simp; done) | (go_simp; rfl)); intro gb121 hg w22 hbox hb; have n0_ := q_ (pT (by repeat (first | (with_reducible first | exact HB.out | apply pA | apply pN | apply p1) | exact HB.out)) hb); have n1_ := q_ (hbox); have n2_ := q_ ((by rw [hg]; exact (pZ (by repeat (first | (with_reducible first | exact HB.out | apply pA | apply pN | apply p1) | exact HB.out))) : w.heap.size ≤ gb121)); have n3_ := n2_; clear HB; have HB := n0_; have BK121 := n1_; have GW121 := n2_; have GE121 := n3_; clear n0_ n1_ n2_ n3_; clear hb hbox hg; have hcz23 := blk_all BK121.out; simp only [CellsAt, List.toList_toArray, Nat.reduceAdd, and_true] at hcz23; have hfz23 := bF BK121.out) | ((with_reducible refine gate_callee (f := 29) rfl ?_); refine goesL_ (some 20) rfl rfl Tryd.func29 (by kernel_rfl) rfl #[.string ((rd_T54 l0 x13_1).f0)] rfl (by first | rfl | (simp only [List.map_toArray]; rfl)) ?_; (with_reducible refine (ident_IsName.calls k1 ((rd_T54 l0 x13_1).f0) true _ A6.out).mono ?_); rintro e w' ⟨rfl, ⟨nd, rfl⟩⟩; refine ⟨_, rfl, ?_⟩))
            have n0_ : Aside0 ((((((((w22.setCell ⟨gb121, 0, none⟩ (.string ((rd_T54 l0 x13_1).f0))).setCell ⟨gb121, 1, none⟩ (.int .i64 ((rd_T54 l0 x13_1).f1))).setCell ⟨gb121, 2, none⟩ (.int .i64 ((rd_T54 l0 x13_1).f2))).setCell ⟨gb121, 3, none⟩ (.int .i64 ((rd_T54 l0 x13_1).f3))).setCell ⟨gb121, 4, none⟩ (.int .i64 ((rd_T54 l0 x13_1).f4))).setCell ⟨gb121, 5, none⟩ (.slice A120_5 ((rd_T54 l0 x13_1).f5).length c120_5)).setCell ⟨gb121, 6, none⟩ (.slice A120_6 ((rd_T54 l0 x13_1).f6).length c120_6)).heap[gb121]? = some (.cells #[.string ((rd_T54 l0 x13_1).f0), .int .i64 ((rd_T54 l0 x13_1).f1), .int .i64 ((rd_T54 l0 x13_1).f2), .int .i64 ((rd_T54 l0 x13_1).f3), .int .i64 ((rd_T54 l0 x13_1).f4), .slice A120_5 ((rd_T54 l0 x13_1).f5).length c120_5, .slice A120_6 ((rd_T54 l0 x13_1).f6).length c120_6] 54 (0, 0))) := ⟨by (with_reducible repeat (first | refine bN ?_ _ | refine bW ?_ | refine bA ?_ _)); refine blk_put (cs := #[.string ((rd_T54 l0 x13_1).f0), .int .i64 ((rd_T54 l0 x13_1).f1), .int .i64 ((rd_T54 l0 x13_1).f2), .int .i64 ((rd_T54 l0 x13_1).f3), .int .i64 ((rd_T54 l0 x13_1).f4), .slice A120_5 ((rd_T54 l0 x13_1).f5).length c120_5, .slice none 0 0]) ?_ 6 _ rfl; (with_reducible repeat (first | refine bN ?_ _ | refine bW ?_ | refine bA ?_ _)); refine blk_put (cs := #[.string ((rd_T54 l0 x13_1).f0), .int .i64 ((rd_T54 l0 x13_1).f1), .int .i64 ((rd_T54 l0 x13_1).f2), .int .i64 ((rd_T54 l0 x13_1).f3), .int .i64 ((rd_T54 l0 x13_1).f4), .slice none 0 0, .slice none 0 0]) ?_ 5 _ rfl; (with_reducible repeat (first | refine bN ?_ _ | refine bW ?_ | refine bA ?_ _)); refine blk_put (cs := #[.string ((rd_T54 l0 x13_1).f0), .int .i64 ((rd_T54 l0 x13_1).f1), .int .i64 ((rd_T54 l0 x13_1).f2), .int .i64 ((rd_T54 l0 x13_1).f3), .int .i64 0, .slice none 0 0, .slice none 0 0]) ?_ 4 _ rfl; (with_reducible repeat (first | refine bN ?_ _ | refine bW ?_ | refine bA ?_ _)); refine blk_put (cs := #[.string ((rd_T54 l0 x13_1).f0), .int .i64 ((rd_T54 l0 x13_1).f1), .int .i64 ((rd_T54 l0 x13_1).f2), .int .i64 0, .int .i64 0, .slice none 0 0, .slice none 0 0]) ?_ 3 _ rfl; (with_reducible repeat (first | refine bN ?_ _ | refine bW ?_ | refine bA ?_ _)); refine blk_put (cs := #[.string ((rd_T54 l0 x13_1).f0), .int .i64 ((rd_T54 l0 x13_1).f1), .int .i64 0, .int .i64 0, .int .i64 0, .slice none 0 0, .slice none 0 0]) ?_ 2 _ rfl; (with_reducible repeat (first | refine bN ?_ _ | refine bW ?_ | refine bA ?_ _)); refine blk_put (cs := #[.string ((rd_T54 l0 x13_1).f0), .int .i64 0, .int .i64 0, .int .i64 0, .int .i64 0, .slice none 0 0, .slice none 0 0]) ?_ 1 _ rfl; (with_reducible repeat (first | refine bN ?_ _ | refine bW ?_ | refine bA ?_ _)); refine blk_put (cs := #[.string (⟨#[]⟩ : ByteArray), .int .i64 0, .int .i64 0, .int .i64 0, .int .i64 0, .slice none 0 0, .slice none 0 0]) ?_ 0 _ rfl; (with_reducible repeat (first | refine bN ?_ _ | refine bW ?_ | refine bA ?_ _)); exact BK121.out⟩
            have n1_ : Aside0 (Below w.heap.size w (((((((w22.setCell ⟨gb121, 0, none⟩ (.string ((rd_T54 l0 x13_1).f0))).setCell ⟨gb121, 1, none⟩ (.int .i64 ((rd_T54 l0 x13_1).f1))).setCell ⟨gb121, 2, none⟩ (.int .i64 ((rd_T54 l0 x13_1).f2))).setCell ⟨gb121, 3, none⟩ (.int .i64 ((rd_T54 l0 x13_1).f3))).setCell ⟨gb121, 4, none⟩ (.int .i64 ((rd_T54 l0 x13_1).f4))).setCell ⟨gb121, 5, none⟩ (.slice A120_5 ((rd_T54 l0 x13_1).f5).length c120_5)).setCell ⟨gb121, 6, none⟩ (.slice A120_6 ((rd_T54 l0 x13_1).f6).length c120_6))) := ⟨by repeat (first | (with_reducible first | exact HB.out | apply pA | apply pN | apply p1 | refine pS ?_ GE121.out) | exact HB.out)⟩
            (try clear BK121)
            (try clear HB)
            generalize (((((((w22.setCell ⟨gb121, 0, none⟩ (.string ((rd_T54 l0 x13_1).f0))).setCell ⟨gb121, 1, none⟩ (.int .i64 ((rd_T54 l0 x13_1).f1))).setCell ⟨gb121, 2, none⟩ (.int .i64 ((rd_T54 l0 x13_1).f2))).setCell ⟨gb121, 3, none⟩ (.int .i64 ((rd_T54 l0 x13_1).f3))).setCell ⟨gb121, 4, none⟩ (.int .i64 ((rd_T54 l0 x13_1).f4))).setCell ⟨gb121, 5, none⟩ (.slice A120_5 ((rd_T54 l0 x13_1).f5).length c120_5)).setCell ⟨gb121, 6, none⟩ (.slice A120_6 ((rd_T54 l0 x13_1).f6).length c120_6)) = w24 at n0_ n1_ ⊢
            have BK121 := n0_
            have HB := n1_
            clear n0_ n1_
            (try (rw [drewN_self w24]; generalize hq_ : World.drewN w24 _ = w24; have n0_ : Aside0 (w24.heap[gb121]? = some (.cells #[.string ((rd_T54 l0 x13_1).f0), .int .i64 ((rd_T54 l0 x13_1).f1), .int .i64 ((rd_T54 l0 x13_1).f2), .int .i64 ((rd_T54 l0 x13_1).f3), .int .i64 ((rd_T54 l0 x13_1).f4), .slice A120_5 ((rd_T54 l0 x13_1).f5).length c120_5, .slice A120_6 ((rd_T54 l0 x13_1).f6).length c120_6] 54 (0, 0))) := ⟨by rw [← hq_]; exact (by (with_reducible repeat (first | refine bN ?_ _ | refine bW ?_ | refine bA ?_ _)); exact BK121.out)⟩; have n1_ : Aside0 (Below w.heap.size w w24) := ⟨by rw [← hq_]; exact (by repeat (first | (with_reducible first | exact HB.out | apply pA | apply pN | apply p1 | refine pS ?_ GE121.out) | exact HB.out))⟩; clear BK121 HB hq_; have BK121 := n0_; have HB := n1_; clear n0_ n1_))
            have n0_ := q_ (bW BK121.out)
            have n1_ := q_ (p1 HB.out)
            clear BK121
            clear HB
            have BK121 := n0_
            have HB := n1_
            clear n0_ n1_
            have q26 : (x13_1 : Int) ≤ ((l0.length : Int) : Int) := of_decide_eq_true (by first | (with_reducible assumption) | assumption)
            obtain ⟨i026, hi026, _, hsz26, _⟩ := info_parts info54
            have hroom26 : l0.length ≤ c0 := HC0.out
            have hC26 : Kd.C k54 _ (some ad120) l0.length l0 := HR0.out
            have hcut26 := cut_to (P := Tryd.prog) 24 54 .i64 Tryd.underlying24 hi026 (some ad120) l0.length c0 x13_1 (of_decide_eq_true (by first | (with_reducible assumption) | assumption)) q26 hroom26
            have hr26 := Kd.C_take (m := (x13_1 : Int).toNat) hC26 (by omega)
            have hy26 : y123.length = (x13_1 : Int).toNat := (by rw [Ny123.out, List.length_take]; omega)
            rw [← Ny123.out] at hr26
            rw [← hy26] at hcut26
            have HR126 := Aside0.mk hr26
            have HC126 := q_ (show y123.length ≤ c0 from by omega)
            clear hr26 hC26 hroom26 hi026 hsz26
            have KY26 := Aside0.mk hy26
            clear hy26
            replace q26 := eq_true q26
            refine start_ (n := 11) (S := fun w' => w'.cell? ⟨gb121, 0, none⟩ = some (.string ((rd_T54 l0 x13_1).f0)) ∧ w'.cell? ⟨gb121, 1, none⟩ = some (.int .i64 ((rd_T54 l0 x13_1).f1)) ∧ w'.cell? ⟨gb121, 2, none⟩ = some (.int .i64 ((rd_T54 l0 x13_1).f2)) ∧ w'.cell? ⟨gb121, 3, none⟩ = some (.int .i64 ((rd_T54 l0 x13_1).f3)) ∧ w'.cell? ⟨gb121, 4, none⟩ = some (.int .i64 ((rd_T54 l0 x13_1).f4)) ∧ w'.cell? ⟨gb121, 5, none⟩ = some (.slice A120_5 ((rd_T54 l0 x13_1).f5).length c120_5) ∧ w'.cell? ⟨gb121, 6, none⟩ = some (.slice A120_6 ((rd_T54 l0 x13_1).f6).length c120_6)) (ds := []) #[false, false, false, false, false, false, false, false, false, false, false] (by kernel_rfl) rfl rfl ⟨(bC BK121.out 0).trans rfl, (bC BK121.out 1).trans rfl, (bC BK121.out 2).trans rfl, (bC BK121.out 3).trans rfl, (bC BK121.out 4).trans rfl, (bC BK121.out 5).trans rfl, (bC BK121.out 6).trans rfl⟩ (fun hHeld => ?_); refine with_tabW product_Check.tab8 product_Check.bits8 (fun HT_ HW_ => ?_)
            generalize w24.drew = w25 at BK121 HB HR126 hHeld ⊢
            refine pure_ (i := 0) (N := some 23) (v := ?_) (a' := ?_) #[true, false, false, false, false, false, false, false, false, false, false] rfl rfl (any_of HT_.out (by kernel_rfl)) (fun _ _ _ h => h) (Or.inl ⟨by rfl, ?_⟩) ?_ ?_
            rotate_left
            ·intro w'
             go_simp
             with_reducible rfl
            rotate_left
            ·simp only [Act.put, List.setIfInBounds_toArray, List.set_cons_zero, List.set_cons_succ, i64_w, i32_w]
             rfl
            refine pure_ (i := 1) (N := some 24) (v := ?_) (a' := ?_) #[true, true, false, false, false, false, false, false, false, false, false] rfl rfl (any_of HT_.out (by kernel_rfl)) (fun _ _ _ h => h) (Or.inl ⟨by rfl, ?_⟩) ?_ ?_
            rotate_left
            ·intro w'
             go_simp
             with_reducible rfl
            rotate_left
            ·simp only [Act.put, List.setIfInBounds_toArray, List.set_cons_zero, List.set_cons_succ, i64_w, i32_w]
             rfl
            refine pure_ (i := 2) (N := some 25) (v := ?_) (a' := ?_) #[true, true, true, false, false, false, false, false, false, false, false] rfl rfl (any_of HT_.out (by kernel_rfl)) (fun _ _ _ h => h) (Or.inl ⟨by rfl, ?_⟩) ?_ ?_
            rotate_left
            ·intro w'
             go_simp
             with_reducible rfl
            rotate_left
            ·simp only [Act.put, List.setIfInBounds_toArray, List.set_cons_zero, List.set_cons_succ, i64_w, i32_w]
             rfl
            refine pure_ (i := 3) (N := some 26) (v := ?_) (a' := ?_) #[true, true, true, true, false, false, false, false, false, false, false] rfl rfl (any_of HT_.out (by kernel_rfl)) (fun _ _ _ h => h) (Or.inl ⟨by rfl, ?_⟩) ?_ ?_
            rotate_left
            ·intro w'
             go_simp
             with_reducible rfl
            rotate_left
            ·simp only [Act.put, List.setIfInBounds_toArray, List.set_cons_zero, List.set_cons_succ, i64_w, i32_w]
             rfl
            refine take_ (i := 4) (N := some 27) (v := ?_) (a' := ?_) #[true, true, true, true, true, false, false, false, false, false, false] rfl rfl (take_ofW HT_.out HW_.out (by kernel_rfl)) (fun _ _ _ h => h) (Or.inl ⟨by rfl, ?_⟩) hHeld ?_ ?_
            rotate_left
            ·rintro w' ⟨s0, s1, s2, s3, s4, s5, s6⟩
             go_simp
             with_reducible rfl
            rotate_left
            ·simp only [Act.put, List.setIfInBounds_toArray, List.set_cons_zero, List.set_cons_succ, i64_w, i32_w]
             rfl
            refine one_ (i := 5) (N := some 28) #[true, true, true, true, true, true, false, false, false, false, false] rfl rfl (one_of HT_.out (by kernel_rfl)) (by decide) (fun K hK => ?_)
            refine goes_ Tryd.func59 (by kernel_rfl) rfl #[.slice (some ad120) y123.length c0, .string ((rd_T54 l0 x13_1).f0)] (by rfl) rfl rfl (by first | rfl | (simp only [List.map_toArray]; rfl)) ?_
            with_reducible refine (product_Find.calls k1 _ _ y123 ((rd_T54 l0 x13_1).f0) t127 false _ ?side1 ?side2 A10.out).mono ?_
            (case side1 => repeat (first | exact (Kd.C_below HR126.out HB.out) | (with_reducible refine Kd.C_alloc ?_ _) | (with_reducible refine Kd.C_drewN ?_ _) | (with_reducible refine Kd.C_drew ?_)))
            (case side2 => exact HC126.out)
            rintro e w27 ⟨rfl, hb⟩
            refine ⟨_, rfl, ?_⟩
            have n0_ := q_ (bB (g := gb121) (by (with_reducible repeat (first | refine bN ?_ _ | refine bW ?_ | refine bA ?_ _)); exact BK121.out) hb)
            have n1_ := q_ (pT (by repeat (first | (with_reducible first | exact HB.out | apply pA | apply pN | apply p1 | refine pS ?_ GE121.out) | exact HB.out)) hb)
            clear BK121
            clear HB
            have BK121 := n0_
            have HB := n1_
            clear n0_ n1_
            (try clear hb)
            (try clear hb2)
            (try clear hk)
            (try clear hi)
            refine hK.out _ _ ⟨(bC BK121.out 0).trans rfl, (bC BK121.out 1).trans rfl, (bC BK121.out 2).trans rfl, (bC BK121.out 3).trans rfl, (bC BK121.out 4).trans rfl, (bC BK121.out 5).trans rfl, (bC BK121.out 6).trans rfl⟩ (fun hHeld => ?_)
            clear hK K
            refine norm_ (a' := ?_) ?_ ?_
            rotate_left
            ·show Act.put _ (some 28) _ = _
             simp only [Act.put, List.setIfInBounds_toArray, List.set_cons_zero, List.set_cons_succ, i64_w, i32_w]
             rfl
            refine pure_ (i := 6) (N := some 22) (v := ?_) (a' := ?_) #[true, true, true, true, true, true, true, false, false, false, false] rfl rfl (any_of HT_.out (by kernel_rfl)) (fun _ _ _ h => h) (Or.inl ⟨by rfl, ?_⟩) ?_ ?_
            rotate_left
            ·intro w'
             go_simp
             with_reducible rfl
            rotate_left
            ·simp only [Act.put, List.setIfInBounds_toArray, List.set_cons_zero, List.set_cons_succ, i64_w, i32_w]
             rfl
            refine pure_ (i := 7) (N := some 29) (v := ?_) (a' := ?_) #[true, true, true, true, true, true, true, true, false, false, false] rfl rfl (any_of HT_.out (by kernel_rfl)) (fun _ _ _ h => h) (Or.inl ⟨by rfl, ?_⟩) ?_ ?_
            rotate_left
            ·intro w'
             go_simp
             with_reducible rfl
            rotate_left
            ·simp only [Act.put, List.setIfInBounds_toArray, List.set_cons_zero, List.set_cons_succ, i64_w, i32_w]
             rfl
            refine pure_ (i := 8) (N := some 30) (v := ?_) (a' := ?_) #[true, true, true, true, true, true, true, true, true, false, false] rfl rfl (any_of HT_.out (by kernel_rfl)) (fun _ _ _ h => h) (Or.inl ⟨by rfl, ?_⟩) ?_ ?_
            rotate_left
            ·intro w'
             go_simp
             with_reducible rfl
            rotate_left
            ·simp only [Act.put, List.setIfInBounds_toArray, List.set_cons_zero, List.set_cons_succ, i64_w, i32_w]
             rfl
            refine pure_ (i := 9) (N := some 5) (v := ?_) (a' := ?_) #[true, true, true, true, true, true, true, true, true, true, false] rfl rfl (any_of HT_.out (by kernel_rfl)) (fun _ _ _ h => h) (Or.inl ⟨by rfl, ?_⟩) ?_ ?_
            rotate_left
            ·intro w'
             go_simp
             with_reducible rfl
            rotate_left
            ·simp only [Act.put, List.setIfInBounds_toArray, List.set_cons_zero, List.set_cons_succ, i64_w, i32_w]
             rfl
            refine pure_ (i := 10) (N := some 6) (v := ?_) (a' := ?_) #[true, true, true, true, true, true, true, true, true, true, true] rfl rfl (any_of HT_.out (by kernel_rfl)) (fun _ _ _ h => h) (Or.inl ⟨by rfl, ?_⟩) ?_ ?_
            rotate_left
            ·intro w'
             go_simp
             with_reducible rfl
            rotate_left
            ·simp only [Act.put, List.setIfInBounds_toArray, List.set_cons_zero, List.set_cons_succ, i64_w, i32_w]
             rfl
            refine done_ (done_of HT_.out (by kernel_rfl)) ?_
            have hcz28 := blk_all BK121.out
            simp only [CellsAt, List.toList_toArray, Nat.reduceAdd, and_true] at hcz28
            have hfz28 := bF BK121.out
            try go_wp2_with (first | ((with_reducible refine gate_callee (f := 60) rfl ?_); refine goesL_ (some 33) rfl rfl Tryd.func60 (by kernel_rfl) rfl #[.agg #[.string ((rd_T54 l0 x13_1).f0), .int .i64 ((rd_T54 l0 x13_1).f1), .int .i64 ((rd_T54 l0 x13_1).f2), .int .i64 ((rd_T54 l0 x13_1).f3), .int .i64 ((rd_T54 l0 x13_1).f4), .slice A120_5 ((rd_T54 l0 x13_1).f5).length c120_5, .slice A120_6 ((rd_T54 l0 x13_1).f6).length c120_6]] rfl (by first | rfl | (simp only [List.map_toArray]; rfl)) ?_; (with_reducible refine (product_sized.calls k1 ((rd_T54 l0 x13_1).f0) ((rd_T54 l0 x13_1).f1) ((rd_T54 l0 x13_1).f2) ((rd_T54 l0 x13_1).f3) ((rd_T54 l0 x13_1).f4) _ _ ((rd_T54 l0 x13_1).f5) _ _ ((rd_T54 l0 x13_1).f6) true _ ?side1 ?side2 ?side3 ?side4 A18.out).mono ?_); (case side1 => repeat (first | exact (Kd.C_below HR120_5.out HB.out) | (with_reducible refine Kd.C_alloc ?_ _) | (with_reducible refine Kd.C_drewN ?_ _) | (with_reducible refine Kd.C_drew ?_))); (case side2 => exact HC120_5.out); (case side3 => repeat (first | exact (Kd.C_below HR120_6.out HB.out) | (with_reducible refine Kd.C_alloc ?_ _) | (with_reducible refine Kd.C_drewN ?_ _) | (with_reducible refine Kd.C_drew ?_))); (case side4 => exact HC120_6.out); rintro e w29 ⟨rfl, hb⟩; refine ⟨_, rfl, ?_⟩; have n0_ := q_ (bB (g := gb121) (by (with_reducible repeat (first | refine bN ?_ _ | refine bW ?_ | refine bA ?_ _)); exact BK121.out) hb); have n1_ := q_ (pT (by repeat (first | (with_reducible first | exact HB.out | apply pA | apply pN | apply p1 | refine pS ?_ GE121.out) | exact HB.out)) hb); clear BK121; clear HB; have BK121 := n0_; have HB := n1_; clear n0_ n1_; (try clear hb); (try clear hb2); (try clear hk); (try clear hi); have hcz30 := blk_all BK121.out; simp only [CellsAt, List.toList_toArray, Nat.reduceAdd, and_true] at hcz30; have hfz30 := bF BK121.out) | ((with_reducible refine gate_callee (f := 61) rfl ?_); refine goesL_ (some 36) rfl rfl Tryd.func61 (by kernel_rfl) rfl #[.agg #[.string ((rd_T54 l0 x13_1).f0), .int .i64 ((rd_T54 l0 x13_1).f1), .int .i64 ((rd_T54 l0 x13_1).f2), .int .i64 ((rd_T54 l0 x13_1).f3), .int .i64 ((rd_T54 l0 x13_1).f4), .slice A120_5 ((rd_T54 l0 x13_1).f5).length c120_5, .slice A120_6 ((rd_T54 l0 x13_1).f6).length c120_6]] rfl (by first | rfl | (simp only [List.map_toArray]; rfl)) ?_; (with_reducible refine (product_checkLengths.calls k1 ((rd_T54 l0 x13_1).f0) ((rd_T54 l0 x13_1).f1) ((rd_T54 l0 x13_1).f2) ((rd_T54 l0 x13_1).f3) ((rd_T54 l0 x13_1).f4) _ _ ((rd_T54 l0 x13_1).f5) _ _ ((rd_T54 l0 x13_1).f6) t130 _ ?side1 ?side2 ?side3 ?side4 A20.out).mono ?_); (case side1 => repeat (first | exact (Kd.C_below HR120_5.out HB.out) | (with_reducible refine Kd.C_alloc ?_ _) | (with_reducible refine Kd.C_drewN ?_ _) | (with_reducible refine Kd.C_drew ?_))); (case side2 => exact HC120_5.out); (case side3 => repeat (first | exact (Kd.C_below HR120_6.out HB.out) | (with_reducible refine Kd.C_alloc ?_ _) | (with_reducible refine Kd.C_drewN ?_ _) | (with_reducible refine Kd.C_drew ?_))); (case side4 => exact HC120_6.out); rintro e w31 ⟨rfl, hb⟩; refine ⟨_, rfl, ?_⟩; have n0_ := q_ (bB (g := gb121) (by (with_reducible repeat (first | refine bN ?_ _ | refine bW ?_ | refine bA ?_ _)); exact BK121.out) hb); have n1_ := q_ (pT (by repeat (first | (with_reducible first | exact HB.out | apply pA | apply pN | apply p1 | refine pS ?_ GE121.out) | exact HB.out)) hb); clear BK121; clear HB; have BK121 := n0_; have HB := n1_; clear n0_ n1_; (try clear hb); (try clear hb2); (try clear hk); (try clear hi)))
            go_roundg k1
            case measure => have := HK1.out; omega
            case rel => exact ⟨(wrap64 (x13_1 + 1)), (by first | rfl | (simp; done) | (simp [*]; done)), H', ⟨by have := HK1.out; omega⟩, ⟨by repeat (first | (with_reducible first | exact HB.out | apply pA | apply pN | apply p1 | refine pS ?_ GE121.out) | exact HB.out)⟩⟩
           ·rw [if_neg c21] at H
            have c21b0 : (t130 == 0) = false := oC c21
            have c21b1 : (t130 != 0) = true := bne_iff_ne.mpr c21
            obtain rfl := Option.some.inj H
            have p120 : 0 ≤ (x13_1 : Int) := of_decide_eq_true (by first | (with_reducible assumption) | assumption)
            have q120 : x13_1 < (l0.length : Int) := of_decide_eq_true (by first | (with_reducible assumption) | assumption)
            obtain ⟨ad120, A120_5, c120_5, A120_6, c120_6, e120, hx120_0, hx120_1, hx120_2, hx120_3, hx120_4, hx120_5, hx120_6, hl120_5, hi120_5, hl120_6, hi120_6⟩ := at_T54 HR0.out x13_1 p120 q120
            cases e120
            replace hx120_0 := (HB.out.cell (World.block_lt_of_cell? w _ hx120_0)).trans hx120_0
            replace hx120_1 := (HB.out.cell (World.block_lt_of_cell? w _ hx120_1)).trans hx120_1
            replace hx120_2 := (HB.out.cell (World.block_lt_of_cell? w _ hx120_2)).trans hx120_2
            replace hx120_3 := (HB.out.cell (World.block_lt_of_cell? w _ hx120_3)).trans hx120_3
            replace hx120_4 := (HB.out.cell (World.block_lt_of_cell? w _ hx120_4)).trans hx120_4
            replace hx120_5 := (HB.out.cell (World.block_lt_of_cell? w _ hx120_5)).trans hx120_5
            replace hx120_6 := (HB.out.cell (World.block_lt_of_cell? w _ hx120_6)).trans hx120_6
            have HR120_5 := Aside0.mk hi120_5
            have HC120_5 := Aside0.mk hl120_5
            clear hi120_5 hl120_5
            have HR120_6 := Aside0.mk hi120_6
            have HC120_6 := Aside0.mk hl120_6
            clear hi120_6 hl120_6
            replace p120 := eq_true p120
            replace q120 := eq_true q120
            try go_wp2_with (first | ((with_reducible refine gate_dst (N := 4) rfl ?_); refine box_event ?hg (N := 4) ?hd (cs := #[.string (⟨#[]⟩ : ByteArray), .int .i64 0, .int .i64 0, .int .i64 0, .int .i64 0, .slice none 0 0, .slice none 0 0]) (t := 54) ?hr ?_; (case hd => rfl); (case hg => rfl); (case hr => first | (go_simp; done) | (go_simp; rfl)); intro gb121 hg w32 hbox hb; have n0_ := q_ (pT (by repeat (first | (with_reducible first | exact HB.out | apply pA | apply pN | apply p1) | exact HB.out)) hb); have n1_ := q_ (hbox); have n2_ := q_ ((by rw [hg]; exact (pZ (by repeat (first | (with_reducible first | exact HB.out | apply pA | apply pN | apply p1) | exact HB.out))) : w.heap.size ≤ gb121)); have n3_ := n2_; clear HB; have HB := n0_; have BK121 := n1_; have GW121 := n2_; have GE121 := n3_; clear n0_ n1_ n2_ n3_; clear hb hbox hg; have hcz33 := blk_all BK121.out; simp only [CellsAt, List.toList_toArray, Nat.reduceAdd, and_true] at hcz33; have hfz33 := bF BK121.out) | ((with_reducible refine gate_callee (f := 29) rfl ?_); refine goesL_ (some 20) rfl rfl Tryd.func29 (by kernel_rfl) rfl #[.string ((rd_T54 l0 x13_1).f0)] rfl (by first | rfl | (simp only [List.map_toArray]; rfl)) ?_; (with_reducible refine (ident_IsName.calls k1 ((rd_T54 l0 x13_1).f0) true _ A6.out).mono ?_); rintro e w' ⟨rfl, ⟨nd, rfl⟩⟩; refine ⟨_, rfl, ?_⟩))
            have n0_ : Aside0 ((((((((w32.setCell ⟨gb121, 0, none⟩ (.string ((rd_T54 l0 x13_1).f0))).setCell ⟨gb121, 1, none⟩ (.int .i64 ((rd_T54 l0 x13_1).f1))).setCell ⟨gb121, 2, none⟩ (.int .i64 ((rd_T54 l0 x13_1).f2))).setCell ⟨gb121, 3, none⟩ (.int .i64 ((rd_T54 l0 x13_1).f3))).setCell ⟨gb121, 4, none⟩ (.int .i64 ((rd_T54 l0 x13_1).f4))).setCell ⟨gb121, 5, none⟩ (.slice A120_5 ((rd_T54 l0 x13_1).f5).length c120_5)).setCell ⟨gb121, 6, none⟩ (.slice A120_6 ((rd_T54 l0 x13_1).f6).length c120_6)).heap[gb121]? = some (.cells #[.string ((rd_T54 l0 x13_1).f0), .int .i64 ((rd_T54 l0 x13_1).f1), .int .i64 ((rd_T54 l0 x13_1).f2), .int .i64 ((rd_T54 l0 x13_1).f3), .int .i64 ((rd_T54 l0 x13_1).f4), .slice A120_5 ((rd_T54 l0 x13_1).f5).length c120_5, .slice A120_6 ((rd_T54 l0 x13_1).f6).length c120_6] 54 (0, 0))) := ⟨by (with_reducible repeat (first | refine bN ?_ _ | refine bW ?_ | refine bA ?_ _)); refine blk_put (cs := #[.string ((rd_T54 l0 x13_1).f0), .int .i64 ((rd_T54 l0 x13_1).f1), .int .i64 ((rd_T54 l0 x13_1).f2), .int .i64 ((rd_T54 l0 x13_1).f3), .int .i64 ((rd_T54 l0 x13_1).f4), .slice A120_5 ((rd_T54 l0 x13_1).f5).length c120_5, .slice none 0 0]) ?_ 6 _ rfl; (with_reducible repeat (first | refine bN ?_ _ | refine bW ?_ | refine bA ?_ _)); refine blk_put (cs := #[.string ((rd_T54 l0 x13_1).f0), .int .i64 ((rd_T54 l0 x13_1).f1), .int .i64 ((rd_T54 l0 x13_1).f2), .int .i64 ((rd_T54 l0 x13_1).f3), .int .i64 ((rd_T54 l0 x13_1).f4), .slice none 0 0, .slice none 0 0]) ?_ 5 _ rfl; (with_reducible repeat (first | refine bN ?_ _ | refine bW ?_ | refine bA ?_ _)); refine blk_put (cs := #[.string ((rd_T54 l0 x13_1).f0), .int .i64 ((rd_T54 l0 x13_1).f1), .int .i64 ((rd_T54 l0 x13_1).f2), .int .i64 ((rd_T54 l0 x13_1).f3), .int .i64 0, .slice none 0 0, .slice none 0 0]) ?_ 4 _ rfl; (with_reducible repeat (first | refine bN ?_ _ | refine bW ?_ | refine bA ?_ _)); refine blk_put (cs := #[.string ((rd_T54 l0 x13_1).f0), .int .i64 ((rd_T54 l0 x13_1).f1), .int .i64 ((rd_T54 l0 x13_1).f2), .int .i64 0, .int .i64 0, .slice none 0 0, .slice none 0 0]) ?_ 3 _ rfl; (with_reducible repeat (first | refine bN ?_ _ | refine bW ?_ | refine bA ?_ _)); refine blk_put (cs := #[.string ((rd_T54 l0 x13_1).f0), .int .i64 ((rd_T54 l0 x13_1).f1), .int .i64 0, .int .i64 0, .int .i64 0, .slice none 0 0, .slice none 0 0]) ?_ 2 _ rfl; (with_reducible repeat (first | refine bN ?_ _ | refine bW ?_ | refine bA ?_ _)); refine blk_put (cs := #[.string ((rd_T54 l0 x13_1).f0), .int .i64 0, .int .i64 0, .int .i64 0, .int .i64 0, .slice none 0 0, .slice none 0 0]) ?_ 1 _ rfl; (with_reducible repeat (first | refine bN ?_ _ | refine bW ?_ | refine bA ?_ _)); refine blk_put (cs := #[.string (⟨#[]⟩ : ByteArray), .int .i64 0, .int .i64 0, .int .i64 0, .int .i64 0, .slice none 0 0, .slice none 0 0]) ?_ 0 _ rfl; (with_reducible repeat (first | refine bN ?_ _ | refine bW ?_ | refine bA ?_ _)); exact BK121.out⟩
            have n1_ : Aside0 (Below w.heap.size w (((((((w32.setCell ⟨gb121, 0, none⟩ (.string ((rd_T54 l0 x13_1).f0))).setCell ⟨gb121, 1, none⟩ (.int .i64 ((rd_T54 l0 x13_1).f1))).setCell ⟨gb121, 2, none⟩ (.int .i64 ((rd_T54 l0 x13_1).f2))).setCell ⟨gb121, 3, none⟩ (.int .i64 ((rd_T54 l0 x13_1).f3))).setCell ⟨gb121, 4, none⟩ (.int .i64 ((rd_T54 l0 x13_1).f4))).setCell ⟨gb121, 5, none⟩ (.slice A120_5 ((rd_T54 l0 x13_1).f5).length c120_5)).setCell ⟨gb121, 6, none⟩ (.slice A120_6 ((rd_T54 l0 x13_1).f6).length c120_6))) := ⟨by repeat (first | (with_reducible first | exact HB.out | apply pA | apply pN | apply p1 | refine pS ?_ GE121.out) | exact HB.out)⟩
            (try clear BK121)
            (try clear HB)
            generalize (((((((w32.setCell ⟨gb121, 0, none⟩ (.string ((rd_T54 l0 x13_1).f0))).setCell ⟨gb121, 1, none⟩ (.int .i64 ((rd_T54 l0 x13_1).f1))).setCell ⟨gb121, 2, none⟩ (.int .i64 ((rd_T54 l0 x13_1).f2))).setCell ⟨gb121, 3, none⟩ (.int .i64 ((rd_T54 l0 x13_1).f3))).setCell ⟨gb121, 4, none⟩ (.int .i64 ((rd_T54 l0 x13_1).f4))).setCell ⟨gb121, 5, none⟩ (.slice A120_5 ((rd_T54 l0 x13_1).f5).length c120_5)).setCell ⟨gb121, 6, none⟩ (.slice A120_6 ((rd_T54 l0 x13_1).f6).length c120_6)) = w34 at n0_ n1_ ⊢
            have BK121 := n0_
            have HB := n1_
            clear n0_ n1_
            (try (rw [drewN_self w34]; generalize hq_ : World.drewN w34 _ = w34; have n0_ : Aside0 (w34.heap[gb121]? = some (.cells #[.string ((rd_T54 l0 x13_1).f0), .int .i64 ((rd_T54 l0 x13_1).f1), .int .i64 ((rd_T54 l0 x13_1).f2), .int .i64 ((rd_T54 l0 x13_1).f3), .int .i64 ((rd_T54 l0 x13_1).f4), .slice A120_5 ((rd_T54 l0 x13_1).f5).length c120_5, .slice A120_6 ((rd_T54 l0 x13_1).f6).length c120_6] 54 (0, 0))) := ⟨by rw [← hq_]; exact (by (with_reducible repeat (first | refine bN ?_ _ | refine bW ?_ | refine bA ?_ _)); exact BK121.out)⟩; have n1_ : Aside0 (Below w.heap.size w w34) := ⟨by rw [← hq_]; exact (by repeat (first | (with_reducible first | exact HB.out | apply pA | apply pN | apply p1 | refine pS ?_ GE121.out) | exact HB.out))⟩; clear BK121 HB hq_; have BK121 := n0_; have HB := n1_; clear n0_ n1_))
            have n0_ := q_ (bW BK121.out)
            have n1_ := q_ (p1 HB.out)
            clear BK121
            clear HB
            have BK121 := n0_
            have HB := n1_
            clear n0_ n1_
            have q36 : (x13_1 : Int) ≤ ((l0.length : Int) : Int) := of_decide_eq_true (by first | (with_reducible assumption) | assumption)
            obtain ⟨i036, hi036, _, hsz36, _⟩ := info_parts info54
            have hroom36 : l0.length ≤ c0 := HC0.out
            have hC36 : Kd.C k54 _ (some ad120) l0.length l0 := HR0.out
            have hcut36 := cut_to (P := Tryd.prog) 24 54 .i64 Tryd.underlying24 hi036 (some ad120) l0.length c0 x13_1 (of_decide_eq_true (by first | (with_reducible assumption) | assumption)) q36 hroom36
            have hr36 := Kd.C_take (m := (x13_1 : Int).toNat) hC36 (by omega)
            have hy36 : y123.length = (x13_1 : Int).toNat := (by rw [Ny123.out, List.length_take]; omega)
            rw [← Ny123.out] at hr36
            rw [← hy36] at hcut36
            have HR126 := Aside0.mk hr36
            have HC126 := q_ (show y123.length ≤ c0 from by omega)
            clear hr36 hC36 hroom36 hi036 hsz36
            have KY36 := Aside0.mk hy36
            clear hy36
            replace q36 := eq_true q36
            refine start_ (n := 11) (S := fun w' => w'.cell? ⟨gb121, 0, none⟩ = some (.string ((rd_T54 l0 x13_1).f0)) ∧ w'.cell? ⟨gb121, 1, none⟩ = some (.int .i64 ((rd_T54 l0 x13_1).f1)) ∧ w'.cell? ⟨gb121, 2, none⟩ = some (.int .i64 ((rd_T54 l0 x13_1).f2)) ∧ w'.cell? ⟨gb121, 3, none⟩ = some (.int .i64 ((rd_T54 l0 x13_1).f3)) ∧ w'.cell? ⟨gb121, 4, none⟩ = some (.int .i64 ((rd_T54 l0 x13_1).f4)) ∧ w'.cell? ⟨gb121, 5, none⟩ = some (.slice A120_5 ((rd_T54 l0 x13_1).f5).length c120_5) ∧ w'.cell? ⟨gb121, 6, none⟩ = some (.slice A120_6 ((rd_T54 l0 x13_1).f6).length c120_6)) (ds := []) #[false, false, false, false, false, false, false, false, false, false, false] (by kernel_rfl) rfl rfl ⟨(bC BK121.out 0).trans rfl, (bC BK121.out 1).trans rfl, (bC BK121.out 2).trans rfl, (bC BK121.out 3).trans rfl, (bC BK121.out 4).trans rfl, (bC BK121.out 5).trans rfl, (bC BK121.out 6).trans rfl⟩ (fun hHeld => ?_); refine with_tabW product_Check.tab8 product_Check.bits8 (fun HT_ HW_ => ?_)
            generalize w34.drew = w35 at BK121 HB HR126 hHeld ⊢
            refine pure_ (i := 0) (N := some 23) (v := ?_) (a' := ?_) #[true, false, false, false, false, false, false, false, false, false, false] rfl rfl (any_of HT_.out (by kernel_rfl)) (fun _ _ _ h => h) (Or.inl ⟨by rfl, ?_⟩) ?_ ?_
            rotate_left
            ·intro w'
             go_simp
             with_reducible rfl
            rotate_left
            ·simp only [Act.put, List.setIfInBounds_toArray, List.set_cons_zero, List.set_cons_succ, i64_w, i32_w]
             rfl
            refine pure_ (i := 1) (N := some 24) (v := ?_) (a' := ?_) #[true, true, false, false, false, false, false, false, false, false, false] rfl rfl (any_of HT_.out (by kernel_rfl)) (fun _ _ _ h => h) (Or.inl ⟨by rfl, ?_⟩) ?_ ?_
            rotate_left
            ·intro w'
             go_simp
             with_reducible rfl
            rotate_left
            ·simp only [Act.put, List.setIfInBounds_toArray, List.set_cons_zero, List.set_cons_succ, i64_w, i32_w]
             rfl
            refine pure_ (i := 2) (N := some 25) (v := ?_) (a' := ?_) #[true, true, true, false, false, false, false, false, false, false, false] rfl rfl (any_of HT_.out (by kernel_rfl)) (fun _ _ _ h => h) (Or.inl ⟨by rfl, ?_⟩) ?_ ?_
            rotate_left
            ·intro w'
             go_simp
             with_reducible rfl
            rotate_left
            ·simp only [Act.put, List.setIfInBounds_toArray, List.set_cons_zero, List.set_cons_succ, i64_w, i32_w]
             rfl
            refine pure_ (i := 3) (N := some 26) (v := ?_) (a' := ?_) #[true, true, true, true, false, false, false, false, false, false, false] rfl rfl (any_of HT_.out (by kernel_rfl)) (fun _ _ _ h => h) (Or.inl ⟨by rfl, ?_⟩) ?_ ?_
            rotate_left
            ·intro w'
             go_simp
             with_reducible rfl
            rotate_left
            ·simp only [Act.put, List.setIfInBounds_toArray, List.set_cons_zero, List.set_cons_succ, i64_w, i32_w]
             rfl
            refine take_ (i := 4) (N := some 27) (v := ?_) (a' := ?_) #[true, true, true, true, true, false, false, false, false, false, false] rfl rfl (take_ofW HT_.out HW_.out (by kernel_rfl)) (fun _ _ _ h => h) (Or.inl ⟨by rfl, ?_⟩) hHeld ?_ ?_
            rotate_left
            ·rintro w' ⟨s0, s1, s2, s3, s4, s5, s6⟩
             go_simp
             with_reducible rfl
            rotate_left
            ·simp only [Act.put, List.setIfInBounds_toArray, List.set_cons_zero, List.set_cons_succ, i64_w, i32_w]
             rfl
            refine one_ (i := 5) (N := some 28) #[true, true, true, true, true, true, false, false, false, false, false] rfl rfl (one_of HT_.out (by kernel_rfl)) (by decide) (fun K hK => ?_)
            refine goes_ Tryd.func59 (by kernel_rfl) rfl #[.slice (some ad120) y123.length c0, .string ((rd_T54 l0 x13_1).f0)] (by rfl) rfl rfl (by first | rfl | (simp only [List.map_toArray]; rfl)) ?_
            with_reducible refine (product_Find.calls k1 _ _ y123 ((rd_T54 l0 x13_1).f0) t127 false _ ?side1 ?side2 A10.out).mono ?_
            (case side1 => repeat (first | exact (Kd.C_below HR126.out HB.out) | (with_reducible refine Kd.C_alloc ?_ _) | (with_reducible refine Kd.C_drewN ?_ _) | (with_reducible refine Kd.C_drew ?_)))
            (case side2 => exact HC126.out)
            rintro e w37 ⟨rfl, hb⟩
            refine ⟨_, rfl, ?_⟩
            have n0_ := q_ (bB (g := gb121) (by (with_reducible repeat (first | refine bN ?_ _ | refine bW ?_ | refine bA ?_ _)); exact BK121.out) hb)
            have n1_ := q_ (pT (by repeat (first | (with_reducible first | exact HB.out | apply pA | apply pN | apply p1 | refine pS ?_ GE121.out) | exact HB.out)) hb)
            clear BK121
            clear HB
            have BK121 := n0_
            have HB := n1_
            clear n0_ n1_
            (try clear hb)
            (try clear hb2)
            (try clear hk)
            (try clear hi)
            refine hK.out _ _ ⟨(bC BK121.out 0).trans rfl, (bC BK121.out 1).trans rfl, (bC BK121.out 2).trans rfl, (bC BK121.out 3).trans rfl, (bC BK121.out 4).trans rfl, (bC BK121.out 5).trans rfl, (bC BK121.out 6).trans rfl⟩ (fun hHeld => ?_)
            clear hK K
            refine norm_ (a' := ?_) ?_ ?_
            rotate_left
            ·show Act.put _ (some 28) _ = _
             simp only [Act.put, List.setIfInBounds_toArray, List.set_cons_zero, List.set_cons_succ, i64_w, i32_w]
             rfl
            refine pure_ (i := 6) (N := some 22) (v := ?_) (a' := ?_) #[true, true, true, true, true, true, true, false, false, false, false] rfl rfl (any_of HT_.out (by kernel_rfl)) (fun _ _ _ h => h) (Or.inl ⟨by rfl, ?_⟩) ?_ ?_
            rotate_left
            ·intro w'
             go_simp
             with_reducible rfl
            rotate_left
            ·simp only [Act.put, List.setIfInBounds_toArray, List.set_cons_zero, List.set_cons_succ, i64_w, i32_w]
             rfl
            refine pure_ (i := 7) (N := some 29) (v := ?_) (a' := ?_) #[true, true, true, true, true, true, true, true, false, false, false] rfl rfl (any_of HT_.out (by kernel_rfl)) (fun _ _ _ h => h) (Or.inl ⟨by rfl, ?_⟩) ?_ ?_
            rotate_left
            ·intro w'
             go_simp
             with_reducible rfl
            rotate_left
            ·simp only [Act.put, List.setIfInBounds_toArray, List.set_cons_zero, List.set_cons_succ, i64_w, i32_w]
             rfl
            refine pure_ (i := 8) (N := some 30) (v := ?_) (a' := ?_) #[true, true, true, true, true, true, true, true, true, false, false] rfl rfl (any_of HT_.out (by kernel_rfl)) (fun _ _ _ h => h) (Or.inl ⟨by rfl, ?_⟩) ?_ ?_
            rotate_left
            ·intro w'
             go_simp
             with_reducible rfl
            rotate_left
            ·simp only [Act.put, List.setIfInBounds_toArray, List.set_cons_zero, List.set_cons_succ, i64_w, i32_w]
             rfl
            refine pure_ (i := 9) (N := some 5) (v := ?_) (a' := ?_) #[true, true, true, true, true, true, true, true, true, true, false] rfl rfl (any_of HT_.out (by kernel_rfl)) (fun _ _ _ h => h) (Or.inl ⟨by rfl, ?_⟩) ?_ ?_
            rotate_left
            ·intro w'
             go_simp
             with_reducible rfl
            rotate_left
            ·simp only [Act.put, List.setIfInBounds_toArray, List.set_cons_zero, List.set_cons_succ, i64_w, i32_w]
             rfl
            refine pure_ (i := 10) (N := some 6) (v := ?_) (a' := ?_) #[true, true, true, true, true, true, true, true, true, true, true] rfl rfl (any_of HT_.out (by kernel_rfl)) (fun _ _ _ h => h) (Or.inl ⟨by rfl, ?_⟩) ?_ ?_
            rotate_left
            ·intro w'
             go_simp
             with_reducible rfl
            rotate_left
            ·simp only [Act.put, List.setIfInBounds_toArray, List.set_cons_zero, List.set_cons_succ, i64_w, i32_w]
             rfl
            refine done_ (done_of HT_.out (by kernel_rfl)) ?_
            have hcz38 := blk_all BK121.out
            simp only [CellsAt, List.toList_toArray, Nat.reduceAdd, and_true] at hcz38
            have hfz38 := bF BK121.out
            try go_wp2_with (first | ((with_reducible refine gate_callee (f := 60) rfl ?_); refine goesL_ (some 33) rfl rfl Tryd.func60 (by kernel_rfl) rfl #[.agg #[.string ((rd_T54 l0 x13_1).f0), .int .i64 ((rd_T54 l0 x13_1).f1), .int .i64 ((rd_T54 l0 x13_1).f2), .int .i64 ((rd_T54 l0 x13_1).f3), .int .i64 ((rd_T54 l0 x13_1).f4), .slice A120_5 ((rd_T54 l0 x13_1).f5).length c120_5, .slice A120_6 ((rd_T54 l0 x13_1).f6).length c120_6]] rfl (by first | rfl | (simp only [List.map_toArray]; rfl)) ?_; (with_reducible refine (product_sized.calls k1 ((rd_T54 l0 x13_1).f0) ((rd_T54 l0 x13_1).f1) ((rd_T54 l0 x13_1).f2) ((rd_T54 l0 x13_1).f3) ((rd_T54 l0 x13_1).f4) _ _ ((rd_T54 l0 x13_1).f5) _ _ ((rd_T54 l0 x13_1).f6) true _ ?side1 ?side2 ?side3 ?side4 A18.out).mono ?_); (case side1 => repeat (first | exact (Kd.C_below HR120_5.out HB.out) | (with_reducible refine Kd.C_alloc ?_ _) | (with_reducible refine Kd.C_drewN ?_ _) | (with_reducible refine Kd.C_drew ?_))); (case side2 => exact HC120_5.out); (case side3 => repeat (first | exact (Kd.C_below HR120_6.out HB.out) | (with_reducible refine Kd.C_alloc ?_ _) | (with_reducible refine Kd.C_drewN ?_ _) | (with_reducible refine Kd.C_drew ?_))); (case side4 => exact HC120_6.out); rintro e w39 ⟨rfl, hb⟩; refine ⟨_, rfl, ?_⟩; have n0_ := q_ (bB (g := gb121) (by (with_reducible repeat (first | refine bN ?_ _ | refine bW ?_ | refine bA ?_ _)); exact BK121.out) hb); have n1_ := q_ (pT (by repeat (first | (with_reducible first | exact HB.out | apply pA | apply pN | apply p1 | refine pS ?_ GE121.out) | exact HB.out)) hb); clear BK121; clear HB; have BK121 := n0_; have HB := n1_; clear n0_ n1_; (try clear hb); (try clear hb2); (try clear hk); (try clear hi); have hcz40 := blk_all BK121.out; simp only [CellsAt, List.toList_toArray, Nat.reduceAdd, and_true] at hcz40; have hfz40 := bF BK121.out) | ((with_reducible refine gate_callee (f := 61) rfl ?_); refine goesL_ (some 36) rfl rfl Tryd.func61 (by kernel_rfl) rfl #[.agg #[.string ((rd_T54 l0 x13_1).f0), .int .i64 ((rd_T54 l0 x13_1).f1), .int .i64 ((rd_T54 l0 x13_1).f2), .int .i64 ((rd_T54 l0 x13_1).f3), .int .i64 ((rd_T54 l0 x13_1).f4), .slice A120_5 ((rd_T54 l0 x13_1).f5).length c120_5, .slice A120_6 ((rd_T54 l0 x13_1).f6).length c120_6]] rfl (by first | rfl | (simp only [List.map_toArray]; rfl)) ?_; (with_reducible refine (product_checkLengths.calls k1 ((rd_T54 l0 x13_1).f0) ((rd_T54 l0 x13_1).f1) ((rd_T54 l0 x13_1).f2) ((rd_T54 l0 x13_1).f3) ((rd_T54 l0 x13_1).f4) _ _ ((rd_T54 l0 x13_1).f5) _ _ ((rd_T54 l0 x13_1).f6) t130 _ ?side1 ?side2 ?side3 ?side4 A20.out).mono ?_); (case side1 => repeat (first | exact (Kd.C_below HR120_5.out HB.out) | (with_reducible refine Kd.C_alloc ?_ _) | (with_reducible refine Kd.C_drewN ?_ _) | (with_reducible refine Kd.C_drew ?_))); (case side2 => exact HC120_5.out); (case side3 => repeat (first | exact (Kd.C_below HR120_6.out HB.out) | (with_reducible refine Kd.C_alloc ?_ _) | (with_reducible refine Kd.C_drewN ?_ _) | (with_reducible refine Kd.C_drew ?_))); (case side4 => exact HC120_6.out); rintro e w41 ⟨rfl, hb⟩; refine ⟨_, rfl, ?_⟩; have n0_ := q_ (bB (g := gb121) (by (with_reducible repeat (first | refine bN ?_ _ | refine bW ?_ | refine bA ?_ _)); exact BK121.out) hb); have n1_ := q_ (pT (by repeat (first | (with_reducible first | exact HB.out | apply pA | apply pN | apply p1 | refine pS ?_ GE121.out) | exact HB.out)) hb); clear BK121; clear HB; have BK121 := n0_; have HB := n1_; clear n0_ n1_; (try clear hb); (try clear hb2); (try clear hk); (try clear hi)))
            go_ret
            exact ⟨by first | rfl | (simp [*] <;> rfl), by repeat (first | (with_reducible first | exact HB.out | apply pA | apply pN | apply p1 | refine pS ?_ GE121.out) | exact HB.out)⟩
          ·replace c19 := Bool.eq_false_iff.mpr c19
           subst c19
           have H1 : (some 9) = some r := by rw [if_neg (show ¬ (false = true) by decide)] at H; exact H
           clear H
           have H := H1
           clear H1
           obtain rfl := Option.some.inj H
           have p120 : 0 ≤ (x13_1 : Int) := of_decide_eq_true (by first | (with_reducible assumption) | assumption)
           have q120 : x13_1 < (l0.length : Int) := of_decide_eq_true (by first | (with_reducible assumption) | assumption)
           obtain ⟨ad120, A120_5, c120_5, A120_6, c120_6, e120, hx120_0, hx120_1, hx120_2, hx120_3, hx120_4, hx120_5, hx120_6, hl120_5, hi120_5, hl120_6, hi120_6⟩ := at_T54 HR0.out x13_1 p120 q120
           cases e120
           replace hx120_0 := (HB.out.cell (World.block_lt_of_cell? w _ hx120_0)).trans hx120_0
           replace hx120_1 := (HB.out.cell (World.block_lt_of_cell? w _ hx120_1)).trans hx120_1
           replace hx120_2 := (HB.out.cell (World.block_lt_of_cell? w _ hx120_2)).trans hx120_2
           replace hx120_3 := (HB.out.cell (World.block_lt_of_cell? w _ hx120_3)).trans hx120_3
           replace hx120_4 := (HB.out.cell (World.block_lt_of_cell? w _ hx120_4)).trans hx120_4
           replace hx120_5 := (HB.out.cell (World.block_lt_of_cell? w _ hx120_5)).trans hx120_5
           replace hx120_6 := (HB.out.cell (World.block_lt_of_cell? w _ hx120_6)).trans hx120_6
           have HR120_5 := Aside0.mk hi120_5
           have HC120_5 := Aside0.mk hl120_5
           clear hi120_5 hl120_5
           have HR120_6 := Aside0.mk hi120_6
           have HC120_6 := Aside0.mk hl120_6
           clear hi120_6 hl120_6
           replace p120 := eq_true p120
           replace q120 := eq_true q120
           try go_wp2_with (first | ((with_reducible refine gate_dst (N := 4) rfl ?_); refine box_event ?hg (N := 4) ?hd (cs := #[.string (⟨#[]⟩ : ByteArray), .int .i64 0, .int .i64 0, .int .i64 0, .int .i64 0, .slice none 0 0, .slice none 0 0]) (t := 54) ?hr ?_; (case hd => rfl); (case hg => rfl); (case hr => first | (go_simp; done) | (go_simp; rfl)); intro gb121 hg w42 hbox hb; have n0_ := q_ (pT (by repeat (first | (with_reducible first | exact HB.out | apply pA | apply pN | apply p1) | exact HB.out)) hb); have n1_ := q_ (hbox); have n2_ := q_ ((by rw [hg]; exact (pZ (by repeat (first | (with_reducible first | exact HB.out | apply pA | apply pN | apply p1) | exact HB.out))) : w.heap.size ≤ gb121)); have n3_ := n2_; clear HB; have HB := n0_; have BK121 := n1_; have GW121 := n2_; have GE121 := n3_; clear n0_ n1_ n2_ n3_; clear hb hbox hg; have hcz43 := blk_all BK121.out; simp only [CellsAt, List.toList_toArray, Nat.reduceAdd, and_true] at hcz43; have hfz43 := bF BK121.out) | ((with_reducible refine gate_callee (f := 29) rfl ?_); refine goesL_ (some 20) rfl rfl Tryd.func29 (by kernel_rfl) rfl #[.string ((rd_T54 l0 x13_1).f0)] rfl (by first | rfl | (simp only [List.map_toArray]; rfl)) ?_; (with_reducible refine (ident_IsName.calls k1 ((rd_T54 l0 x13_1).f0) true _ A6.out).mono ?_); rintro e w' ⟨rfl, ⟨nd, rfl⟩⟩; refine ⟨_, rfl, ?_⟩))
           have n0_ : Aside0 ((((((((w42.setCell ⟨gb121, 0, none⟩ (.string ((rd_T54 l0 x13_1).f0))).setCell ⟨gb121, 1, none⟩ (.int .i64 ((rd_T54 l0 x13_1).f1))).setCell ⟨gb121, 2, none⟩ (.int .i64 ((rd_T54 l0 x13_1).f2))).setCell ⟨gb121, 3, none⟩ (.int .i64 ((rd_T54 l0 x13_1).f3))).setCell ⟨gb121, 4, none⟩ (.int .i64 ((rd_T54 l0 x13_1).f4))).setCell ⟨gb121, 5, none⟩ (.slice A120_5 ((rd_T54 l0 x13_1).f5).length c120_5)).setCell ⟨gb121, 6, none⟩ (.slice A120_6 ((rd_T54 l0 x13_1).f6).length c120_6)).heap[gb121]? = some (.cells #[.string ((rd_T54 l0 x13_1).f0), .int .i64 ((rd_T54 l0 x13_1).f1), .int .i64 ((rd_T54 l0 x13_1).f2), .int .i64 ((rd_T54 l0 x13_1).f3), .int .i64 ((rd_T54 l0 x13_1).f4), .slice A120_5 ((rd_T54 l0 x13_1).f5).length c120_5, .slice A120_6 ((rd_T54 l0 x13_1).f6).length c120_6] 54 (0, 0))) := ⟨by (with_reducible repeat (first | refine bN ?_ _ | refine bW ?_ | refine bA ?_ _)); refine blk_put (cs := #[.string ((rd_T54 l0 x13_1).f0), .int .i64 ((rd_T54 l0 x13_1).f1), .int .i64 ((rd_T54 l0 x13_1).f2), .int .i64 ((rd_T54 l0 x13_1).f3), .int .i64 ((rd_T54 l0 x13_1).f4), .slice A120_5 ((rd_T54 l0 x13_1).f5).length c120_5, .slice none 0 0]) ?_ 6 _ rfl; (with_reducible repeat (first | refine bN ?_ _ | refine bW ?_ | refine bA ?_ _)); refine blk_put (cs := #[.string ((rd_T54 l0 x13_1).f0), .int .i64 ((rd_T54 l0 x13_1).f1), .int .i64 ((rd_T54 l0 x13_1).f2), .int .i64 ((rd_T54 l0 x13_1).f3), .int .i64 ((rd_T54 l0 x13_1).f4), .slice none 0 0, .slice none 0 0]) ?_ 5 _ rfl; (with_reducible repeat (first | refine bN ?_ _ | refine bW ?_ | refine bA ?_ _)); refine blk_put (cs := #[.string ((rd_T54 l0 x13_1).f0), .int .i64 ((rd_T54 l0 x13_1).f1), .int .i64 ((rd_T54 l0 x13_1).f2), .int .i64 ((rd_T54 l0 x13_1).f3), .int .i64 0, .slice none 0 0, .slice none 0 0]) ?_ 4 _ rfl; (with_reducible repeat (first | refine bN ?_ _ | refine bW ?_ | refine bA ?_ _)); refine blk_put (cs := #[.string ((rd_T54 l0 x13_1).f0), .int .i64 ((rd_T54 l0 x13_1).f1), .int .i64 ((rd_T54 l0 x13_1).f2), .int .i64 0, .int .i64 0, .slice none 0 0, .slice none 0 0]) ?_ 3 _ rfl; (with_reducible repeat (first | refine bN ?_ _ | refine bW ?_ | refine bA ?_ _)); refine blk_put (cs := #[.string ((rd_T54 l0 x13_1).f0), .int .i64 ((rd_T54 l0 x13_1).f1), .int .i64 0, .int .i64 0, .int .i64 0, .slice none 0 0, .slice none 0 0]) ?_ 2 _ rfl; (with_reducible repeat (first | refine bN ?_ _ | refine bW ?_ | refine bA ?_ _)); refine blk_put (cs := #[.string ((rd_T54 l0 x13_1).f0), .int .i64 0, .int .i64 0, .int .i64 0, .int .i64 0, .slice none 0 0, .slice none 0 0]) ?_ 1 _ rfl; (with_reducible repeat (first | refine bN ?_ _ | refine bW ?_ | refine bA ?_ _)); refine blk_put (cs := #[.string (⟨#[]⟩ : ByteArray), .int .i64 0, .int .i64 0, .int .i64 0, .int .i64 0, .slice none 0 0, .slice none 0 0]) ?_ 0 _ rfl; (with_reducible repeat (first | refine bN ?_ _ | refine bW ?_ | refine bA ?_ _)); exact BK121.out⟩
           have n1_ : Aside0 (Below w.heap.size w (((((((w42.setCell ⟨gb121, 0, none⟩ (.string ((rd_T54 l0 x13_1).f0))).setCell ⟨gb121, 1, none⟩ (.int .i64 ((rd_T54 l0 x13_1).f1))).setCell ⟨gb121, 2, none⟩ (.int .i64 ((rd_T54 l0 x13_1).f2))).setCell ⟨gb121, 3, none⟩ (.int .i64 ((rd_T54 l0 x13_1).f3))).setCell ⟨gb121, 4, none⟩ (.int .i64 ((rd_T54 l0 x13_1).f4))).setCell ⟨gb121, 5, none⟩ (.slice A120_5 ((rd_T54 l0 x13_1).f5).length c120_5)).setCell ⟨gb121, 6, none⟩ (.slice A120_6 ((rd_T54 l0 x13_1).f6).length c120_6))) := ⟨by repeat (first | (with_reducible first | exact HB.out | apply pA | apply pN | apply p1 | refine pS ?_ GE121.out) | exact HB.out)⟩
           (try clear BK121)
           (try clear HB)
           generalize (((((((w42.setCell ⟨gb121, 0, none⟩ (.string ((rd_T54 l0 x13_1).f0))).setCell ⟨gb121, 1, none⟩ (.int .i64 ((rd_T54 l0 x13_1).f1))).setCell ⟨gb121, 2, none⟩ (.int .i64 ((rd_T54 l0 x13_1).f2))).setCell ⟨gb121, 3, none⟩ (.int .i64 ((rd_T54 l0 x13_1).f3))).setCell ⟨gb121, 4, none⟩ (.int .i64 ((rd_T54 l0 x13_1).f4))).setCell ⟨gb121, 5, none⟩ (.slice A120_5 ((rd_T54 l0 x13_1).f5).length c120_5)).setCell ⟨gb121, 6, none⟩ (.slice A120_6 ((rd_T54 l0 x13_1).f6).length c120_6)) = w44 at n0_ n1_ ⊢
           have BK121 := n0_
           have HB := n1_
           clear n0_ n1_
           (try (rw [drewN_self w44]; generalize hq_ : World.drewN w44 _ = w44; have n0_ : Aside0 (w44.heap[gb121]? = some (.cells #[.string ((rd_T54 l0 x13_1).f0), .int .i64 ((rd_T54 l0 x13_1).f1), .int .i64 ((rd_T54 l0 x13_1).f2), .int .i64 ((rd_T54 l0 x13_1).f3), .int .i64 ((rd_T54 l0 x13_1).f4), .slice A120_5 ((rd_T54 l0 x13_1).f5).length c120_5, .slice A120_6 ((rd_T54 l0 x13_1).f6).length c120_6] 54 (0, 0))) := ⟨by rw [← hq_]; exact (by (with_reducible repeat (first | refine bN ?_ _ | refine bW ?_ | refine bA ?_ _)); exact BK121.out)⟩; have n1_ : Aside0 (Below w.heap.size w w44) := ⟨by rw [← hq_]; exact (by repeat (first | (with_reducible first | exact HB.out | apply pA | apply pN | apply p1 | refine pS ?_ GE121.out) | exact HB.out))⟩; clear BK121 HB hq_; have BK121 := n0_; have HB := n1_; clear n0_ n1_))
           have n0_ := q_ (bW BK121.out)
           have n1_ := q_ (p1 HB.out)
           clear BK121
           clear HB
           have BK121 := n0_
           have HB := n1_
           clear n0_ n1_
           have q46 : (x13_1 : Int) ≤ ((l0.length : Int) : Int) := of_decide_eq_true (by first | (with_reducible assumption) | assumption)
           obtain ⟨i046, hi046, _, hsz46, _⟩ := info_parts info54
           have hroom46 : l0.length ≤ c0 := HC0.out
           have hC46 : Kd.C k54 _ (some ad120) l0.length l0 := HR0.out
           have hcut46 := cut_to (P := Tryd.prog) 24 54 .i64 Tryd.underlying24 hi046 (some ad120) l0.length c0 x13_1 (of_decide_eq_true (by first | (with_reducible assumption) | assumption)) q46 hroom46
           have hr46 := Kd.C_take (m := (x13_1 : Int).toNat) hC46 (by omega)
           have hy46 : y123.length = (x13_1 : Int).toNat := (by rw [Ny123.out, List.length_take]; omega)
           rw [← Ny123.out] at hr46
           rw [← hy46] at hcut46
           have HR126 := Aside0.mk hr46
           have HC126 := q_ (show y123.length ≤ c0 from by omega)
           clear hr46 hC46 hroom46 hi046 hsz46
           have KY46 := Aside0.mk hy46
           clear hy46
           replace q46 := eq_true q46
           refine start_ (n := 11) (S := fun w' => w'.cell? ⟨gb121, 0, none⟩ = some (.string ((rd_T54 l0 x13_1).f0)) ∧ w'.cell? ⟨gb121, 1, none⟩ = some (.int .i64 ((rd_T54 l0 x13_1).f1)) ∧ w'.cell? ⟨gb121, 2, none⟩ = some (.int .i64 ((rd_T54 l0 x13_1).f2)) ∧ w'.cell? ⟨gb121, 3, none⟩ = some (.int .i64 ((rd_T54 l0 x13_1).f3)) ∧ w'.cell? ⟨gb121, 4, none⟩ = some (.int .i64 ((rd_T54 l0 x13_1).f4)) ∧ w'.cell? ⟨gb121, 5, none⟩ = some (.slice A120_5 ((rd_T54 l0 x13_1).f5).length c120_5) ∧ w'.cell? ⟨gb121, 6, none⟩ = some (.slice A120_6 ((rd_T54 l0 x13_1).f6).length c120_6)) (ds := []) #[false, false, false, false, false, false, false, false, false, false, false] (by kernel_rfl) rfl rfl ⟨(bC BK121.out 0).trans rfl, (bC BK121.out 1).trans rfl, (bC BK121.out 2).trans rfl, (bC BK121.out 3).trans rfl, (bC BK121.out 4).trans rfl, (bC BK121.out 5).trans rfl, (bC BK121.out 6).trans rfl⟩ (fun hHeld => ?_); refine with_tabW product_Check.tab8 product_Check.bits8 (fun HT_ HW_ => ?_)
           generalize w44.drew = w45 at BK121 HB HR126 hHeld ⊢
           refine pure_ (i := 0) (N := some 23) (v := ?_) (a' := ?_) #[true, false, false, false, false, false, false, false, false, false, false] rfl rfl (any_of HT_.out (by kernel_rfl)) (fun _ _ _ h => h) (Or.inl ⟨by rfl, ?_⟩) ?_ ?_
           rotate_left
           ·intro w'
            go_simp
            with_reducible rfl
           rotate_left
           ·simp only [Act.put, List.setIfInBounds_toArray, List.set_cons_zero, List.set_cons_succ, i64_w, i32_w]
            rfl
           refine pure_ (i := 1) (N := some 24) (v := ?_) (a' := ?_) #[true, true, false, false, false, false, false, false, false, false, false] rfl rfl (any_of HT_.out (by kernel_rfl)) (fun _ _ _ h => h) (Or.inl ⟨by rfl, ?_⟩) ?_ ?_
           rotate_left
           ·intro w'
            go_simp
            with_reducible rfl
           rotate_left
           ·simp only [Act.put, List.setIfInBounds_toArray, List.set_cons_zero, List.set_cons_succ, i64_w, i32_w]
            rfl
           refine pure_ (i := 2) (N := some 25) (v := ?_) (a' := ?_) #[true, true, true, false, false, false, false, false, false, false, false] rfl rfl (any_of HT_.out (by kernel_rfl)) (fun _ _ _ h => h) (Or.inl ⟨by rfl, ?_⟩) ?_ ?_
           rotate_left
           ·intro w'
            go_simp
            with_reducible rfl
           rotate_left
           ·simp only [Act.put, List.setIfInBounds_toArray, List.set_cons_zero, List.set_cons_succ, i64_w, i32_w]
            rfl
           refine pure_ (i := 3) (N := some 26) (v := ?_) (a' := ?_) #[true, true, true, true, false, false, false, false, false, false, false] rfl rfl (any_of HT_.out (by kernel_rfl)) (fun _ _ _ h => h) (Or.inl ⟨by rfl, ?_⟩) ?_ ?_
           rotate_left
           ·intro w'
            go_simp
            with_reducible rfl
           rotate_left
           ·simp only [Act.put, List.setIfInBounds_toArray, List.set_cons_zero, List.set_cons_succ, i64_w, i32_w]
            rfl
           refine take_ (i := 4) (N := some 27) (v := ?_) (a' := ?_) #[true, true, true, true, true, false, false, false, false, false, false] rfl rfl (take_ofW HT_.out HW_.out (by kernel_rfl)) (fun _ _ _ h => h) (Or.inl ⟨by rfl, ?_⟩) hHeld ?_ ?_
           rotate_left
           ·rintro w' ⟨s0, s1, s2, s3, s4, s5, s6⟩
            go_simp
            with_reducible rfl
           rotate_left
           ·simp only [Act.put, List.setIfInBounds_toArray, List.set_cons_zero, List.set_cons_succ, i64_w, i32_w]
            rfl
           refine one_ (i := 5) (N := some 28) #[true, true, true, true, true, true, false, false, false, false, false] rfl rfl (one_of HT_.out (by kernel_rfl)) (by decide) (fun K hK => ?_)
           refine goes_ Tryd.func59 (by kernel_rfl) rfl #[.slice (some ad120) y123.length c0, .string ((rd_T54 l0 x13_1).f0)] (by rfl) rfl rfl (by first | rfl | (simp only [List.map_toArray]; rfl)) ?_
           with_reducible refine (product_Find.calls k1 _ _ y123 ((rd_T54 l0 x13_1).f0) t127 false _ ?side1 ?side2 A10.out).mono ?_
           (case side1 => repeat (first | exact (Kd.C_below HR126.out HB.out) | (with_reducible refine Kd.C_alloc ?_ _) | (with_reducible refine Kd.C_drewN ?_ _) | (with_reducible refine Kd.C_drew ?_)))
           (case side2 => exact HC126.out)
           rintro e w47 ⟨rfl, hb⟩
           refine ⟨_, rfl, ?_⟩
           have n0_ := q_ (bB (g := gb121) (by (with_reducible repeat (first | refine bN ?_ _ | refine bW ?_ | refine bA ?_ _)); exact BK121.out) hb)
           have n1_ := q_ (pT (by repeat (first | (with_reducible first | exact HB.out | apply pA | apply pN | apply p1 | refine pS ?_ GE121.out) | exact HB.out)) hb)
           clear BK121
           clear HB
           have BK121 := n0_
           have HB := n1_
           clear n0_ n1_
           (try clear hb)
           (try clear hb2)
           (try clear hk)
           (try clear hi)
           refine hK.out _ _ ⟨(bC BK121.out 0).trans rfl, (bC BK121.out 1).trans rfl, (bC BK121.out 2).trans rfl, (bC BK121.out 3).trans rfl, (bC BK121.out 4).trans rfl, (bC BK121.out 5).trans rfl, (bC BK121.out 6).trans rfl⟩ (fun hHeld => ?_)
           clear hK K
           refine norm_ (a' := ?_) ?_ ?_
           rotate_left
           ·show Act.put _ (some 28) _ = _
            simp only [Act.put, List.setIfInBounds_toArray, List.set_cons_zero, List.set_cons_succ, i64_w, i32_w]
            rfl
           refine pure_ (i := 6) (N := some 22) (v := ?_) (a' := ?_) #[true, true, true, true, true, true, true, false, false, false, false] rfl rfl (any_of HT_.out (by kernel_rfl)) (fun _ _ _ h => h) (Or.inl ⟨by rfl, ?_⟩) ?_ ?_
           rotate_left
           ·intro w'
            go_simp
            with_reducible rfl
           rotate_left
           ·simp only [Act.put, List.setIfInBounds_toArray, List.set_cons_zero, List.set_cons_succ, i64_w, i32_w]
            rfl
           refine pure_ (i := 7) (N := some 29) (v := ?_) (a' := ?_) #[true, true, true, true, true, true, true, true, false, false, false] rfl rfl (any_of HT_.out (by kernel_rfl)) (fun _ _ _ h => h) (Or.inl ⟨by rfl, ?_⟩) ?_ ?_
           rotate_left
           ·intro w'
            go_simp
            with_reducible rfl
           rotate_left
           ·simp only [Act.put, List.setIfInBounds_toArray, List.set_cons_zero, List.set_cons_succ, i64_w, i32_w]
            rfl
           refine pure_ (i := 8) (N := some 30) (v := ?_) (a' := ?_) #[true, true, true, true, true, true, true, true, true, false, false] rfl rfl (any_of HT_.out (by kernel_rfl)) (fun _ _ _ h => h) (Or.inl ⟨by rfl, ?_⟩) ?_ ?_
           rotate_left
           ·intro w'
            go_simp
            with_reducible rfl
           rotate_left
           ·simp only [Act.put, List.setIfInBounds_toArray, List.set_cons_zero, List.set_cons_succ, i64_w, i32_w]
            rfl
           refine pure_ (i := 9) (N := some 5) (v := ?_) (a' := ?_) #[true, true, true, true, true, true, true, true, true, true, false] rfl rfl (any_of HT_.out (by kernel_rfl)) (fun _ _ _ h => h) (Or.inl ⟨by rfl, ?_⟩) ?_ ?_
           rotate_left
           ·intro w'
            go_simp
            with_reducible rfl
           rotate_left
           ·simp only [Act.put, List.setIfInBounds_toArray, List.set_cons_zero, List.set_cons_succ, i64_w, i32_w]
            rfl
           refine pure_ (i := 10) (N := some 6) (v := ?_) (a' := ?_) #[true, true, true, true, true, true, true, true, true, true, true] rfl rfl (any_of HT_.out (by kernel_rfl)) (fun _ _ _ h => h) (Or.inl ⟨by rfl, ?_⟩) ?_ ?_
           rotate_left
           ·intro w'
            go_simp
            with_reducible rfl
           rotate_left
           ·simp only [Act.put, List.setIfInBounds_toArray, List.set_cons_zero, List.set_cons_succ, i64_w, i32_w]
            rfl
           refine done_ (done_of HT_.out (by kernel_rfl)) ?_
           have hcz48 := blk_all BK121.out
           simp only [CellsAt, List.toList_toArray, Nat.reduceAdd, and_true] at hcz48
           have hfz48 := bF BK121.out
           try go_wp2_with (first | ((with_reducible refine gate_callee (f := 60) rfl ?_); refine goesL_ (some 33) rfl rfl Tryd.func60 (by kernel_rfl) rfl #[.agg #[.string ((rd_T54 l0 x13_1).f0), .int .i64 ((rd_T54 l0 x13_1).f1), .int .i64 ((rd_T54 l0 x13_1).f2), .int .i64 ((rd_T54 l0 x13_1).f3), .int .i64 ((rd_T54 l0 x13_1).f4), .slice A120_5 ((rd_T54 l0 x13_1).f5).length c120_5, .slice A120_6 ((rd_T54 l0 x13_1).f6).length c120_6]] rfl (by first | rfl | (simp only [List.map_toArray]; rfl)) ?_; (with_reducible refine (product_sized.calls k1 ((rd_T54 l0 x13_1).f0) ((rd_T54 l0 x13_1).f1) ((rd_T54 l0 x13_1).f2) ((rd_T54 l0 x13_1).f3) ((rd_T54 l0 x13_1).f4) _ _ ((rd_T54 l0 x13_1).f5) _ _ ((rd_T54 l0 x13_1).f6) false _ ?side1 ?side2 ?side3 ?side4 A18.out).mono ?_); (case side1 => repeat (first | exact (Kd.C_below HR120_5.out HB.out) | (with_reducible refine Kd.C_alloc ?_ _) | (with_reducible refine Kd.C_drewN ?_ _) | (with_reducible refine Kd.C_drew ?_))); (case side2 => exact HC120_5.out); (case side3 => repeat (first | exact (Kd.C_below HR120_6.out HB.out) | (with_reducible refine Kd.C_alloc ?_ _) | (with_reducible refine Kd.C_drewN ?_ _) | (with_reducible refine Kd.C_drew ?_))); (case side4 => exact HC120_6.out); rintro e w49 ⟨rfl, hb⟩; refine ⟨_, rfl, ?_⟩; have n0_ := q_ (bB (g := gb121) (by (with_reducible repeat (first | refine bN ?_ _ | refine bW ?_ | refine bA ?_ _)); exact BK121.out) hb); have n1_ := q_ (pT (by repeat (first | (with_reducible first | exact HB.out | apply pA | apply pN | apply p1 | refine pS ?_ GE121.out) | exact HB.out)) hb); clear BK121; clear HB; have BK121 := n0_; have HB := n1_; clear n0_ n1_; (try clear hb); (try clear hb2); (try clear hk); (try clear hi)))
           go_ret
           exact ⟨by first | rfl | (simp [*] <;> rfl), by repeat (first | (with_reducible first | exact HB.out | apply pA | apply pN | apply p1 | refine pS ?_ GE121.out) | exact HB.out)⟩
        ·rw [if_neg c9] at H
         exact absurd H (by simp)
       ·replace c7 := Bool.eq_false_iff.mpr c7
        subst c7
        have H1 : (some 6) = some r := by rw [if_neg (show ¬ (false = true) by decide)] at H; exact H
        clear H
        have H := H1
        clear H1
        obtain rfl := Option.some.inj H
        have p120 : 0 ≤ (x13_1 : Int) := of_decide_eq_true (by first | (with_reducible assumption) | assumption)
        have q120 : x13_1 < (l0.length : Int) := of_decide_eq_true (by first | (with_reducible assumption) | assumption)
        obtain ⟨ad120, A120_5, c120_5, A120_6, c120_6, e120, hx120_0, hx120_1, hx120_2, hx120_3, hx120_4, hx120_5, hx120_6, hl120_5, hi120_5, hl120_6, hi120_6⟩ := at_T54 HR0.out x13_1 p120 q120
        cases e120
        replace hx120_0 := (HB.out.cell (World.block_lt_of_cell? w _ hx120_0)).trans hx120_0
        replace hx120_1 := (HB.out.cell (World.block_lt_of_cell? w _ hx120_1)).trans hx120_1
        replace hx120_2 := (HB.out.cell (World.block_lt_of_cell? w _ hx120_2)).trans hx120_2
        replace hx120_3 := (HB.out.cell (World.block_lt_of_cell? w _ hx120_3)).trans hx120_3
        replace hx120_4 := (HB.out.cell (World.block_lt_of_cell? w _ hx120_4)).trans hx120_4
        replace hx120_5 := (HB.out.cell (World.block_lt_of_cell? w _ hx120_5)).trans hx120_5
        replace hx120_6 := (HB.out.cell (World.block_lt_of_cell? w _ hx120_6)).trans hx120_6
        have HR120_5 := Aside0.mk hi120_5
        have HC120_5 := Aside0.mk hl120_5
        clear hi120_5 hl120_5
        have HR120_6 := Aside0.mk hi120_6
        have HC120_6 := Aside0.mk hl120_6
        clear hi120_6 hl120_6
        replace p120 := eq_true p120
        replace q120 := eq_true q120
        go_wp2_with (first | ((with_reducible refine gate_dst (N := 4) rfl ?_); refine box_event ?hg (N := 4) ?hd (cs := #[.string (⟨#[]⟩ : ByteArray), .int .i64 0, .int .i64 0, .int .i64 0, .int .i64 0, .slice none 0 0, .slice none 0 0]) (t := 54) ?hr ?_; (case hd => rfl); (case hg => rfl); (case hr => first | (go_simp; done) | (go_simp; rfl)); intro gb121 hg w50 hbox hb; have n0_ := q_ (pT (by repeat (first | (with_reducible first | exact HB.out | apply pA | apply pN | apply p1) | exact HB.out)) hb); have n1_ := q_ (hbox); have n2_ := q_ ((by rw [hg]; exact (pZ (by repeat (first | (with_reducible first | exact HB.out | apply pA | apply pN | apply p1) | exact HB.out))) : w.heap.size ≤ gb121)); have n3_ := n2_; clear HB; have HB := n0_; have BK121 := n1_; have GW121 := n2_; have GE121 := n3_; clear n0_ n1_ n2_ n3_; clear hb hbox hg; have hcz51 := blk_all BK121.out; simp only [CellsAt, List.toList_toArray, Nat.reduceAdd, and_true] at hcz51; have hfz51 := bF BK121.out) | ((with_reducible refine gate_callee (f := 29) rfl ?_); refine goesL_ (some 20) rfl rfl Tryd.func29 (by kernel_rfl) rfl #[.string ((rd_T54 l0 x13_1).f0)] rfl (by first | rfl | (simp only [List.map_toArray]; rfl)) ?_; (with_reducible refine (ident_IsName.calls k1 ((rd_T54 l0 x13_1).f0) false _ A6.out).mono ?_); rintro e w' ⟨rfl, ⟨nd, rfl⟩⟩; refine ⟨_, rfl, ?_⟩))
        go_ret
        exact ⟨by first | rfl | (simp [*] <;> rfl), by repeat (first | (with_reducible first | exact HB.out | apply pA | apply pN | apply p1 | refine pS ?_ GE121.out) | exact HB.out)⟩
      ·rw [if_neg c5] at H
       exact absurd H (by simp)
     ·rw [if_neg c4] at H
      exact absurd H (by simp)
    ·rw [if_neg c3] at H
     have c3b0 : decide (x13_1 < (l0.length : Int)) = false := decide_eq_false c3
     clear c3
     obtain rfl := Option.some.inj H
     go_wp2
     go_ret
     exact ⟨by first | rfl | (simp [*] <;> rfl), by repeat (first | (with_reducible first | exact HB.out | apply pA | apply pN | apply p1) | exact HB.out)⟩
end Go.Proofs.YtblmgmhjlbkncaaDoor.PA
