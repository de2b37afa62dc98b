/- Each Go function that the law reaches as a Lean function, and that its call comes to that function's answer. -/
import Derived.Test.YtblmgmhjlbkncaaDoorVOrderCounts
import Derived.Test.YtblmgmhjlbkncaaDoorProg
import Derived.Test.YtblmgmhjlbkncaaDoorShelf
import Derived.Below
import Derived.Deep.Draws
import Derived.Deep.AppendLies
import Derived.Maps.AppendAt
import Derived.OwnWalk
import Derived.Laws.BytesArg
import Derived.Laws.MakeOwn
import Derived.Laws.OwnMore
import Derived.Deep.OwnRows
import Derived.Tactics
import Derived.Lib.ConvBytes
import Derived.Laws.Slices
import Derived.WalkKit
import Derived.KernelRfl
import Derived.RowKit3
import Derived.Deep.LoopGhost
import Derived.Deep.QuietTactic
import Derived.BigQuiet
import Derived.WideLaws
import Derived.Deep.DeepCutAuto
import Derived.Deep.CutBlock
import Derived.Deep.RegionHeld3
import Derived.Laws.Rows
import Derived.Lib.AppendStr
import Derived.ArgAppend
import Derived.Laws.IdiomCopy
import Derived.OrdersHeld
import Derived.Laws.BitsLemmas
import Derived.RowKit
import Derived.LoopN
import Derived.Laws.EntriesVeiled
import Derived.LaidSub
import Derived.MakeChecks
import Derived.Lib.LaidTab
import Derived.Maps.OwnOps
import Derived.Maps.Views
import Derived.Maps.Keyed
import Derived.Shelf.SlicesQ.Load
import Derived.Laws.Tables
namespace Go.Proofs.YtblmgmhjlbkncaaDoor.PA
open Go.RowKit Go.Proofs.YtblmgmhjlbkncaaDoorW.PrintWords Go.Proofs.YtblmgmhjlbkncaaDoorW.PrintLast Go.Proofs.YtblmgmhjlbkncaaDoorW.PrintMore
attribute [local go_sem] max2_int min2_int max_two min_two max_three min_three max_four min_four
set_option linter.unusedVariables false
set_option linter.unusedSimpArgs false
def errW : Option Int → Value
 | none => .nilIface
 | some c => .iface 0 (.int .i64 c)
theorem errW_none : errW none = .nilIface := rfl
theorem errW_some (c : Int) : errW (some c) = .iface 0 (.int .i64 c) := rfl
theorem info3 : (Tryd.prog.info? 3).map (fun i => (i.zero, i.size, i.bytes)) = some (some (.int .i64 0), 1, 8) := by kernel_rfl
theorem info5 : (Tryd.prog.info? 5).map (fun i => (i.zero, i.size, i.bytes)) = some (some (.int .u8 0), 1, 1) := by kernel_rfl
theorem info54 : (Tryd.prog.info? 54).map (fun i => (i.zero, i.size, i.bytes)) = some (some (.agg #[(.string ⟨#[]⟩), (.int .i64 0), (.int .i64 0), (.int .i64 0), (.int .i64 0), (.slice none 0 0), (.slice none 0 0)]), 7, 96) := by kernel_rfl
structure S54 where
 f0 : ByteArray
 f1 : Int
 f2 : Int
 f3 : Int
 f4 : Int
 f5 : (List Int)
 f6 : (List Int)
def z54 : S54 := ⟨(⟨#[]⟩ : ByteArray), (0 : Int), (0 : Int), (0 : Int), (0 : Int), ([] : List Int), ([] : List Int)⟩
def k54 : Kd S54 := Kd.iso (Kd.pair Kd.string (Kd.pair (Kd.int .i64) (Kd.pair (Kd.int .i64) (Kd.pair (Kd.int .i64) (Kd.pair (Kd.int .i64) (Kd.pair (Kd.slice 3 (Kd.int .i64)) (Kd.slice 3 (Kd.int .i64)))))))) (fun x : S54 => (x.f0, x.f1, x.f2, x.f3, x.f4, x.f5, x.f6))
theorem k54_open {w : World} {x : S54} {cs : List Value} (h : k54.K w x cs) : ∃ A5 c5 A6 c6, cs = [.string x.f0, .int .i64 x.f1, .int .i64 x.f2, .int .i64 x.f3, .int .i64 x.f4, .slice A5 x.f5.length c5, .slice A6 x.f6.length c6] ∧ x.f5.length ≤ c5 ∧ (Kd.int .i64).C w A5 x.f5.length x.f5 ∧ x.f6.length ≤ c6 ∧ (Kd.int .i64).C w A6 x.f6.length x.f6 := by
 obtain ⟨_, _, rfl, rfl, ⟨_, _, rfl, rfl, ⟨_, _, rfl, rfl, ⟨_, _, rfl, rfl, ⟨_, _, rfl, rfl, ⟨_, _, rfl, ⟨A5, c5, rfl, l5, g5⟩, ⟨A6, c6, rfl, l6, g6⟩⟩⟩⟩⟩⟩⟩ := h
 exact ⟨A5, c5, A6, c6, rfl, l5, g5, l6, g6⟩
def rd_T54 (xs : List S54) (i : Int) : S54 := xs.getD i.toNat z54
theorem at_T54 {w : World} {A : Option Addr} {n : Nat} {xs : List S54} (h : Kd.C k54 w A n xs) (i : Int) (h0 : 0 ≤ i) (h1 : i < n) : ∃ ad A5 c5 A6 c6, A = some ad ∧ w.cell? (ad.add (i.toNat * 7)) = some (.string (rd_T54 xs i).f0) ∧ w.cell? ⟨(ad.add (i.toNat * 7)).block, (ad.add (i.toNat * 7)).off + 1, none⟩ = some (.int .i64 (rd_T54 xs i).f1) ∧ w.cell? ⟨(ad.add (i.toNat * 7)).block, (ad.add (i.toNat * 7)).off + 2, none⟩ = some (.int .i64 (rd_T54 xs i).f2) ∧ w.cell? ⟨(ad.add (i.toNat * 7)).block, (ad.add (i.toNat * 7)).off + 3, none⟩ = some (.int .i64 (rd_T54 xs i).f3) ∧ w.cell? ⟨(ad.add (i.toNat * 7)).block, (ad.add (i.toNat * 7)).off + 4, none⟩ = some (.int .i64 (rd_T54 xs i).f4) ∧ w.cell? ⟨(ad.add (i.toNat * 7)).block, (ad.add (i.toNat * 7)).off + 5, none⟩ = some (.slice A5 (rd_T54 xs i).f5.length c5) ∧ w.cell? ⟨(ad.add (i.toNat * 7)).block, (ad.add (i.toNat * 7)).off + 6, none⟩ = some (.slice A6 (rd_T54 xs i).f6.length c6) ∧ (rd_T54 xs i).f5.length ≤ c5 ∧ (Kd.int .i64).C w A5 (rd_T54 xs i).f5.length (rd_T54 xs i).f5 ∧ (rd_T54 xs i).f6.length ≤ c6 ∧ (Kd.int .i64).C w A6 (rd_T54 xs i).f6.length (rd_T54 xs i).f6 := by
 obtain ⟨ad, c, e, _, hK, hc0⟩ := Kd.C_get h z54 i h0 h1
 have hc : ∀ j u, c[j]? = some u → w.cell? (ad.add (i.toNat * 7 + j)) = some u := hc0
 obtain ⟨A5, c5, A6, c6, rfl, l5, g5, l6, g6⟩ := k54_open hK
 exact ⟨ad, A5, c5, A6, c6, e, hc 0 _ rfl, by rw [← add_field _ _ 1 (by omega)]; exact hc 1 _ rfl, by rw [← add_field _ _ 2 (by omega)]; exact hc 2 _ rfl, by rw [← add_field _ _ 3 (by omega)]; exact hc 3 _ rfl, by rw [← add_field _ _ 4 (by omega)]; exact hc 4 _ rfl, by rw [← add_field _ _ 5 (by omega)]; exact hc 5 _ rfl, by rw [← add_field _ _ 6 (by omega)]; exact hc 6 _ rfl, l5, g5, l6, g6⟩
structure S31 where
 f0 : Int
 f1 : Int
def k31 : Kd S31 := Kd.iso (Kd.pair (Kd.int .i64) (Kd.int .i64)) (fun x : S31 => (x.f0, x.f1))
theorem k31_open {w : World} {x : S31} {cs : List Value} (h : k31.K w x cs) : cs = [.int .i64 x.f0, .int .i64 x.f1] := by
 obtain ⟨_, _, rfl, rfl, rfl⟩ := h
 exact rfl
theorem k31_mkM (w : World) (base : Nat) (ok : Nat → Prop) (x : S31)  : k31.M w base ok x [.int .i64 x.f0, .int .i64 x.f1] := ⟨[.int .i64 x.f0], [.int .i64 x.f1], rfl, rfl, rfl⟩
structure S33 where
 f0 : S31
 f1 : S31
 f2 : S31
def k33 : Kd S33 := Kd.iso (Kd.pair k31 (Kd.pair k31 k31)) (fun x : S33 => (x.f0, x.f1, x.f2))
theorem k33_open {w : World} {x : S33} {cs : List Value} (h : k33.K w x cs) : cs = [.int .i64 x.f0.f0, .int .i64 x.f0.f1, .int .i64 x.f1.f0, .int .i64 x.f1.f1, .int .i64 x.f2.f0, .int .i64 x.f2.f1] := by
 obtain ⟨_, _, rfl, s0, ⟨_, _, rfl, s2, s4⟩⟩ := h
 obtain rfl := k31_open s0
 obtain rfl := k31_open s2
 obtain rfl := k31_open s4
 exact rfl
theorem k33_mkM (w : World) (base : Nat) (ok : Nat → Prop) (x : S33)  : k33.M w base ok x [.int .i64 x.f0.f0, .int .i64 x.f0.f1, .int .i64 x.f1.f0, .int .i64 x.f1.f1, .int .i64 x.f2.f0, .int .i64 x.f2.f1] := ⟨[.int .i64 x.f0.f0, .int .i64 x.f0.f1], [.int .i64 x.f1.f0, .int .i64 x.f1.f1, .int .i64 x.f2.f0, .int .i64 x.f2.f1], rfl, (k31_mkM w base ok x.f0 ), ⟨[.int .i64 x.f1.f0, .int .i64 x.f1.f1], [.int .i64 x.f2.f0, .int .i64 x.f2.f1], rfl, (k31_mkM w base ok x.f1 ), (k31_mkM w base ok x.f2 )⟩⟩
structure S176 where
 f0 : Int
 f1 : S33
def k176 : Kd S176 := Kd.iso (Kd.pair (Kd.int .i64) k33) (fun x : S176 => (x.f0, x.f1))
structure S23 where
 f0 : ByteArray
 f1 : ByteArray
 f2 : Int
 f3 : Int
 f4 : Int
 f5 : Int
 f6 : Int
 f7 : Int
 f8 : Int
 f9 : Int
 f10 : Int
def k23 : Kd S23 := Kd.iso (Kd.pair Kd.string (Kd.pair Kd.string (Kd.pair (Kd.int .i64) (Kd.pair (Kd.int .i64) (Kd.pair (Kd.int .i64) (Kd.pair (Kd.int .i64) (Kd.pair (Kd.int .i64) (Kd.pair (Kd.int .i64) (Kd.pair (Kd.int .i64) (Kd.pair (Kd.int .i64) (Kd.int .i64))))))))))) (fun x : S23 => (x.f0, x.f1, x.f2, x.f3, x.f4, x.f5, x.f6, x.f7, x.f8, x.f9, x.f10))
theorem k23_open {w : World} {x : S23} {cs : List Value} (h : k23.K w x cs) : cs = [.string x.f0, .string x.f1, .int .i64 x.f2, .int .i64 x.f3, .int .i64 x.f4, .int .i64 x.f5, .int .i64 x.f6, .int .i64 x.f7, .int .i64 x.f8, .int .i64 x.f9, .int .i64 x.f10] := by
 obtain ⟨_, _, rfl, rfl, ⟨_, _, rfl, rfl, ⟨_, _, rfl, rfl, ⟨_, _, rfl, rfl, ⟨_, _, rfl, rfl, ⟨_, _, rfl, rfl, ⟨_, _, rfl, rfl, ⟨_, _, rfl, rfl, ⟨_, _, rfl, rfl, ⟨_, _, rfl, rfl, rfl⟩⟩⟩⟩⟩⟩⟩⟩⟩⟩ := h
 exact rfl
structure S36 where
 f0 : Int
 f1 : Int
 f2 : Int
def k36 : Kd S36 := Kd.iso (Kd.pair (Kd.int .i64) (Kd.pair (Kd.int .i64) (Kd.int .i64))) (fun x : S36 => (x.f0, x.f1, x.f2))
theorem k36_open {w : World} {x : S36} {cs : List Value} (h : k36.K w x cs) : cs = [.int .i64 x.f0, .int .i64 x.f1, .int .i64 x.f2] := by
 obtain ⟨_, _, rfl, rfl, ⟨_, _, rfl, rfl, rfl⟩⟩ := h
 exact rfl
theorem k36_mkM (w : World) (base : Nat) (ok : Nat → Prop) (x : S36)  : k36.M w base ok x [.int .i64 x.f0, .int .i64 x.f1, .int .i64 x.f2] := ⟨[.int .i64 x.f0], [.int .i64 x.f1, .int .i64 x.f2], rfl, rfl, ⟨[.int .i64 x.f1], [.int .i64 x.f2], rfl, rfl, rfl⟩⟩
structure S38 where
 f0 : ByteArray
 f1 : ByteArray
 f2 : ByteArray
 f3 : Int
 f4 : S33
 f5 : Int
 f6 : (List S176)
 f7 : Int
 f8 : S36
 f9 : Bool
 f10 : Int
def k38 : Kd S38 := Kd.iso (Kd.pair Kd.string (Kd.pair Kd.string (Kd.pair Kd.string (Kd.pair (Kd.int .i64) (Kd.pair k33 (Kd.pair (Kd.int .i64) (Kd.pair (Kd.slice 176 k176) (Kd.pair (Kd.int .i64) (Kd.pair k36 (Kd.pair Kd.bool (Kd.int .i64))))))))))) (fun x : S38 => (x.f0, x.f1, x.f2, x.f3, x.f4, x.f5, x.f6, x.f7, x.f8, x.f9, x.f10))
theorem k38_open {w : World} {x : S38} {cs : List Value} (h : k38.K w x cs) : ∃ A11 c11, cs = [.string x.f0, .string x.f1, .string x.f2, .int .i64 x.f3, .int .i64 x.f4.f0.f0, .int .i64 x.f4.f0.f1, .int .i64 x.f4.f1.f0, .int .i64 x.f4.f1.f1, .int .i64 x.f4.f2.f0, .int .i64 x.f4.f2.f1, .int .i64 x.f5, .slice A11 x.f6.length c11, .int .i64 x.f7, .int .i64 x.f8.f0, .int .i64 x.f8.f1, .int .i64 x.f8.f2, .bool x.f9, .int .i64 x.f10] ∧ x.f6.length ≤ c11 ∧ k176.C w A11 x.f6.length x.f6 := by
 obtain ⟨_, _, rfl, rfl, ⟨_, _, rfl, rfl, ⟨_, _, rfl, rfl, ⟨_, _, rfl, rfl, ⟨_, _, rfl, s4, ⟨_, _, rfl, rfl, ⟨_, _, rfl, ⟨A11, c11, rfl, l11, g11⟩, ⟨_, _, rfl, rfl, ⟨_, _, rfl, s13, ⟨_, _, rfl, rfl, rfl⟩⟩⟩⟩⟩⟩⟩⟩⟩⟩ := h
 obtain rfl := k33_open s4
 obtain rfl := k36_open s13
 exact ⟨A11, c11, rfl, l11, g11⟩
theorem k38_mkM (w : World) (base : Nat) (ok : Nat → Prop) (x : S38) {v11 : Value} (g11 : k176.R 176 w base ok v11 x.f6) : k38.M w base ok x [.string x.f0, .string x.f1, .string x.f2, .int .i64 x.f3, .int .i64 x.f4.f0.f0, .int .i64 x.f4.f0.f1, .int .i64 x.f4.f1.f0, .int .i64 x.f4.f1.f1, .int .i64 x.f4.f2.f0, .int .i64 x.f4.f2.f1, .int .i64 x.f5, v11, .int .i64 x.f7, .int .i64 x.f8.f0, .int .i64 x.f8.f1, .int .i64 x.f8.f2, .bool x.f9, .int .i64 x.f10] := ⟨[.string x.f0], [.string x.f1, .string x.f2, .int .i64 x.f3, .int .i64 x.f4.f0.f0, .int .i64 x.f4.f0.f1, .int .i64 x.f4.f1.f0, .int .i64 x.f4.f1.f1, .int .i64 x.f4.f2.f0, .int .i64 x.f4.f2.f1, .int .i64 x.f5, v11, .int .i64 x.f7, .int .i64 x.f8.f0, .int .i64 x.f8.f1, .int .i64 x.f8.f2, .bool x.f9, .int .i64 x.f10], rfl, rfl, ⟨[.string x.f1], [.string x.f2, .int .i64 x.f3, .int .i64 x.f4.f0.f0, .int .i64 x.f4.f0.f1, .int .i64 x.f4.f1.f0, .int .i64 x.f4.f1.f1, .int .i64 x.f4.f2.f0, .int .i64 x.f4.f2.f1, .int .i64 x.f5, v11, .int .i64 x.f7, .int .i64 x.f8.f0, .int .i64 x.f8.f1, .int .i64 x.f8.f2, .bool x.f9, .int .i64 x.f10], rfl, rfl, ⟨[.string x.f2], [.int .i64 x.f3, .int .i64 x.f4.f0.f0, .int .i64 x.f4.f0.f1, .int .i64 x.f4.f1.f0, .int .i64 x.f4.f1.f1, .int .i64 x.f4.f2.f0, .int .i64 x.f4.f2.f1, .int .i64 x.f5, v11, .int .i64 x.f7, .int .i64 x.f8.f0, .int .i64 x.f8.f1, .int .i64 x.f8.f2, .bool x.f9, .int .i64 x.f10], rfl, rfl, ⟨[.int .i64 x.f3], [.int .i64 x.f4.f0.f0, .int .i64 x.f4.f0.f1, .int .i64 x.f4.f1.f0, .int .i64 x.f4.f1.f1, .int .i64 x.f4.f2.f0, .int .i64 x.f4.f2.f1, .int .i64 x.f5, v11, .int .i64 x.f7, .int .i64 x.f8.f0, .int .i64 x.f8.f1, .int .i64 x.f8.f2, .bool x.f9, .int .i64 x.f10], rfl, rfl, ⟨[.int .i64 x.f4.f0.f0, .int .i64 x.f4.f0.f1, .int .i64 x.f4.f1.f0, .int .i64 x.f4.f1.f1, .int .i64 x.f4.f2.f0, .int .i64 x.f4.f2.f1], [.int .i64 x.f5, v11, .int .i64 x.f7, .int .i64 x.f8.f0, .int .i64 x.f8.f1, .int .i64 x.f8.f2, .bool x.f9, .int .i64 x.f10], rfl, (k33_mkM w base ok x.f4 ), ⟨[.int .i64 x.f5], [v11, .int .i64 x.f7, .int .i64 x.f8.f0, .int .i64 x.f8.f1, .int .i64 x.f8.f2, .bool x.f9, .int .i64 x.f10], rfl, rfl, ⟨[v11], [.int .i64 x.f7, .int .i64 x.f8.f0, .int .i64 x.f8.f1, .int .i64 x.f8.f2, .bool x.f9, .int .i64 x.f10], rfl, ⟨v11, rfl, g11⟩, ⟨[.int .i64 x.f7], [.int .i64 x.f8.f0, .int .i64 x.f8.f1, .int .i64 x.f8.f2, .bool x.f9, .int .i64 x.f10], rfl, rfl, ⟨[.int .i64 x.f8.f0, .int .i64 x.f8.f1, .int .i64 x.f8.f2], [.bool x.f9, .int .i64 x.f10], rfl, (k36_mkM w base ok x.f8 ), ⟨[.bool x.f9], [.int .i64 x.f10], rfl, rfl, rfl⟩⟩⟩⟩⟩⟩⟩⟩⟩⟩
def CellsAt (w : World) (g : Nat) : Nat → List Value → Prop
 | _, [] => True
 | i, c :: cs => w.cell? ⟨g, i, none⟩ = some c ∧ CellsAt w g (i + 1) cs
theorem CellsAt.get {w : World} {g : Nat} : ∀ {cs : List Value} {i : Nat}, CellsAt w g i cs → ∀ j v, cs[j]? = some v → w.cell? ⟨g, i + j, none⟩ = some v
 | [], _, _, j, v, hv => by simp at hv
 | c :: cs, i, h, 0, v, hv => by
  simp only [List.getElem?_cons_zero, Option.some.injEq] at hv
  subst hv
  exact h.1
 | c :: cs, i, h, j + 1, v, hv => by
  have := CellsAt.get h.2 j v (by simpa using hv)
  rw [show i + (j + 1) = i + 1 + j by omega]
  exact this
theorem exec_load_cells {P : Program} {ρ : Operand → Value} {o : Oper} {w : World} (ty : TypeId) (x : Operand) (ho : o.op = .load ty x) (g : Nat) (hx : ρ x = .pointer (some ⟨g, 0, none⟩)) (cs : Array Value) (d : TypeDesc) (hc : CellsAt w g 0 cs.toList)
  (hu : P.underlying ty = some d) (hd : (match d with | .struct _ | .array _ _ => true | _ => false) = true) (hi : (P.info? ty).map (·.size) = some cs.size) : Sem.run P (execOp ρ o) w = .ok (Next.value (.agg cs)) w := by
 have hl : (loadCells ⟨g, 0, none⟩ cs.toList.length).run P w = .ok cs.toList.toArray w :=
  run_loadCells_list (P := P) w ⟨g, 0, none⟩ cs.toList (fun j v hv => by
   have hadd : (⟨g, 0, none⟩ : Addr).add j = ⟨g, 0 + j, none⟩ := by unfold Addr.add; split <;> simp_all
   rw [hadd]
   exact hc.get j v hv)
 have key : (loadVar ty ⟨g, 0, none⟩).run P w = .ok (.agg cs) w := by
  cases hq : P.info? ty with
  | none => simp [hq] at hi
  | some i =>
   have hs : i.size = cs.size := by simpa [hq] using hi
   have hagg : (isAgg ty).run P w = .ok true w := by
    unfold isAgg
    rw [Sem.run_bind, run_underlying hu w]
    cases d <;> simp_all
   simp only [Array.length_toList, Array.toArray_toList] at hl
   simp [loadVar, Sem.run_bind, hagg, sizeOf, typeInfo, hq, hs, hl]
 unfold execOp
 simp only [ho, hx, Instr.loadAt, Instr.sureAddr, Sem.run_bind, Sem.run_pure, Result.andThen_ok, key]
theorem cells_of_blk {w : World} {g : Nat} {t : TypeId} {cs : Array Value} (h : w.heap[g]? = some (.cells cs t (0, 0))) : ∀ (j : Nat) (v : Value), cs.toList[j]? = some v → w.cell? ((⟨g, 0, none⟩ : Addr).add j) = some v := fun j v hv => by
 have hadd : (⟨g, 0, none⟩ : Addr).add j = ⟨g, j, none⟩ := by unfold Addr.add; split <;> simp_all
 rw [hadd, bC h j]
 simpa using hv
theorem wpList_load_cells {P : Program} {ops : Array Oper} {rest : List Oper} {o : Oper} {a : Act} {w : World} {Q : Exit → Act → World → Prop} (hw : Region.wanted o (yielded ops a.tmps) = true) (ty : TypeId) (x : Operand) (ho : o.op = .load ty x)
  (ad : Addr) (hx : a.eval x = .pointer (some ad)) (cs : Array Value) (d : TypeDesc) (hc : ∀ (j : Nat) (v : Value), cs.toList[j]? = some v → w.cell? (ad.add j) = some v)
  (hu : P.underlying ty = some d) (hd : (match d with | .struct _ | .array _ _ => true | _ => false) = true) (hi : (P.info? ty).map (·.size) = some cs.size)
  (h : wpList P ops Q rest (a.put o.dst (.agg cs)) w) : wpList P ops Q (o :: rest) a w := by
 have hl : (loadCells ad cs.toList.length).run P w = .ok cs.toList.toArray w := run_loadCells_list (P := P) w ad cs.toList hc
 have key : (loadVar ty ad).run P w = .ok (.agg cs) w := by
  cases hq : P.info? ty with
  | none => simp [hq] at hi
  | some i =>
   have hs : i.size = cs.size := by simpa [hq] using hi
   have hagg : (isAgg ty).run P w = .ok true w := by
    unfold isAgg
    rw [Sem.run_bind, run_underlying hu w]
    cases d <;> simp_all
   simp only [Array.length_toList, Array.toArray_toList] at hl
   simp [loadVar, Sem.run_bind, hagg, sizeOf, typeInfo, hq, hs, hl]
 unfold wpList
 rw [if_pos hw]
 refine Or.inl ?_
 unfold Oper.wp execOp
 simp only [ho, hx, Instr.loadAt, Instr.sureAddr, Sem.run_bind, Sem.run_pure, Result.andThen_ok, key]
 exact h
theorem exec_store_row {P : Program} {ρ : Operand → Value} {o : Oper} {w : World} (ty : TypeId) (x v : Operand) (ho : o.op = .store ty x v) (g : Nat) (hx : ρ x = .pointer (some ⟨g, 0, none⟩)) (cs : Array Value) (hv : ρ v = .agg cs)
  {cur : Array Value} {t : TypeId} (hg : w.heap[g]? = some (.cells cur t (0, 0))) (hsz : cs.size = cur.size) (h1 : cs.toList.all Value.oneCell' = true)
  (hi : (P.info? ty).map (·.size) = some cs.size) : Sem.run P (execOp ρ o) w = .ok Next.skip (w.setRow g cs) := by
 have hst := run_storeCells_from (P := P) g t cs.toList 0 cur w hg (by simpa using hsz) (fun u hu => List.all_eq_true.mp h1 u hu)
 have key : (storeVar ty ⟨g, 0, none⟩ (.agg cs)).run P w = .ok () (w.setRow g cs) := by
  cases hq : P.info? ty with
  | none => simp [hq] at hi
  | some i =>
   have hs : i.size = cs.size := by simpa [hq] using hi
   simp only [List.take_zero, List.nil_append, Array.toArray_toList] at hst
   simp [storeVar, Sem.run_bind, sizeOf, typeInfo, hq, hs, Value.cells, hst]
 unfold execOp
 simp only [ho, hx, hv, Instr.storeAt, Instr.sureAddr, Sem.run_bind, Sem.run_pure, Result.andThen_ok, key]
theorem grown_setRow (w : World) (g : Nat) (cs : Array Value) : w.grownBy (w.setRow g cs) (some g) :=
 ⟨rfl, rfl, rfl, by simp, fun k _ hne => setRow_other w g k cs (fun e => hne (by rw [e]))⟩
theorem wpList_store_row {P : Program} {ops : Array Oper} {rest : List Oper} {o : Oper} {a : Act} {w : World} {Q : Exit → Act → World → Prop} (hgd : o.guard = none) (ty : TypeId) (x v : Operand) (ho : o.op = .store ty x v) (g : Nat) (hx : a.eval x = .pointer (some ⟨g, 0, none⟩))
  (cs : Array Value) (hv : a.eval v = .agg cs) {cur : Array Value} {t : TypeId} (hg : w.heap[g]? = some (.cells cur t (0, 0))) (hsz : cs.size = cur.size) (h1 : cs.toList.all Value.oneCell' = true) (hi : (P.info? ty).map (·.size) = some cs.size)
  (h : ∀ w1, w1.heap[g]? = some (.cells cs t (0, 0)) → w.grownBy w1 (some g) → wpList P ops Q rest (a.put o.dst undef) w1) : wpList P ops Q (o :: rest) a w := by
 refine wpList_plain hgd fun K hK => ?_
 unfold Oper.wp
 rw [exec_store_row ty x v ho g hx cs hv hg hsz h1 hi]
 exact hK _ _ (h _ (setRow_heap w g cur cs t _ hg) (grown_setRow w g cs))
theorem step_store_row {P : Program} {ops : Array Oper} {o : Oper} {a : Act} {w : World} {K : Act → World → Prop} {Q : Exit → Act → World → Prop} (hw : Region.wanted o (yielded ops a.tmps) = true) (ty : TypeId) (x v : Operand) (ho : o.op = .store ty x v) (hd : o.dst = none) (g : Nat) (hx : a.eval x = .pointer (some ⟨g, 0, none⟩))
  (cs : Array Value) (hv : a.eval v = .agg cs) {cur : Array Value} {t : TypeId} (hg : w.heap[g]? = some (.cells cur t (0, 0))) (hsz : cs.size = cur.size) (h1 : cs.toList.all Value.oneCell' = true) (hi : (P.info? ty).map (·.size) = some cs.size)
  (h : ∀ w1, w1.heap[g]? = some (.cells cs t (0, 0)) → w.grownBy w1 (some g) → K (a.put none undef) w1) : if Region.wanted o (yielded ops a.tmps) = true then Oper.wp P o a w K Q else K (a.put none undef) w := by
 rw [if_pos hw]
 unfold Oper.wp
 rw [exec_store_row ty x v ho g hx cs hv hg hsz h1 hi]
 rw [← hd] at h
 exact h _ (setRow_heap w g cur cs t _ hg) (grown_setRow w g cs)
theorem step_append_grows {α : Type} (d : Kd α) {P : Program} {ops : Array Oper} {o : Oper} {a : Act} {W : World} {K : Act → World → Prop} {Q : Exit → Act → World → Prop} (hw : Region.wanted o (yielded ops a.tmps) = true) (s x : Operand) (t e : TypeId) (N : Option Tmp) (hN : o.dst = N)
  (hop : o.op = Op.call { callee := Callee.builtin Builtin.append, args := #[s, x], argTypes := #[t, t] }) (i : TypeInfo) (z : Value) (bytes : Nat) (ht : P.underlying t = some (.slice e)) (hi : P.info? e = some i) (hzz : i.zero = some z) (hsz : i.size = d.sz) (hby : i.bytes = bytes) (hzs : z.cells.size = d.sz) (hs0 : 0 < d.sz)
  (b b2 : Addr) (n cap m c : Nat) (xs ys : List α) (hs : a.eval s = .slice (some b) n cap) (hx : a.eval x = .slice (some b2) m c) (hC1 : d.C W (some b) n xs) (hC2 : d.C W (some b2) m ys)
  (hg : cap < n + m) (h63 : n + m ≤ maxLen) (hbytes : (n + m) * bytes ≤ 140737488355328)
  (r : Nat) (hr : n + m = r) (h : ∀ W' A c', d.C W' A r (xs ++ ys) → r ≤ c' → Below W.heap.size W W' → K (a.put N (.slice A r c')) W') :
  if Region.wanted o (yielded ops a.tmps) = true then Oper.wp P o a W K Q else K (a.put N undef) W := by
 subst hr
 rw [if_pos hw]
 have e1 := Kd.C_len hC1
 have e2 := Kd.C_len hC2
 obtain ⟨olds, hr1, hc1⟩ := ReadsRow.inner_ hC1
 obtain ⟨news, hr2, hc2⟩ := ReadsRow.inner_ hC2
 have hlo : olds.length = n * d.sz := by rw [hr1.1, e1]
 have hln : news.length = m * d.sz := by rw [hr2.1, e2]
 obtain ⟨v', W', hrun, hown, hgr⟩ := run_append_arg_grows (P := P) W t o.type e i z d.sz bytes ht hi hzz hsz hby hzs hs0 b n cap olds hlo hc1 b2 m c news hln hc2 hg h63 hbytes
 have hb : Below W.heap.size W W' := ⟨hgr.os, hgr.tape, hgr.output, hgr.size, fun k hk => hgr.block k hk (by simp)⟩
 have hrr : Reps (d.K W') d.sz (xs ++ ys) (olds ++ news) := Reps.imp_ (Kd.reps_append hr1 hr2) (fun p c hp => d.K_below hb hp)
 obtain ⟨A, c', hv, hread⟩ := own_reads_row hown hrr (by rw [List.length_append, e1, e2])
 have hcc : n + m ≤ c' := by
  rcases hown.2 with ⟨hn, h0⟩ | ⟨g, cp, cur, hn, _, _, hle, _⟩
  ·rw [hv] at hn
   injection hn with _ h1 h2
   omega
  ·rw [hv] at hn
   injection hn with _ h1 h2
   omega
 unfold Oper.wp
 rw [hv] at hrun
 simp [execOp, hop, resolve, invoke, builtin, hs, hx, hrun, Result.andThen]
 subst hN
 exact h W' A c' hread hcc hb
theorem exec_load_blk {P : Program} {ρ : Operand → Value} {o : Oper} {w : World} (ty : TypeId) (x : Operand) (ho : o.op = .load ty x) (g : Nat) (hx : ρ x = .pointer (some ⟨g, 0, none⟩)) {cs : Array Value} {t : TypeId} (hg : w.heap[g]? = some (.cells cs t (0, 0))) {d : TypeDesc}
  (hu : P.underlying ty = some d) (hd : (match d with | .struct _ | .array _ _ => true | _ => false) = true) (hi : (P.info? ty).map (·.size) = some cs.size) : Sem.run P (execOp ρ o) w = .ok (Next.value (.agg cs)) w := by
 have hl : (loadCells ⟨g, 0, none⟩ cs.toList.length).run P w = .ok cs.toList.toArray w := run_loadCells_list (P := P) w ⟨g, 0, none⟩ cs.toList (cells_of_blk hg)
 have key : (loadVar ty ⟨g, 0, none⟩).run P w = .ok (.agg cs) w := by
  cases hq : P.info? ty with
  | none => simp [hq] at hi
  | some i =>
   have hs : i.size = cs.size := by simpa [hq] using hi
   have hagg : (isAgg ty).run P w = .ok true w := by
    unfold isAgg
    rw [Sem.run_bind, run_underlying hu w]
    cases d <;> simp_all
   simp only [Array.length_toList, Array.toArray_toList] at hl
   simp [loadVar, Sem.run_bind, hagg, sizeOf, typeInfo, hq, hs, hl]
 unfold execOp
 simp only [ho, hx, Instr.loadAt, Instr.sureAddr, Sem.run_bind, Sem.run_pure, Result.andThen_ok, key]
theorem run_loadVar_blk {P : Program} {w : World} (ty : TypeId) (g : Nat) {cs : Array Value} {t : TypeId} (hg : w.heap[g]? = some (.cells cs t (0, 0))) {d : TypeDesc}
  (hu : P.underlying ty = some d) (hd : (match d with | .struct _ | .array _ _ => true | _ => false) = true) (hi : (P.info? ty).map (·.size) = some cs.size) : (loadVar ty ⟨g, 0, none⟩).run P w = .ok (.agg cs) w := by
 have hl : (loadCells ⟨g, 0, none⟩ cs.toList.length).run P w = .ok cs.toList.toArray w := run_loadCells_list (P := P) w ⟨g, 0, none⟩ cs.toList (cells_of_blk hg)
 cases hq : P.info? ty with
 | none => simp [hq] at hi
 | some i =>
  have hs : i.size = cs.size := by simpa [hq] using hi
  have hagg : (isAgg ty).run P w = .ok true w := by
   unfold isAgg
   rw [Sem.run_bind, run_underlying hu w]
   cases d <;> simp_all
  simp only [Array.length_toList, Array.toArray_toList] at hl
  simp [loadVar, Sem.run_bind, hagg, sizeOf, typeInfo, hq, hs, hl]
theorem results_cells2 {fn : Func} {t u : Tmp} {ty1 ty2 : TypeId} (h : fn.results = #[.cell t ty1, .cell u ty2]) (tmps : Array Value) (P : Program) (w : World) (g1 g2 : Nat) (h1 : tmps.getD t undef = .pointer (some ⟨g1, 0, none⟩)) (h2 : tmps.getD u undef = .pointer (some ⟨g2, 0, none⟩)) {v1 v2 : Value}
  (b1 : (loadVar ty1 ⟨g1, 0, none⟩).run P w = .ok v1 w) (b2 : (loadVar ty2 ⟨g2, 0, none⟩).run P w = .ok v2 w) : (results fn tmps).run P w = .ok (.tuple #[v1, v2]) w := by
 rw [Array.getD_eq_getD_getElem?] at h1 h2
 simp [results, h, h1, h2, asAddr, b1, b2]
theorem exec_load_at {P : Program} {ρ : Operand → Value} {o : Oper} {w : World} (ty : TypeId) (x : Operand) (ho : o.op = .load ty x) (ad : Addr) (hx : ρ x = .pointer (some ad)) (cs : Array Value) (hc : ∀ (j : Nat) (v : Value), cs.toList[j]? = some v → w.cell? (ad.add j) = some v) {d : TypeDesc}
  (hu : P.underlying ty = some d) (hd : (match d with | .struct _ | .array _ _ => true | _ => false) = true) (hi : (P.info? ty).map (·.size) = some cs.size) : Sem.run P (execOp ρ o) w = .ok (Next.value (.agg cs)) w := by
 have hl : (loadCells ad cs.toList.length).run P w = .ok cs.toList.toArray w := run_loadCells_list (P := P) w ad cs.toList hc
 have key : (loadVar ty ad).run P w = .ok (.agg cs) w := by
  cases hq : P.info? ty with
  | none => simp [hq] at hi
  | some i =>
   have hs : i.size = cs.size := by simpa [hq] using hi
   have hagg : (isAgg ty).run P w = .ok true w := by
    unfold isAgg
    rw [Sem.run_bind, run_underlying hu w]
    cases d <;> simp_all
   simp only [Array.length_toList, Array.toArray_toList] at hl
   simp [loadVar, Sem.run_bind, hagg, sizeOf, typeInfo, hq, hs, hl]
 unfold execOp
 simp only [ho, hx, Instr.loadAt, Instr.sureAddr, Sem.run_bind, Sem.run_pure, Result.andThen_ok, key]
theorem step_lit {P : Program} {ops : Array Oper} {o : Oper} {a : Act} {W : World} {K : Act → World → Prop} {Q : Exit → Act → World → Prop} (hw : Region.wanted o (yielded ops a.tmps) = true) (N : Option Tmp) (hd : o.dst = N) (n : Nat) (cs : Array Value) (e : TypeId)
  (hrun : (execOp a.eval o).run P W = .ok (.value (.slice (some ⟨W.heap.size, 0, none⟩) n n)) (W.alloc (.cells cs e (0, 0))))
  (h : ∀ g, g = W.heap.size → ∀ w1, w1.heap[g]? = some (.cells cs e (0, 0)) → Below W.heap.size W w1 → K (a.put N (.slice (some ⟨g, 0, none⟩) n n)) w1) : if Region.wanted o (yielded ops a.tmps) = true then Oper.wp P o a W K Q else K (a.put N undef) W := by
 rw [if_pos hw]
 subst hd
 unfold Oper.wp
 rw [hrun]
 exact h _ rfl _ (blk_new W _) (pA (Below.refl _ _) _)
theorem C_of_blk1 {α : Type} (d : Kd α) {x : α} {w : World} {g : Nat} {t : TypeId} {cs : Array Value} (hb : w.heap[g]? = some (.cells cs t (0, 0))) (hK : d.K w x cs.toList) : Kd.C d w (some ⟨g, 0, none⟩) 1 [x] := by
 refine ⟨rfl, by decide, fun _ => ⟨_, rfl, fun j p hj => ?_⟩⟩
 cases j with
 | succ j => simp at hj
 | zero =>
  obtain rfl : x = p := by simpa using hj
  refine ⟨cs.toList, d.K_len hK, hK, fun i u hu => ?_⟩
  rw [Nat.zero_mul, Nat.zero_add]
  exact cells_of_blk hb i u hu
theorem wpList_store_cell {P : Program} {ops : Array Oper} {rest : List Oper} {o : Oper} {a : Act} {w : World} {Q : Exit → Act → World → Prop} (hgd : o.guard = none) (ty : TypeId) (x v : Operand) (ho : o.op = .store ty x v) (g i : Nat) (hx : a.eval x = .pointer (some ⟨g, i, none⟩))
  (u : Value) (hv : a.eval v = u) (hu : u.cells = #[u]) (h1 : u.oneCell' = true) {cur : Array Value} {t : TypeId} (hg : w.heap[g]? = some (.cells cur t (0, 0))) (hlt : i < cur.size) (cs : Array Value) (hcs : (cur.toList.take (i + 0) ++ [u] ++ cur.toList.drop (i + 0 + 1)).toArray = cs) (hi : (P.info? ty).map (·.size) = some 1)
  (h : ∀ w1, w1.heap[g]? = some (.cells cs t (0, 0)) → w.grownBy w1 (some g) → wpList P ops Q rest (a.put o.dst undef) w1) : wpList P ops Q (o :: rest) a w := by
 have hst := run_storeCells_at (P := P) g i t [u] 0 cur w hg (by simp only [List.length_singleton]; omega) (by simpa using h1)
 have key : (storeVar ty ⟨g, i, none⟩ u).run P w = .ok () (w.setRow g cs) := by
  cases hq : P.info? ty with
  | none => simp [hq] at hi
  | some j =>
   have hs : j.size = 1 := by simpa [hq] using hi
   rw [← hcs]
   simp only [List.length_singleton] at hst
   simp [storeVar, Sem.run_bind, sizeOf, typeInfo, hq, hs, hu, hst]
 have hrun : Sem.run P (execOp a.eval o) w = .ok Next.skip (w.setRow g cs) := by
  unfold execOp
  simp only [ho, hx, hv, Instr.storeAt, Instr.sureAddr, Sem.run_bind, Sem.run_pure, Result.andThen_ok, key]
 refine wpList_plain hgd fun K hK => ?_
 unfold Oper.wp
 rw [hrun]
 exact hK _ _ (h _ (setRow_heap w g cur cs t _ hg) (grown_setRow w g cs))
def ElemAt (w : World) (a : Addr) : Nat → List Value → Prop
 | _, [] => True
 | i, c :: cs => w.cell? ⟨a.block, a.off + i, none⟩ = some c ∧ ElemAt w a (i + 1) cs
theorem ElemAt.get {w : World} {a : Addr} : ∀ {cs : List Value} {i : Nat}, ElemAt w a i cs → ∀ j v, cs[j]? = some v → w.cell? ⟨a.block, a.off + (i + j), none⟩ = some v
 | [], _, _, j, v, hv => by simp at hv
 | c :: cs, i, h, 0, v, hv => by
  simp only [List.getElem?_cons_zero, Option.some.injEq] at hv
  subst hv
  exact h.1
 | c :: cs, i, h, j + 1, v, hv => by
  have := ElemAt.get h.2 j v (by simpa using hv)
  rw [show i + (j + 1) = i + 1 + j by omega]
  exact this
theorem blk_all {w : World} {g : Nat} {t : TypeId} {cs : Array Value} (h : w.heap[g]? = some (.cells cs t (0, 0))) : CellsAt w g 0 cs.toList := by
 have key : ∀ (l : List Value) (i : Nat), (∀ j v, l[j]? = some v → w.cell? ⟨g, i + j, none⟩ = some v) → CellsAt w g i l := by
  intro l
  induction l with
  | nil => intro i _; exact trivial
  | cons c l ih =>
   intro i hi
   exact ⟨by simpa using hi 0 c rfl, ih (i + 1) (fun j v hj => by rw [show i + 1 + j = i + (j + 1) by omega]; exact hi (j + 1) v (by simpa using hj))⟩
 refine key cs.toList 0 (fun j v hj => ?_)
 rw [Nat.zero_add, bC h j]
 simpa using hj
end Go.Proofs.YtblmgmhjlbkncaaDoor.PA
namespace Go.Proofs.YtblmgmhjlbkncaaDoor.PA
open Go.RowKit Go.Proofs.YtblmgmhjlbkncaaDoorW.PrintWords Go.Proofs.YtblmgmhjlbkncaaDoorW.PrintLast Go.Proofs.YtblmgmhjlbkncaaDoorW.PrintMore
attribute [local go_sem] max2_int min2_int max_two min_two max_three min_three max_four min_four
set_option linter.unusedVariables false
set_option linter.unusedSimpArgs false
def ident_digit.f (a0 : Int) : Option (Bool) := if 48 ≤ a0 then (some (decide (a0 ≤ 57))) else (some false)
set_option maxHeartbeats 8000000 in
set_option maxRecDepth 100000 in
theorem ident_digit.calls (a0 : Int) (r : Bool) (w : World) (h : ident_digit.f a0 = some r) :
  Calls Tryd.prog 63 #[.int .u8 a0] w fun e w' => e = .returned (.bool r) ∧ Drawn0 w w' := by
 have H : (if 48 ≤ a0 then (some (decide (a0 ≤ 57))) else (some false)) = some r := h
 clear h
 by_cases c2 : 48 ≤ a0
 ·rw [if_pos c2] at H
  have c2b0 : decide (48 ≤ a0) = true := decide_eq_true c2
  clear c2
  obtain rfl := Option.some.inj H
  go_enter Tryd.func63, Tryd.ntmps63
  go_wp2
  go_ret
  exact ⟨by first | rfl | (simp; done) | (simp [*]; done), by repeat (first | exact Drawn0.refl _ | apply Drawn0.step)⟩
 ·rw [if_neg c2] at H
  have c2b0 : decide (48 ≤ a0) = false := decide_eq_false c2
  clear c2
  obtain rfl := Option.some.inj H
  go_enter Tryd.func63, Tryd.ntmps63
  go_wp2
  go_ret
  exact ⟨by first | rfl | (simp; done) | (simp [*]; done), by repeat (first | exact Drawn0.refl _ | apply Drawn0.step)⟩
mutual
def ident_IsName.j0 : Nat → ByteArray → Bool → Option (Bool)
 | 0, _, _ => none
 | k + 1, x0, x21 => if x21 = true then (some false) else (ident_IsName.l0 k x0 (x0.size : Int) 0)
def ident_IsName.l0 : Nat → ByteArray → Int → Int → Option (Bool)
 | 0, _, _, _ => none
 | k + 1, x0, x23, x24 => if x24 < x23 then (if 0 ≤ x24 then (if x24 < (x0.size : Int) then ((ident_digit.f (bt x0 x24)).bind fun t105 => (if t105 = true then (ident_IsName.l0 k x0 x23 (wrap64 (x24 + 1))) else (if (bt x0 x24) = 95 then (ident_IsName.l0 k x0 x23 (wrap64 (x24 + 1))) else (if (bt x0 x24) < 97 then (some false) else (if (bt x0 x24) > 122 then (some false) else (ident_IsName.l0 k x0 x23 (wrap64 (x24 + 1)))))))) else (none)) else (none)) else (some true)
end
def ident_IsName.f (k : Nat) (a0 : ByteArray) : Option (Bool) := if a0.toList = ([] : List UInt8) then (ident_IsName.j0 k a0 true) else (if (a0.size : Int) > 16 then (ident_IsName.j0 k a0 true) else (if 0 < (a0.size : Int) then ((ident_digit.f (bt a0 0)).bind fun t104 => (if t104 = true then (ident_IsName.j0 k a0 true) else (ident_IsName.j0 k a0 ((bt a0 0) == 95)))) else (none)))
set_option maxHeartbeats 8000000 in
set_option maxRecDepth 100000 in
theorem ident_IsName.calls (k : Nat) (a0 : ByteArray) (r : Bool) (w : World) (h : ident_IsName.f k a0 = some r) :
  Calls Tryd.prog 29 #[.string a0] w fun e w' => e = .returned (.bool r) ∧ Drawn0 w w' := by
 have H : (if a0.toList = ([] : List UInt8) then (ident_IsName.j0 k a0 true) else (if (a0.size : Int) > 16 then (ident_IsName.j0 k a0 true) else (if 0 < (a0.size : Int) then ((ident_digit.f (bt a0 0)).bind fun t104 => (if t104 = true then (ident_IsName.j0 k a0 true) else (ident_IsName.j0 k a0 ((bt a0 0) == 95)))) else (none)))) = some r := h
 clear h
 have HC2 := Aside0.mk H
 clear H
 go_enter Tryd.func29, Tryd.ntmps29
 go_upto_region 1 with (fail)
 go_cut [21] (fun v21 wc => ∃ (kq : Nat) (x21_1 : Bool), v21 = .bool x21_1 ∧ Aside0 (ident_IsName.j0 kq a0 x21_1 = some r) ∧ Aside0 (kq ≤ k) ∧ Drawn0 w wc)
 case first =>
  have H := HC2.out
  clear HC2
  by_cases c3 : a0.toList = ([] : List UInt8)
  ·rw [if_pos c3] at H
   have c3b0 : (a0.toList == ([] : List UInt8) ) = true := beq_iff_eq.mpr c3
   have c3b1 : (a0.toList != ([] : List UInt8) ) = false := oD c3
   have c3b2 : a0.toList.isEmpty = true := List.isEmpty_iff.mpr c3
   clear c3
   (first | rw [c3b0] | (simp only [i64_w, i32_w]; rw [c3b0]) | skip)
   (try (rw [c3b2]; simp only [Bool.not_true, Bool.not_false]))
   have H' := Aside0.mk H
   clear H
   go_wp2
   go_meet
   case rel => exact ⟨_, (true), (by first | rfl | (simp; done) | (simp [*]; done)), H', ⟨by first | omega | exact Nat.le_refl _⟩, by repeat (first | exact Drawn0.refl _ | apply Drawn0.step)⟩
  ·rw [if_neg c3] at H
   have c3b0 : (a0.toList == ([] : List UInt8) ) = false := oC c3
   have c3b1 : (a0.toList != ([] : List UInt8) ) = true := bne_iff_ne.mpr c3
   have c3b2 : a0.toList.isEmpty = false := Bool.eq_false_iff.mpr (fun h_ => c3 (List.isEmpty_iff.mp h_))
   (first | rw [c3b0] | (simp only [i64_w, i32_w]; rw [c3b0]) | skip)
   (try (rw [c3b2]; simp only [Bool.not_true, Bool.not_false]))
   by_cases c4 : (a0.size : Int) > 16
   ·rw [if_pos c4] at H
    have c4b0 : decide (16 < (a0.size : Int)) = true := decide_eq_true c4
    have c4b1 : decide (16 < a0.size) = true := decide_eq_true (by omega)
    clear c4
    have H' := Aside0.mk H
    clear H
    go_wp2
    go_meet
    case rel => exact ⟨_, (true), (by first | rfl | (simp; done) | (simp [*]; done)), H', ⟨by first | omega | exact Nat.le_refl _⟩, by repeat (first | exact Drawn0.refl _ | apply Drawn0.step)⟩
   ·rw [if_neg c4] at H
    have c4b0 : decide (16 < (a0.size : Int)) = false := decide_eq_false c4
    have c4b1 : decide (16 < a0.size) = false := decide_eq_false (by omega)
    clear c4
    by_cases c5 : 0 < (a0.size : Int)
    ·rw [if_pos c5] at H
     have c5b0 : decide (0 < (a0.size : Int)) = true := decide_eq_true c5
     have c5b1 : decide (0 < a0.size) = true := decide_eq_true (by omega)
     clear c5
     replace H := oB H
     obtain ⟨t104, A70, H⟩ := H
     replace H : (if t104 = true then (ident_IsName.j0 k a0 true) else (ident_IsName.j0 k a0 ((bt a0 0) == 95))) = some r := H
     have A7 := Aside0.mk A70
     clear A70
     by_cases c8 : t104 = true
     ·subst c8
      have H1 : (ident_IsName.j0 k a0 true) = some r := by rw [if_pos rfl] at H; exact H
      clear H
      have H := H1
      clear H1
      have H' := Aside0.mk H
      clear H
      have p6 : 0 ≤ (0 : Int) := (by omega)
      have q6 : 0 < a0.size := (by have : (0 : Int) < (a0.size : Int) := of_decide_eq_true (by first | (with_reducible assumption) | assumption); omega)
      have hx6 : ∀ h : 0 < a0.size, ((a0[0]'h).toNat : Int) = bt a0 0 := bt_at a0 0
      clear p6
      have qi6 : (0 < (a0.size : Int)) = True := eq_true (of_decide_eq_true (by first | (with_reducible assumption) | assumption))
      replace q6 := eq_true q6
      go_wp2_with (first | (go_at_call 63; (with_reducible refine (ident_digit.calls (bt a0 0) true _ A7.out).mono ?_); rintro e w' ⟨rfl, ⟨nd, rfl⟩⟩))
      go_meet
      case rel => exact ⟨_, (true), (by first | rfl | (simp; done) | (simp [*]; done)), H', ⟨by first | omega | exact Nat.le_refl _⟩, by repeat (first | exact Drawn0.refl _ | apply Drawn0.step)⟩
     ·replace c8 := Bool.eq_false_iff.mpr c8
      subst c8
      have H1 : (ident_IsName.j0 k a0 ((bt a0 0) == 95)) = some r := by rw [if_neg (show ¬ (false = true) by decide)] at H; exact H
      clear H
      have H := H1
      clear H1
      have H' := Aside0.mk H
      clear H
      have p6 : 0 ≤ (0 : Int) := (by omega)
      have q6 : 0 < a0.size := (by have : (0 : Int) < (a0.size : Int) := of_decide_eq_true (by first | (with_reducible assumption) | assumption); omega)
      have hx6 : ∀ h : 0 < a0.size, ((a0[0]'h).toNat : Int) = bt a0 0 := bt_at a0 0
      clear p6
      have qi6 : (0 < (a0.size : Int)) = True := eq_true (of_decide_eq_true (by first | (with_reducible assumption) | assumption))
      replace q6 := eq_true q6
      go_wp2_with (first | (go_at_call 63; (with_reducible refine (ident_digit.calls (bt a0 0) false _ A7.out).mono ?_); rintro e w' ⟨rfl, ⟨nd, rfl⟩⟩; have p9 : 0 ≤ (0 : Int) := (by omega); have q9 : 0 < a0.size := (by have : (0 : Int) < (a0.size : Int) := of_decide_eq_true (by first | (with_reducible assumption) | assumption); omega); have hx9 : ∀ h : 0 < a0.size, ((a0[0]'h).toNat : Int) = bt a0 0 := bt_at a0 0; clear p9; have qi9 : (0 < (a0.size : Int)) = True := eq_true (of_decide_eq_true (by first | (with_reducible assumption) | assumption)); replace q9 := eq_true q9))
      go_meet
      case rel => exact ⟨_, (((bt a0 0) == 95)), (by first | rfl | (simp; done) | (simp [*]; done)), H', ⟨by first | omega | exact Nat.le_refl _⟩, by repeat (first | exact Drawn0.refl _ | apply Drawn0.step)⟩
    ·rw [if_neg c5] at H
     exact absurd H (by simp)
 case rest =>
  clear HC2
  try clear c2
  try clear p2
  try clear c3
  try clear c3b0
  try clear c3b1
  try clear c3b2
  try clear c4
  try clear c4b0
  try clear c4b1
  try clear c5
  try clear c5b0
  try clear c5b1
  try clear p6
  try clear q6
  try clear hx6
  try clear qi6
  try clear c8
  try clear p9
  try clear q9
  try clear hx9
  try clear qi9
  try clear p6
  try clear p9
  try clear q6
  try clear q9
  obtain ⟨kq, x21_1, rfl, HA, HJ1, ⟨mc1, rfl⟩⟩ := hcut
  cases kq with
  | zero => exact absurd HA.out (by simp [ident_IsName.j0])
  | succ kj1 =>
   have H := HA.out
   clear HA
   simp only [ident_IsName.j0] at H
   by_cases c10 : x21_1 = true
   ·subst c10
    have H1 : (some false) = some r := by rw [if_pos rfl] at H; exact H
    clear H
    have H := H1
    clear H1
    obtain rfl := Option.some.inj H
    go_wp2
    go_ret
    exact ⟨by first | rfl | (simp; done) | (simp [*]; done), by repeat (first | exact Drawn0.refl _ | apply Drawn0.step)⟩
   ·replace c10 := Bool.eq_false_iff.mpr c10
    subst c10
    have H1 : (ident_IsName.l0 kj1 a0 (a0.size : Int) 0) = some r := by rw [if_neg (show ¬ (false = true) by decide)] at H; exact H
    clear H
    have H := H1
    clear H1
    have H' := Aside0.mk H
    clear H
    go_wp2
    go_loopg [24] kj1 (fun kq v24 w' => ∃ (x24_2 : Int), v24 = .int .i64 x24_2 ∧ Aside0 (ident_IsName.l0 kq a0 (a0.size : Int) x24_2 = some r) ∧ Aside0 (kq ≤ kj1) ∧ Drawn0 w w')
    case atStart => exact ⟨(0), (by first | rfl | (simp; done) | (simp [*]; done)), H', ⟨Nat.le_refl _⟩, by repeat (first | exact Drawn0.refl _ | apply Drawn0.step)⟩
    case round =>
     clear H'
     try clear c1
     try clear c2
     try clear p2
     try clear c3
     try clear c3b0
     try clear c3b1
     try clear c3b2
     try clear c4
     try clear c4b0
     try clear c4b1
     try clear c5
     try clear c5b0
     try clear c5b1
     try clear p6
     try clear q6
     try clear hx6
     try clear qi6
     try clear c8
     try clear p9
     try clear q9
     try clear hx9
     try clear qi9
     try clear c10
     try clear p2
     try clear p6
     try clear p9
     try clear q6
     try clear q9
     obtain ⟨x24_2, rfl, HA, HK2, ⟨m2, rfl⟩⟩ := hrel
     cases gk with
     | zero => exact absurd HA.out (by simp [ident_IsName.l0])
     | succ k2 =>
      have H := HA.out
      clear HA
      simp only [ident_IsName.l0] at H
      by_cases c11 : x24_2 < (a0.size : Int)
      ·rw [if_pos c11] at H
       have c11b0 : decide (x24_2 < (a0.size : Int)) = true := decide_eq_true c11
       clear c11
       by_cases c12 : 0 ≤ x24_2
       ·rw [if_pos c12] at H
        have c12b0 : decide (0 ≤ x24_2) = true := decide_eq_true c12
        clear c12
        by_cases c13 : x24_2 < (a0.size : Int)
        ·rw [if_pos c13] at H
         have c13b0 : decide (x24_2 < (a0.size : Int)) = true := decide_eq_true c13
         clear c13
         replace H := oB H
         obtain ⟨t105, A150, H⟩ := H
         replace H : (if t105 = true then (ident_IsName.l0 k2 a0 (a0.size : Int) (wrap64 (x24_2 + 1))) else (if (bt a0 x24_2) = 95 then (ident_IsName.l0 k2 a0 (a0.size : Int) (wrap64 (x24_2 + 1))) else (if (bt a0 x24_2) < 97 then (some false) else (if (bt a0 x24_2) > 122 then (some false) else (ident_IsName.l0 k2 a0 (a0.size : Int) (wrap64 (x24_2 + 1))))))) = some r := H
         have A15 := Aside0.mk A150
         clear A150
         by_cases c16 : t105 = true
         ·subst c16
          have H1 : (ident_IsName.l0 k2 a0 (a0.size : Int) (wrap64 (x24_2 + 1))) = some r := by rw [if_pos rfl] at H; exact H
          clear H
          have H := H1
          clear H1
          have H' := Aside0.mk H
          clear H
          have p14 : 0 ≤ (x24_2 : Int) := of_decide_eq_true (by first | (with_reducible assumption) | assumption)
          have q14 : x24_2 < (a0.size : Int) := of_decide_eq_true (by first | (with_reducible assumption) | assumption)
          have hx14 := bt_at a0 x24_2
          replace p14 := eq_true p14
          replace q14 := eq_true q14
          go_wp2_with (first | ((with_reducible refine gate_callee (f := 63) rfl ?_); refine goesL_ (some 31) rfl rfl Tryd.func63 (by kernel_rfl) rfl #[.int .u8 (bt a0 x24_2)] rfl (by first | rfl | (simp only [List.map_toArray]; rfl)) ?_; (with_reducible refine (ident_digit.calls (bt a0 x24_2) true _ A15.out).mono ?_); rintro e w' ⟨rfl, ⟨nd, rfl⟩⟩; refine ⟨_, rfl, ?_⟩))
          go_roundg k2
          case measure => have := HJ1.out; have := HK2.out; omega
          case rel => exact ⟨(wrap64 (x24_2 + 1)), (by first | rfl | (simp; done) | (simp [*]; done)), H', ⟨by have := HJ1.out; have := HK2.out; omega⟩, by repeat (first | exact Drawn0.refl _ | apply Drawn0.step)⟩
         ·replace c16 := Bool.eq_false_iff.mpr c16
          subst c16
          have H1 : (if (bt a0 x24_2) = 95 then (ident_IsName.l0 k2 a0 (a0.size : Int) (wrap64 (x24_2 + 1))) else (if (bt a0 x24_2) < 97 then (some false) else (if (bt a0 x24_2) > 122 then (some false) else (ident_IsName.l0 k2 a0 (a0.size : Int) (wrap64 (x24_2 + 1)))))) = some r := by rw [if_neg (show ¬ (false = true) by decide)] at H; exact H
          clear H
          have H := H1
          clear H1
          by_cases c17 : (bt a0 x24_2) = 95
          ·rw [if_pos c17] at H
           have c17b0 : ((bt a0 x24_2) == 95) = true := beq_iff_eq.mpr c17
           have c17b1 : ((bt a0 x24_2) != 95) = false := oD c17
           clear c17
           have H' := Aside0.mk H
           clear H
           have p14 : 0 ≤ (x24_2 : Int) := of_decide_eq_true (by first | (with_reducible assumption) | assumption)
           have q14 : x24_2 < (a0.size : Int) := of_decide_eq_true (by first | (with_reducible assumption) | assumption)
           have hx14 := bt_at a0 x24_2
           replace p14 := eq_true p14
           replace q14 := eq_true q14
           go_wp2_with (first | ((with_reducible refine gate_callee (f := 63) rfl ?_); refine goesL_ (some 31) rfl rfl Tryd.func63 (by kernel_rfl) rfl #[.int .u8 (bt a0 x24_2)] rfl (by first | rfl | (simp only [List.map_toArray]; rfl)) ?_; (with_reducible refine (ident_digit.calls (bt a0 x24_2) false _ A15.out).mono ?_); rintro e w' ⟨rfl, ⟨nd, rfl⟩⟩; refine ⟨_, rfl, ?_⟩))
           go_roundg k2
           case measure => have := HJ1.out; have := HK2.out; omega
           case rel => exact ⟨(wrap64 (x24_2 + 1)), (by first | rfl | (simp; done) | (simp [*]; done)), H', ⟨by have := HJ1.out; have := HK2.out; omega⟩, by repeat (first | exact Drawn0.refl _ | apply Drawn0.step)⟩
          ·rw [if_neg c17] at H
           have c17b0 : ((bt a0 x24_2) == 95) = false := oC c17
           have c17b1 : ((bt a0 x24_2) != 95) = true := bne_iff_ne.mpr c17
           by_cases c18 : (bt a0 x24_2) < 97
           ·rw [if_pos c18] at H
            have c18b0 : decide ((bt a0 x24_2) < 97) = true := decide_eq_true c18
            clear c18
            obtain rfl := Option.some.inj H
            have p14 : 0 ≤ (x24_2 : Int) := of_decide_eq_true (by first | (with_reducible assumption) | assumption)
            have q14 : x24_2 < (a0.size : Int) := of_decide_eq_true (by first | (with_reducible assumption) | assumption)
            have hx14 := bt_at a0 x24_2
            replace p14 := eq_true p14
            replace q14 := eq_true q14
            go_wp2_with (first | ((with_reducible refine gate_callee (f := 63) rfl ?_); refine goesL_ (some 31) rfl rfl Tryd.func63 (by kernel_rfl) rfl #[.int .u8 (bt a0 x24_2)] rfl (by first | rfl | (simp only [List.map_toArray]; rfl)) ?_; (with_reducible refine (ident_digit.calls (bt a0 x24_2) false _ A15.out).mono ?_); rintro e w' ⟨rfl, ⟨nd, rfl⟩⟩; refine ⟨_, rfl, ?_⟩))
            go_ret
            exact ⟨by first | rfl | (simp; done) | (simp [*]; done), by repeat (first | exact Drawn0.refl _ | apply Drawn0.step)⟩
           ·rw [if_neg c18] at H
            have c18b0 : decide ((bt a0 x24_2) < 97) = false := decide_eq_false c18
            clear c18
            by_cases c19 : (bt a0 x24_2) > 122
            ·rw [if_pos c19] at H
             have c19b0 : decide (122 < (bt a0 x24_2)) = true := decide_eq_true c19
             clear c19
             obtain rfl := Option.some.inj H
             have p14 : 0 ≤ (x24_2 : Int) := of_decide_eq_true (by first | (with_reducible assumption) | assumption)
             have q14 : x24_2 < (a0.size : Int) := of_decide_eq_true (by first | (with_reducible assumption) | assumption)
             have hx14 := bt_at a0 x24_2
             replace p14 := eq_true p14
             replace q14 := eq_true q14
             go_wp2_with (first | ((with_reducible refine gate_callee (f := 63) rfl ?_); refine goesL_ (some 31) rfl rfl Tryd.func63 (by kernel_rfl) rfl #[.int .u8 (bt a0 x24_2)] rfl (by first | rfl | (simp only [List.map_toArray]; rfl)) ?_; (with_reducible refine (ident_digit.calls (bt a0 x24_2) false _ A15.out).mono ?_); rintro e w' ⟨rfl, ⟨nd, rfl⟩⟩; refine ⟨_, rfl, ?_⟩))
             go_ret
             exact ⟨by first | rfl | (simp; done) | (simp [*]; done), by repeat (first | exact Drawn0.refl _ | apply Drawn0.step)⟩
            ·rw [if_neg c19] at H
             have c19b0 : decide (122 < (bt a0 x24_2)) = false := decide_eq_false c19
             clear c19
             have H' := Aside0.mk H
             clear H
             have p14 : 0 ≤ (x24_2 : Int) := of_decide_eq_true (by first | (with_reducible assumption) | assumption)
             have q14 : x24_2 < (a0.size : Int) := of_decide_eq_true (by first | (with_reducible assumption) | assumption)
             have hx14 := bt_at a0 x24_2
             replace p14 := eq_true p14
             replace q14 := eq_true q14
             go_wp2_with (first | ((with_reducible refine gate_callee (f := 63) rfl ?_); refine goesL_ (some 31) rfl rfl Tryd.func63 (by kernel_rfl) rfl #[.int .u8 (bt a0 x24_2)] rfl (by first | rfl | (simp only [List.map_toArray]; rfl)) ?_; (with_reducible refine (ident_digit.calls (bt a0 x24_2) false _ A15.out).mono ?_); rintro e w' ⟨rfl, ⟨nd, rfl⟩⟩; refine ⟨_, rfl, ?_⟩))
             go_roundg k2
             case measure => have := HJ1.out; have := HK2.out; omega
             case rel => exact ⟨(wrap64 (x24_2 + 1)), (by first | rfl | (simp; done) | (simp [*]; done)), H', ⟨by have := HJ1.out; have := HK2.out; omega⟩, by repeat (first | exact Drawn0.refl _ | apply Drawn0.step)⟩
        ·rw [if_neg c13] at H
         exact absurd H (by simp)
       ·rw [if_neg c12] at H
        exact absurd H (by simp)
      ·rw [if_neg c11] at H
       have c11b0 : decide (x24_2 < (a0.size : Int)) = false := decide_eq_false c11
       clear c11
       obtain rfl := Option.some.inj H
       go_wp2
       go_ret
       exact ⟨by first | rfl | (simp; done) | (simp [*]; done), by repeat (first | exact Drawn0.refl _ | apply Drawn0.step)⟩
def product_Find.l0 : Nat → ByteArray → List (S54) → Int → Int → Option (Int × Bool)
 | 0, _, _, _, _ => none
 | k + 1, x1, x8, x9, x10 => if x10 < x9 then (if 0 ≤ x10 then (if x10 < (x8.length : Int) then (if ((rd_T54 x8 x10).f0).toList = x1.toList then (some (x10, true)) else (product_Find.l0 k x1 x8 x9 (wrap64 (x10 + 1)))) else (none)) else (none)) else (some (0, false))
def product_Find.f (k : Nat) (l0 : List (S54)) (a1 : ByteArray) : Option (Int × Bool) := product_Find.l0 k a1 l0 (l0.length : Int) 0
set_option maxHeartbeats 8000000 in
set_option maxRecDepth 100000 in
theorem product_Find.calls (k : Nat) (A0 : Option Addr) (c0 : Nat) (l0 : List (S54)) (a1 : ByteArray) (r1 : Int) (r2 : Bool) (w : World) (hr0 : Kd.C k54 w A0 l0.length l0) (hc0 : l0.length ≤ c0) (h : product_Find.f k l0 a1 = some (r1, r2)) :
  Calls Tryd.prog 59 #[.slice A0 l0.length c0, .string a1] w fun e w' => e = .returned (.tuple #[.int .i64 r1, .bool r2]) ∧ Below w.heap.size w w' := by
 have hu54 := Tryd.underlying54
 have HR0 := Aside0.mk hr0
 have HC0 := Aside0.mk hc0
 clear hr0 hc0
 have HB := q_ (Below.refl w.heap.size w)
 have H : (product_Find.l0 k a1 l0 (l0.length : Int) 0) = some (r1, r2) := h
 clear h
 have H' := Aside0.mk H
 clear H
 go_enter Tryd.func59, Tryd.ntmps59
 go_wp2
 go_loopg [10] k (fun kq v10 w' => ∃ (x10_1 : Int), v10 = .int .i64 x10_1 ∧ Aside0 (product_Find.l0 kq a1 l0 (l0.length : Int) x10_1 = some (r1, r2)) ∧ Aside0 (kq ≤ k) ∧ Aside0 (Below w.heap.size w w'))
 case atStart => exact ⟨(0), (by first | rfl | (simp; done) | (simp [*]; done)), H', ⟨Nat.le_refl _⟩, ⟨by repeat (first | (with_reducible first | exact HB.out | apply pA | apply pN | apply pd_) | exact HB.out)⟩⟩
 case round =>
  clear H'
  try clear p2
  obtain ⟨x10_1, rfl, HA, HK1, HB⟩ := hrel
  cases gk with
  | zero => exact absurd HA.out (by simp [product_Find.l0])
  | succ k1 =>
   have H := HA.out
   clear HA
   simp only [product_Find.l0] at H
   by_cases c3 : x10_1 < (l0.length : Int)
   ·rw [if_pos c3] at H
    have c3b0 : decide (x10_1 < (l0.length : Int)) = true := decide_eq_true c3
    clear c3
    by_cases c4 : 0 ≤ x10_1
    ·rw [if_pos c4] at H
     have c4b0 : decide (0 ≤ x10_1) = true := decide_eq_true c4
     clear c4
     by_cases c5 : x10_1 < (l0.length : Int)
     ·rw [if_pos c5] at H
      have c5b0 : decide (x10_1 < (l0.length : Int)) = true := decide_eq_true c5
      clear c5
      by_cases c6 : ((rd_T54 l0 x10_1).f0).toList = a1.toList
      ·rw [if_pos c6] at H
       have c6b0 : (((rd_T54 l0 x10_1).f0).toList == a1.toList) = true := beq_iff_eq.mpr c6
       have c6b1 : (((rd_T54 l0 x10_1).f0).toList != a1.toList) = false := oD c6
       clear c6
       simp only [Option.some.injEq, Prod.mk.injEq] at H
       obtain ⟨rfl, rfl⟩ := H
       have p106 : 0 ≤ (x10_1 : Int) := of_decide_eq_true (by first | (with_reducible assumption) | assumption)
       have q106 : x10_1 < (l0.length : Int) := of_decide_eq_true (by first | (with_reducible assumption) | assumption)
       obtain ⟨ad106, A106_5, c106_5, A106_6, c106_6, e106, hx106_0, hx106_1, hx106_2, hx106_3, hx106_4, hx106_5, hx106_6, hl106_5, hi106_5, hl106_6, hi106_6⟩ := at_T54 HR0.out x10_1 p106 q106
       cases e106
       replace hx106_0 := (HB.out.cell (World.block_lt_of_cell? w _ hx106_0)).trans hx106_0
       replace hx106_1 := (HB.out.cell (World.block_lt_of_cell? w _ hx106_1)).trans hx106_1
       replace hx106_2 := (HB.out.cell (World.block_lt_of_cell? w _ hx106_2)).trans hx106_2
       replace hx106_3 := (HB.out.cell (World.block_lt_of_cell? w _ hx106_3)).trans hx106_3
       replace hx106_4 := (HB.out.cell (World.block_lt_of_cell? w _ hx106_4)).trans hx106_4
       replace hx106_5 := (HB.out.cell (World.block_lt_of_cell? w _ hx106_5)).trans hx106_5
       replace hx106_6 := (HB.out.cell (World.block_lt_of_cell? w _ hx106_6)).trans hx106_6
       have HR106_5 := Aside0.mk hi106_5
       have HC106_5 := Aside0.mk hl106_5
       clear hi106_5 hl106_5
       have HR106_6 := Aside0.mk hi106_6
       have HC106_6 := Aside0.mk hl106_6
       clear hi106_6 hl106_6
       replace p106 := eq_true p106
       replace q106 := eq_true q106
       go_wp2_with (first | ((with_reducible refine gate_dst (N := 7) rfl ?_); refine box_event ?hg (N := 7) ?hd (cs := #[.string (⟨#[]⟩ : ByteArray), .int .i64 0, .int .i64 0, .int .i64 0, .int .i64 0, .slice none 0 0, .slice none 0 0]) (t := 54) ?hr ?_; (case hd => rfl); (case hg => rfl); (case hr => first | (go_simp; done) | (go_simp; rfl)); intro gb107 hg w7 hbox hb; have n0_ := q_ (pT (by repeat (first | (with_reducible first | exact HB.out | apply pA | apply pN | apply pd_) | exact HB.out)) hb); have n1_ := q_ (hbox); have n2_ := q_ ((by rw [hg]; exact (pZ (by repeat (first | (with_reducible first | exact HB.out | apply pA | apply pN | apply pd_) | exact HB.out))) : w.heap.size ≤ gb107)); have n3_ := n2_; clear HB; have HB := n0_; have BK107 := n1_; have GW107 := n2_; have GE107 := n3_; clear n0_ n1_ n2_ n3_; clear hb hbox hg; have hcz8 := blk_all BK107.out; simp only [CellsAt, List.toList_toArray, Nat.reduceAdd, and_true] at hcz8; have hfz8 := bF BK107.out))
       go_ret2
       exact ⟨by first | rfl | (simp [*] <;> rfl), by repeat (first | (with_reducible first | exact HB.out | apply pA | apply pN | apply pd_ | refine pS ?_ GE107.out) | exact HB.out)⟩
      ·rw [if_neg c6] at H
       have c6b0 : (((rd_T54 l0 x10_1).f0).toList == a1.toList) = false := oC c6
       have c6b1 : (((rd_T54 l0 x10_1).f0).toList != a1.toList) = true := bne_iff_ne.mpr c6
       have H' := Aside0.mk H
       clear H
       have p106 : 0 ≤ (x10_1 : Int) := of_decide_eq_true (by first | (with_reducible assumption) | assumption)
       have q106 : x10_1 < (l0.length : Int) := of_decide_eq_true (by first | (with_reducible assumption) | assumption)
       obtain ⟨ad106, A106_5, c106_5, A106_6, c106_6, e106, hx106_0, hx106_1, hx106_2, hx106_3, hx106_4, hx106_5, hx106_6, hl106_5, hi106_5, hl106_6, hi106_6⟩ := at_T54 HR0.out x10_1 p106 q106
       cases e106
       replace hx106_0 := (HB.out.cell (World.block_lt_of_cell? w _ hx106_0)).trans hx106_0
       replace hx106_1 := (HB.out.cell (World.block_lt_of_cell? w _ hx106_1)).trans hx106_1
       replace hx106_2 := (HB.out.cell (World.block_lt_of_cell? w _ hx106_2)).trans hx106_2
       replace hx106_3 := (HB.out.cell (World.block_lt_of_cell? w _ hx106_3)).trans hx106_3
       replace hx106_4 := (HB.out.cell (World.block_lt_of_cell? w _ hx106_4)).trans hx106_4
       replace hx106_5 := (HB.out.cell (World.block_lt_of_cell? w _ hx106_5)).trans hx106_5
       replace hx106_6 := (HB.out.cell (World.block_lt_of_cell? w _ hx106_6)).trans hx106_6
       have HR106_5 := Aside0.mk hi106_5
       have HC106_5 := Aside0.mk hl106_5
       clear hi106_5 hl106_5
       have HR106_6 := Aside0.mk hi106_6
       have HC106_6 := Aside0.mk hl106_6
       clear hi106_6 hl106_6
       replace p106 := eq_true p106
       replace q106 := eq_true q106
       go_wp2_with (first | ((with_reducible refine gate_dst (N := 7) rfl ?_); refine box_event ?hg (N := 7) ?hd (cs := #[.string (⟨#[]⟩ : ByteArray), .int .i64 0, .int .i64 0, .int .i64 0, .int .i64 0, .slice none 0 0, .slice none 0 0]) (t := 54) ?hr ?_; (case hd => rfl); (case hg => rfl); (case hr => first | (go_simp; done) | (go_simp; rfl)); intro gb107 hg w9 hbox hb; have n0_ := q_ (pT (by repeat (first | (with_reducible first | exact HB.out | apply pA | apply pN | apply pd_) | exact HB.out)) hb); have n1_ := q_ (hbox); have n2_ := q_ ((by rw [hg]; exact (pZ (by repeat (first | (with_reducible first | exact HB.out | apply pA | apply pN | apply pd_) | exact HB.out))) : w.heap.size ≤ gb107)); have n3_ := n2_; clear HB; have HB := n0_; have BK107 := n1_; have GW107 := n2_; have GE107 := n3_; clear n0_ n1_ n2_ n3_; clear hb hbox hg; have hcz10 := blk_all BK107.out; simp only [CellsAt, List.toList_toArray, Nat.reduceAdd, and_true] at hcz10; have hfz10 := bF BK107.out))
       go_roundg k1
       case measure => have := HK1.out; omega
       case rel => exact ⟨(wrap64 (x10_1 + 1)), (by first | rfl | (simp; done) | (simp [*]; done)), H', ⟨by have := HK1.out; omega⟩, ⟨by repeat (first | (with_reducible first | exact HB.out | apply pA | apply pN | apply pd_ | refine pS ?_ GE107.out) | exact HB.out)⟩⟩
     ·rw [if_neg c5] at H
      exact absurd H (by simp)
    ·rw [if_neg c4] at H
     exact absurd H (by simp)
   ·rw [if_neg c3] at H
    have c3b0 : decide (x10_1 < (l0.length : Int)) = false := decide_eq_false c3
    clear c3
    simp only [Option.some.injEq, Prod.mk.injEq] at H
    obtain ⟨rfl, rfl⟩ := H
    go_wp2
    go_ret2
    exact ⟨by first | rfl | (simp [*] <;> rfl), by repeat (first | (with_reducible first | exact HB.out | apply pA | apply pN | apply pd_) | exact HB.out)⟩
def units_Floor.f (a0 a1 : Int) : Option (Int × Bool) := if 0 ≤ a0 ∧ a0 ≤ 9223372036854775807 ∧ 0 < a1 ∧ a1 ≤ 9223372036854775807 then some (a0 / a1, true) else none
theorem floor_up (a b : Int) (w : World) : Calls Tryd.prog 101 #[.int .i64 a, .int .i64 b] w fun e w' => e = .returned (.bool false) ∧ w' = w := by
 go_enter Tryd.func101, Tryd.ntmps101
 go_wp2
 go_ret
 exact ⟨rfl, rfl⟩
set_option maxHeartbeats 1000000 in
set_option maxRecDepth 100000 in
theorem floor_of (a b : Int) (ha : 0 ≤ a) (ha' : a ≤ 9223372036854775807) (hb : 0 < b) (hb' : b ≤ 9223372036854775807) (w : World) :
  Calls Tryd.prog 102 #[.agg #[.func (.func 101) #[] #[]], .int .i64 a, .int .i64 b] w fun e w' => e = .returned (.tuple #[.int .i64 (a / b), .bool true]) ∧ Below w.heap.size w w' := by
 have e1 : Int.tdiv a b = a / b := Int.tdiv_eq_ediv_of_nonneg ha
 have e2 : Int.tmod a b = a % b := Int.tmod_eq_emod_of_nonneg ha
 have e3 : 0 ≤ a / b := Int.ediv_nonneg ha (by omega)
 have e4 : a / b ≤ a := Int.ediv_le_self b ha
 have e5 : wrap64 (a / b) = a / b := by unfold wrap64; omega
 have e6 : 0 ≤ a % b := Int.emod_nonneg a (by omega)
 have e7 : decide (a % b < 0) = false := decide_eq_false (by omega)
 have e8 : decide (b < 0) = false := decide_eq_false (by omega)
 have e9 : (b == 0) = false := beq_false_of_ne (by omega)
 have e10 : (b == -1) = false := beq_false_of_ne (by omega)
 have e11 : (a == -9223372036854775808) = false := beq_false_of_ne (by omega)
 go_enter Tryd.func102, Tryd.ntmps102
 go_wp2_with (first | (go_at_call 101; refine (floor_up _ _ _).mono ?_; rintro e w' ⟨rfl, rfl⟩))
 go_quiet (fail)
 go_wp2_with (first | (go_at_call 101; refine (floor_up _ _ _).mono ?_; rintro e w' ⟨rfl, rfl⟩))
 all_goals go_ret2
 all_goals exact ⟨by simp_all, by repeat (first | exact Below.refl _ _ | apply pA | apply pN | apply below_drew)⟩
theorem units_Floor.calls (a0 a1 : Int) (r1 : Int) (r2 : Bool) (w : World) (h : units_Floor.f a0 a1 = some (r1, r2)) :
  Calls Tryd.prog 97 #[.int .i64 a0, .int .i64 a1] w fun e w' => e = .returned (.tuple #[.int .i64 r1, .bool r2]) ∧ Below w.heap.size w w' := by
 unfold units_Floor.f at h
 by_cases c : 0 ≤ a0 ∧ a0 ≤ 9223372036854775807 ∧ 0 < a1 ∧ a1 ≤ 9223372036854775807
 ·rw [if_pos c] at h
  simp only [Option.some.injEq, Prod.mk.injEq] at h
  obtain ⟨rfl, rfl⟩ := h
  go_enter Tryd.func97, Tryd.ntmps97
  go_wp2_with (first | (go_at_call 102; refine (floor_of _ _ c.1 c.2.1 c.2.2.1 c.2.2.2 _).mono ?_; rintro e w' ⟨rfl, hb⟩))
  go_ret2
  exact ⟨rfl, hb⟩
 ·rw [if_neg c] at h
  exact absurd h (by simp)
end Go.Proofs.YtblmgmhjlbkncaaDoor.PA
namespace Go.Proofs.YtblmgmhjlbkncaaDoor.PA
open Go.RowKit Go.Proofs.YtblmgmhjlbkncaaDoorW.PrintWords Go.Proofs.YtblmgmhjlbkncaaDoorW.PrintLast Go.Proofs.YtblmgmhjlbkncaaDoorW.PrintMore
attribute [local go_sem] max2_int min2_int max_two min_two max_three min_three max_four min_four
set_option linter.unusedVariables false
set_option linter.unusedSimpArgs false
def ident_Letter.l0 : Nat → ByteArray → Int → Int → Int → Option (Int)
 | 0, _, _, _, _ => none
 | k + 1, x0, x3, x6, x7 => if x7 < x6 then (if 0 ≤ x7 then (if x7 < (x0.size : Int) then (ident_Letter.l0 k x0 (Int.tmod (wrap64 (x3 + (wrap64 ((wrap64 ((Int.tmod x7 23) + 1)) * (wrap64 (bt x0 x7)))))) 23) x6 (wrap64 (x7 + 1))) else (none)) else (none)) else (some ((65 + ((x3) % 256)) % 256))
def ident_Letter.f (k : Nat) (a0 : ByteArray) : Option (Int) := ident_Letter.l0 k a0 0 (a0.size : Int) 0
set_option maxHeartbeats 8000000 in
set_option maxRecDepth 100000 in
theorem ident_Letter.calls (k : Nat) (a0 : ByteArray) (r : Int) (w : World) (h : ident_Letter.f k a0 = some r) :
  Calls Tryd.prog 90 #[.string a0] w fun e w' => e = .returned (.int .u8 r) ∧ Drawn0 w w' := by
 have H : (ident_Letter.l0 k a0 0 (a0.size : Int) 0) = some r := h
 clear h
 have H' := Aside0.mk H
 clear H
 go_enter Tryd.func90, Tryd.ntmps90
 go_wp2
 go_loopg [3, 7] k (fun kq v3 v7 w' => ∃ (x3_1 : Int) (x7_1 : Int), v3 = .int .i64 x3_1 ∧ v7 = .int .i64 x7_1 ∧ Aside0 (ident_Letter.l0 kq a0 x3_1 (a0.size : Int) x7_1 = some r) ∧ Aside0 (kq ≤ k) ∧ Drawn0 w w')
 case atStart => exact ⟨(0), (0), (by first | rfl | (simp; done) | (simp [*]; done)), (by first | rfl | (simp; done) | (simp [*]; done)), H', ⟨Nat.le_refl _⟩, by repeat (first | exact Drawn0.refl _ | apply Drawn0.step)⟩
 case round =>
  clear H'
  obtain ⟨x3_1, x7_1, rfl, rfl, HA, HK1, ⟨m1, rfl⟩⟩ := hrel
  cases gk with
  | zero => exact absurd HA.out (by simp [ident_Letter.l0])
  | succ k1 =>
   have H := HA.out
   clear HA
   simp only [ident_Letter.l0] at H
   by_cases c2 : x7_1 < (a0.size : Int)
   ·rw [if_pos c2] at H
    have c2b0 : decide (x7_1 < (a0.size : Int)) = true := decide_eq_true c2
    clear c2
    by_cases c3 : 0 ≤ x7_1
    ·rw [if_pos c3] at H
     have c3b0 : decide (0 ≤ x7_1) = true := decide_eq_true c3
     clear c3
     by_cases c4 : x7_1 < (a0.size : Int)
     ·rw [if_pos c4] at H
      have c4b0 : decide (x7_1 < (a0.size : Int)) = true := decide_eq_true c4
      clear c4
      have H' := Aside0.mk H
      clear H
      have p5 : 0 ≤ (x7_1 : Int) := of_decide_eq_true (by first | (with_reducible assumption) | assumption)
      have q5 : x7_1 < (a0.size : Int) := of_decide_eq_true (by first | (with_reducible assumption) | assumption)
      have hx5 := bt_at a0 x7_1
      replace p5 := eq_true p5
      replace q5 := eq_true q5
      go_wp2
      go_roundg k1
      case measure => have := HK1.out; omega
      case rel => exact ⟨(Int.tmod (wrap64 (x3_1 + (wrap64 ((wrap64 ((Int.tmod x7_1 23) + 1)) * (wrap64 (bt a0 x7_1)))))) 23), (wrap64 (x7_1 + 1)), (by first | rfl | (simp; done) | (simp [*]; done)), (by first | rfl | (simp; done) | (simp [*]; done)), H', ⟨by have := HK1.out; omega⟩, by repeat (first | exact Drawn0.refl _ | apply Drawn0.step)⟩
     ·rw [if_neg c4] at H
      exact absurd H (by simp)
    ·rw [if_neg c3] at H
     exact absurd H (by simp)
   ·rw [if_neg c2] at H
    have c2b0 : decide (x7_1 < (a0.size : Int)) = false := decide_eq_false c2
    clear c2
    obtain rfl := Option.some.inj H
    go_wp2
    go_ret
    exact ⟨by first | rfl | (simp; done) | (simp [*]; done), by repeat (first | exact Drawn0.refl _ | apply Drawn0.step)⟩
def ident_capital.f (a0 : Int) : Option (Bool) := if 65 ≤ a0 then (some (decide (a0 ≤ 90))) else (some false)
set_option maxHeartbeats 8000000 in
set_option maxRecDepth 100000 in
theorem ident_capital.calls (a0 : Int) (r : Bool) (w : World) (h : ident_capital.f a0 = some r) :
  Calls Tryd.prog 98 #[.int .u8 a0] w fun e w' => e = .returned (.bool r) ∧ Drawn0 w w' := by
 have H : (if 65 ≤ a0 then (some (decide (a0 ≤ 90))) else (some false)) = some r := h
 clear h
 by_cases c2 : 65 ≤ a0
 ·rw [if_pos c2] at H
  have c2b0 : decide (65 ≤ a0) = true := decide_eq_true c2
  clear c2
  obtain rfl := Option.some.inj H
  go_enter Tryd.func98, Tryd.ntmps98
  go_wp2
  go_ret
  exact ⟨by first | rfl | (simp; done) | (simp [*]; done), by repeat (first | exact Drawn0.refl _ | apply Drawn0.step)⟩
 ·rw [if_neg c2] at H
  have c2b0 : decide (65 ≤ a0) = false := decide_eq_false c2
  clear c2
  obtain rfl := Option.some.inj H
  go_enter Tryd.func98, Tryd.ntmps98
  go_wp2
  go_ret
  exact ⟨by first | rfl | (simp; done) | (simp [*]; done), by repeat (first | exact Drawn0.refl _ | apply Drawn0.step)⟩
set_option maxHeartbeats 1000000 in
set_option maxRecDepth 100000 in
theorem form_calls (w : World) : Calls Tryd.prog 89 #[] w fun e w' => e = .returned (.slice (some ⟨w.heap.size, 0, none⟩) 2 2) ∧ w' = w.alloc (.cells #[.int .i64 0, .int .i64 1, .func (.func 98) #[] #[], .int .i64 10, .int .i64 1, .int .i64 7, .func (.func 63) #[] #[], .int .i64 5] 117) := by
 go_enter Tryd.func89, Tryd.ntmps89
 go_wp2
 go_ret
 exact ⟨rfl, rfl⟩
def capB (c : Int) : Bool := decide (65 ≤ c ∧ c ≤ 90)
def digB (c : Int) : Bool := decide (48 ≤ c ∧ c ≤ 57)
theorem cap_calls (c : Int) (w : World) : Calls Tryd.prog 98 #[.int .u8 c] w fun e w' => e = .returned (.bool (capB c)) ∧ Drawn0 w w' :=
 ident_capital.calls c (capB c) w (by unfold ident_capital.f capB; split <;> simp [*])
theorem dig_calls (c : Int) (w : World) : Calls Tryd.prog 63 #[.int .u8 c] w fun e w' => e = .returned (.bool (digB c)) ∧ Drawn0 w w' :=
 ident_digit.calls c (digB c) w (by unfold ident_digit.f digB; split <;> simp [*])
theorem alloc_drewN (w : World) (n : Nat) (o : Obj) : (w.drewN n).alloc o = (w.alloc o).drewN n := rfl
theorem setCell_drewN (w : World) (n : Nat) (p : Addr) (v : Value) : (w.drewN n).setCell p v = (w.setCell p v).drewN n := by
 unfold World.setCell
 rfl
attribute [local go_sem] alloc_drewN setCell_drewN
theorem quiet_of_drawn {P : Program} {f : Nat} {args : Array Value} {w : World} {v : Value} (h : Calls P f args w fun e w' => e = .returned v ∧ Drawn0 w w') : Calls P f args w fun e w' => e = .returned v ∧ ∃ n, w' = w.drewN n :=
 h.mono fun _ _ ⟨he, hd⟩ => ⟨he, hd.out⟩
set_option maxHeartbeats 1000000 in
set_option maxRecDepth 100000 in
theorem split_short (a0 : ByteArray) (w : World) (h : ((a0.size : Int) != 8) = true) :
  Calls Tryd.prog 62 #[.string a0] w fun e w' => e = .returned (.tuple #[.int .u8 0, .int .i64 0, .int .i64 3]) ∧ w' = w := by
 go_enter Tryd.func62, Tryd.ntmps62
 go_wp2
 go_ret3
 exact ⟨rfl, rfl⟩
set_option maxHeartbeats 1000000 in
set_option maxRecDepth 100000 in
theorem split_nocap (a0 : ByteArray) (w : World) (h8 : a0.size = 8) (hc : capB (bt a0 0) = false) :
  Calls Tryd.prog 62 #[.string a0] w fun e w' => e = .returned (.tuple #[.int .u8 0, .int .i64 0, .int .i64 10]) ∧ Below w.heap.size w w' := by
 have h : ((a0.size : Int) != 8) = false := by rw [h8]; rfl
 have hx0 : ∀ h : 0 < a0.size, ((a0[0]'h).toNat : Int) = bt a0 0 := bt_at a0 0
 have hq : 0 < a0.size := by omega
 have HC := Aside0.mk hc
 clear hc h8
 have huF := Tryd.underlying117
 go_enter Tryd.func62, Tryd.ntmps62
 go_wp2_with (go_at_call 89; refine (form_calls _).mono ?_; rintro e w' ⟨rfl, rfl⟩)
 refine wp_loop_rounds 1 ?_
 rw [rounds_succ]
 go_wp2
 refine wp_loop_rounds 1 ?_
 rw [rounds_succ]
 go_wp2
 go_quiet ((go_at_call 98; (try simp only [hx0]); exact Calls.quiet_of (quiet_of_drawn (cap_calls _ _))))
 rw [HC.out]
 go_wp2
 go_quiet (fail)
 go_wp2
 go_ret3
 exact ⟨rfl, by repeat (first | exact Below.refl _ _ | apply pA | apply pN | apply below_drew)⟩
def allDig (a0 : ByteArray) : Bool := (List.range 6).all fun i => digB (bt a0 ((i + 1 : Nat) : Int))
theorem allDig_false (a0 : ByteArray) (k : Nat) (h1 : 1 ≤ k) (h2 : k < 7) (h : digB (bt a0 k) = false) : allDig a0 = false := by
 rw [allDig, List.all_eq_false]
 refine ⟨k - 1, by simp; omega, ?_⟩
 rw [Nat.sub_add_cancel h1, h]
 simp
def codeNum (s : ByteArray) : Int := 100000 * (bt s 1 - 48) + 10000 * (bt s 2 - 48) + 1000 * (bt s 3 - 48) + 100 * (bt s 4 - 48) + 10 * (bt s 5 - 48) + (bt s 6 - 48)
theorem dig_val (b : UInt8) (h : digB (b.toNat : Int) = true) : Lib.digitVal b = some (b.toNat - 48) ∧ 48 ≤ b.toNat ∧ b ≠ 45 ∧ b ≠ 43 := by
 have h' : 48 ≤ b.toNat ∧ b.toNat ≤ 57 := by simp [digB] at h; omega
 refine ⟨?_, h'.1, ?_, ?_⟩
 ·unfold Lib.digitVal
  rw [if_pos h']
 ·rintro rfl
  simp at h'
 ·rintro rfl
  simp at h'
theorem atoi_code (s : ByteArray) (h8 : s.size = 8) (h : allDig s = true) : (s.extract 1 7).size ≤ 18 ∧ Lib.atoi (s.extract 1 7).data.toList = some (codeNum s) := by
 obtain ⟨⟨l⟩⟩ := s
 match l, h8, h with
 | [b0, b1, b2, b3, b4, b5, b6, b7], _, h =>
  have h' : (digB (b1.toNat : Int) && (digB (b2.toNat : Int) && (digB (b3.toNat : Int) && (digB (b4.toNat : Int) && (digB (b5.toNat : Int) && (digB (b6.toNat : Int) && true)))))) = true := h
  simp only [Bool.and_eq_true, and_true] at h'
  obtain ⟨h1, h2, h3, h4, h5, h6⟩ := h'
  have e : (ByteArray.extract ⟨⟨[b0, b1, b2, b3, b4, b5, b6, b7]⟩⟩ 1 7).data.toList = [b1, b2, b3, b4, b5, b6] := by
   rw [Lib.extract_data]
   simp
  refine ⟨by rw [Lib.size_eq, e]; simp, ?_⟩
  rw [e]
  obtain ⟨v1, g1, n1, m1⟩ := dig_val b1 h1
  obtain ⟨v2, g2, -, -⟩ := dig_val b2 h2
  obtain ⟨v3, g3, -, -⟩ := dig_val b3 h3
  obtain ⟨v4, g4, -, -⟩ := dig_val b4 h4
  obtain ⟨v5, g5, -, -⟩ := dig_val b5 h5
  obtain ⟨v6, g6, -, -⟩ := dig_val b6 h6
  have c : codeNum ⟨⟨[b0, b1, b2, b3, b4, b5, b6, b7]⟩⟩ = 100000 * ((b1.toNat : Int) - 48) + 10000 * ((b2.toNat : Int) - 48) + 1000 * ((b3.toNat : Int) - 48) + 100 * ((b4.toNat : Int) - 48) + 10 * ((b5.toNat : Int) - 48) + ((b6.toNat : Int) - 48) := rfl
  rw [c]
  simp only [Lib.atoi, beq_iff_eq, n1, m1, if_false, Lib.decNat, List.isEmpty_cons, Lib.decFrom, v1, v2, v3, v4, v5, v6, Bool.false_eq_true, Option.map_some, Option.some.injEq]
  omega
def splitRes (a0 : ByteArray) (t : Int) : Int × Int × Int :=
 if allDig a0 = true then (if t = bt a0 7 then (bt a0 0, codeNum a0, 0) else (0, 0, 16)) else (0, 0, 5)
def SplitPost (a0 : ByteArray) (t : Int) (w : World) (e : Ending) (w' : World) : Prop :=
 e = .returned (.tuple #[.int .u8 (splitRes a0 t).1, .int .i64 (splitRes a0 t).2.1, .int .i64 (splitRes a0 t).2.2]) ∧ Below w.heap.size w w'
theorem splitPost_of {a0 : ByteArray} {t : Int} {w w' : World} {e : Ending} (x y z : Int) (he : e = .returned (.tuple #[.int .u8 x, .int .i64 y, .int .i64 z])) (hr : splitRes a0 t = (x, y, z)) (hb : Below w.heap.size w w') : SplitPost a0 t w e w' := by
 unfold SplitPost
 rw [hr]
 exact ⟨he, hb⟩
set_option maxHeartbeats 2000000 in
set_option maxRecDepth 100000 in
theorem split_main (k : Nat) (a0 : ByteArray) (t : Int) (w : World) (h8 : a0.size = 8) (hc : capB (bt a0 0) = true) (hL : allDig a0 = true → ident_Letter.f k (a0.extract 0 7) = some t) :
  Calls Tryd.prog 62 #[.string a0] w (SplitPost a0 t w) := by
 have h : ((a0.size : Int) != 8) = false := by rw [h8]; rfl
 have HX0 := q_ (show ∀ h : 0 < a0.size, ((a0[0]'h).toNat : Int) = bt a0 0 from bt_at a0 0)
 have HX1 := q_ (show ∀ h : 1 < a0.size, ((a0[1]'h).toNat : Int) = bt a0 1 from bt_at a0 1)
 have HX2 := q_ (show ∀ h : 2 < a0.size, ((a0[2]'h).toNat : Int) = bt a0 2 from bt_at a0 2)
 have HX3 := q_ (show ∀ h : 3 < a0.size, ((a0[3]'h).toNat : Int) = bt a0 3 from bt_at a0 3)
 have HX4 := q_ (show ∀ h : 4 < a0.size, ((a0[4]'h).toNat : Int) = bt a0 4 from bt_at a0 4)
 have HX5 := q_ (show ∀ h : 5 < a0.size, ((a0[5]'h).toNat : Int) = bt a0 5 from bt_at a0 5)
 have HX6 := q_ (show ∀ h : 6 < a0.size, ((a0[6]'h).toNat : Int) = bt a0 6 from bt_at a0 6)
 have HX7 := q_ (show ∀ h : 7 < a0.size, ((a0[7]'h).toNat : Int) = bt a0 7 from bt_at a0 7)
 have hq0 : 0 < a0.size := by omega
 have hq1 : 1 < a0.size := by omega
 have hq2 : 2 < a0.size := by omega
 have hq3 : 3 < a0.size := by omega
 have hq4 : 4 < a0.size := by omega
 have hq5 : 5 < a0.size := by omega
 have hq6 : 6 < a0.size := by omega
 have hq7 : 7 < a0.size := by omega
 have hz1 : (1 : Int) < (a0.size : Int) := by omega
 have hz2 : (2 : Int) < (a0.size : Int) := by omega
 have hz3 : (3 : Int) < (a0.size : Int) := by omega
 have hz4 : (4 : Int) < (a0.size : Int) := by omega
 have hz5 : (5 : Int) < (a0.size : Int) := by omega
 have hz6 : (6 : Int) < (a0.size : Int) := by omega
 have hz7 : (7 : Int) < (a0.size : Int) := by omega
 have H8 := Aside0.mk h8
 have HC := Aside0.mk hc
 have HLL := Aside0.mk hL
 clear hc h8 hL
 have huF := Tryd.underlying117
 go_enter Tryd.func62, Tryd.ntmps62
 go_wp2_with (go_at_call 89; refine (form_calls _).mono ?_; rintro e w' ⟨rfl, rfl⟩)
 refine wp_loop_rounds 3 ?_
 rw [rounds_succ]
 go_wp2
 refine wp_loop_rounds 2 ?_
 rw [rounds_succ]
 go_wp2
 go_quiet ((go_at_call 98; (try simp only [HX0.out]); exact Calls.quiet_of (quiet_of_drawn (cap_calls _ _))))
 rw [HC.out]
 go_wp2
 rw [rounds_succ]
 go_wp2
 rw [rounds_succ]
 go_wp2
 generalize hW : World.drewN _ _ = W1
 have hc1 : W1.cell? ⟨w.heap.size + 1 + 1, 1, none⟩ = some (.int .i64 7) := by rw [← hW]; clear hW; go_simp
 have hc2 : W1.cell? ⟨w.heap.size + 1 + 1, 2, none⟩ = some (.func (.func 63) #[] #[]) := by rw [← hW]; clear hW; go_simp
 have hc3 : W1.cell? ⟨w.heap.size + 1 + 1, 3, none⟩ = some (.int .i64 5) := by rw [← hW]; clear hW; go_simp
 have hb1 : Below w.heap.size w W1 := by rw [← hW]; repeat (first | exact Below.refl _ _ | apply pA | apply pN)
 have HB1 := Aside0.mk hb1
 clear hW hb1
 refine wp_loop_rounds 7 ?_
 rw [rounds_succ]
 go_wp2
 go_quiet ((go_at_call 63; (try simp only [HX1.out]); exact Calls.quiet_of (quiet_of_drawn (dig_calls _ _))))
 cases hd1 : digB (bt a0 1)
 ·have HD := Aside0.mk hd1
  clear hd1
  go_wp2
  go_quiet (fail)
  go_wp2
  go_ret3
  exact splitPost_of 0 0 5 rfl (by unfold splitRes; rw [allDig_false a0 1 (by omega) (by omega) HD.out]; rfl) (by repeat (first | exact HB1.out | apply pA | apply pN | apply below_drew))
 have HD1 := Aside0.mk hd1
 clear hd1
 go_wp2
 generalize hW : World.drewN W1 _ = W2
 replace hc1 : W2.cell? ⟨w.heap.size + 1 + 1, 1, none⟩ = some (.int .i64 7) := by rw [← hW]; exact hc1
 replace hc2 : W2.cell? ⟨w.heap.size + 1 + 1, 2, none⟩ = some (.func (.func 63) #[] #[]) := by rw [← hW]; exact hc2
 replace hc3 : W2.cell? ⟨w.heap.size + 1 + 1, 3, none⟩ = some (.int .i64 5) := by rw [← hW]; exact hc3
 replace HB1 : Aside0 (Below w.heap.size w W2) := by rw [← hW]; exact q_ (pN HB1.out _)
 clear hW
 rw [rounds_succ]
 go_wp2
 go_quiet ((go_at_call 63; (try simp only [HX2.out]); exact Calls.quiet_of (quiet_of_drawn (dig_calls _ _))))
 cases hd2 : digB (bt a0 2)
 ·have HD := Aside0.mk hd2
  clear hd2
  go_wp2
  go_quiet (fail)
  go_wp2
  go_ret3
  exact splitPost_of 0 0 5 rfl (by unfold splitRes; rw [allDig_false a0 2 (by omega) (by omega) HD.out]; rfl) (by repeat (first | exact HB1.out | apply pA | apply pN | apply below_drew))
 have HD2 := Aside0.mk hd2
 clear hd2
 go_wp2
 generalize hW : World.drewN W2 _ = W3
 replace hc1 : W3.cell? ⟨w.heap.size + 1 + 1, 1, none⟩ = some (.int .i64 7) := by rw [← hW]; exact hc1
 replace hc2 : W3.cell? ⟨w.heap.size + 1 + 1, 2, none⟩ = some (.func (.func 63) #[] #[]) := by rw [← hW]; exact hc2
 replace hc3 : W3.cell? ⟨w.heap.size + 1 + 1, 3, none⟩ = some (.int .i64 5) := by rw [← hW]; exact hc3
 replace HB1 : Aside0 (Below w.heap.size w W3) := by rw [← hW]; exact q_ (pN HB1.out _)
 clear hW
 rw [rounds_succ]
 go_wp2
 go_quiet ((go_at_call 63; (try simp only [HX3.out]); exact Calls.quiet_of (quiet_of_drawn (dig_calls _ _))))
 cases hd3 : digB (bt a0 3)
 ·have HD := Aside0.mk hd3
  clear hd3
  go_wp2
  go_quiet (fail)
  go_wp2
  go_ret3
  exact splitPost_of 0 0 5 rfl (by unfold splitRes; rw [allDig_false a0 3 (by omega) (by omega) HD.out]; rfl) (by repeat (first | exact HB1.out | apply pA | apply pN | apply below_drew))
 have HD3 := Aside0.mk hd3
 clear hd3
 go_wp2
 generalize hW : World.drewN W3 _ = W4
 replace hc1 : W4.cell? ⟨w.heap.size + 1 + 1, 1, none⟩ = some (.int .i64 7) := by rw [← hW]; exact hc1
 replace hc2 : W4.cell? ⟨w.heap.size + 1 + 1, 2, none⟩ = some (.func (.func 63) #[] #[]) := by rw [← hW]; exact hc2
 replace hc3 : W4.cell? ⟨w.heap.size + 1 + 1, 3, none⟩ = some (.int .i64 5) := by rw [← hW]; exact hc3
 replace HB1 : Aside0 (Below w.heap.size w W4) := by rw [← hW]; exact q_ (pN HB1.out _)
 clear hW
 rw [rounds_succ]
 go_wp2
 go_quiet ((go_at_call 63; (try simp only [HX4.out]); exact Calls.quiet_of (quiet_of_drawn (dig_calls _ _))))
 cases hd4 : digB (bt a0 4)
 ·have HD := Aside0.mk hd4
  clear hd4
  go_wp2
  go_quiet (fail)
  go_wp2
  go_ret3
  exact splitPost_of 0 0 5 rfl (by unfold splitRes; rw [allDig_false a0 4 (by omega) (by omega) HD.out]; rfl) (by repeat (first | exact HB1.out | apply pA | apply pN | apply below_drew))
 have HD4 := Aside0.mk hd4
 clear hd4
 go_wp2
 generalize hW : World.drewN W4 _ = W5
 replace hc1 : W5.cell? ⟨w.heap.size + 1 + 1, 1, none⟩ = some (.int .i64 7) := by rw [← hW]; exact hc1
 replace hc2 : W5.cell? ⟨w.heap.size + 1 + 1, 2, none⟩ = some (.func (.func 63) #[] #[]) := by rw [← hW]; exact hc2
 replace hc3 : W5.cell? ⟨w.heap.size + 1 + 1, 3, none⟩ = some (.int .i64 5) := by rw [← hW]; exact hc3
 replace HB1 : Aside0 (Below w.heap.size w W5) := by rw [← hW]; exact q_ (pN HB1.out _)
 clear hW
 rw [rounds_succ]
 go_wp2
 go_quiet ((go_at_call 63; (try simp only [HX5.out]); exact Calls.quiet_of (quiet_of_drawn (dig_calls _ _))))
 cases hd5 : digB (bt a0 5)
 ·have HD := Aside0.mk hd5
  clear hd5
  go_wp2
  go_quiet (fail)
  go_wp2
  go_ret3
  exact splitPost_of 0 0 5 rfl (by unfold splitRes; rw [allDig_false a0 5 (by omega) (by omega) HD.out]; rfl) (by repeat (first | exact HB1.out | apply pA | apply pN | apply below_drew))
 have HD5 := Aside0.mk hd5
 clear hd5
 go_wp2
 generalize hW : World.drewN W5 _ = W6
 replace hc1 : W6.cell? ⟨w.heap.size + 1 + 1, 1, none⟩ = some (.int .i64 7) := by rw [← hW]; exact hc1
 replace hc2 : W6.cell? ⟨w.heap.size + 1 + 1, 2, none⟩ = some (.func (.func 63) #[] #[]) := by rw [← hW]; exact hc2
 replace hc3 : W6.cell? ⟨w.heap.size + 1 + 1, 3, none⟩ = some (.int .i64 5) := by rw [← hW]; exact hc3
 replace HB1 : Aside0 (Below w.heap.size w W6) := by rw [← hW]; exact q_ (pN HB1.out _)
 clear hW
 rw [rounds_succ]
 go_wp2
 go_quiet ((go_at_call 63; (try simp only [HX6.out]); exact Calls.quiet_of (quiet_of_drawn (dig_calls _ _))))
 cases hd6 : digB (bt a0 6)
 ·have HD := Aside0.mk hd6
  clear hd6
  go_wp2
  go_quiet (fail)
  go_wp2
  go_ret3
  exact splitPost_of 0 0 5 rfl (by unfold splitRes; rw [allDig_false a0 6 (by omega) (by omega) HD.out]; rfl) (by repeat (first | exact HB1.out | apply pA | apply pN | apply below_drew))
 have HD6 := Aside0.mk hd6
 clear hd6
 go_wp2
 generalize hW : World.drewN W6 _ = W7
 replace hc1 : W7.cell? ⟨w.heap.size + 1 + 1, 1, none⟩ = some (.int .i64 7) := by rw [← hW]; exact hc1
 replace hc2 : W7.cell? ⟨w.heap.size + 1 + 1, 2, none⟩ = some (.func (.func 63) #[] #[]) := by rw [← hW]; exact hc2
 replace hc3 : W7.cell? ⟨w.heap.size + 1 + 1, 3, none⟩ = some (.int .i64 5) := by rw [← hW]; exact hc3
 replace HB1 : Aside0 (Below w.heap.size w W7) := by rw [← hW]; exact q_ (pN HB1.out _)
 clear hW
 rw [rounds_succ]
 go_wp2
 rw [rounds_succ]
 go_wp2
 have hall : allDig a0 = true := by
  show (digB (bt a0 1) && (digB (bt a0 2) && (digB (bt a0 3) && (digB (bt a0 4) && (digB (bt a0 5) && (digB (bt a0 6) && true)))))) = true
  rw [HD1.out, HD2.out, HD3.out, HD4.out, HD5.out, HD6.out]
  rfl
 have HL := q_ (HLL.out hall)
 have HALL := Aside0.mk hall
 clear hall
 go_quiet ((go_at_call 90; exact Calls.quiet_of (quiet_of_drawn (ident_Letter.calls k _ t _ HL.out))))
 rw [HX7.out hq7]
 by_cases ht : t = bt a0 7
 ·have hb : (t != bt a0 7) = false := oD ht
  have HR := q_ (show splitRes a0 t = (bt a0 0, codeNum a0, 0) by unfold splitRes; rw [if_pos HALL.out, if_pos ht])
  have hle7 : (7 : Int) ≤ (a0.size : Int) := by omega
  have hle7n : 7 ≤ a0.size := by omega
  have HAT := q_ (atoi_code a0 H8.out HALL.out)
  clear ht
  rw [hb]
  clear hb
  go_wp2_with (go_at_call 91; refine (Tryd.strconv_Atoi _ _ HAT.out.1 HAT.out.2 _).mono ?_; rintro e w' ⟨rfl, ⟨tb, rfl⟩⟩)
  rw [HX0.out hq0]
  go_ret3
  exact splitPost_of _ _ _ rfl HR.out (bytes_below (by repeat (first | exact HB1.out | apply pA | apply pN | apply below_drew)) (pZ (by repeat (first | exact HB1.out | apply pA | apply pN | apply below_drew))) _ _)
 ·have hb : (t != bt a0 7) = true := bne_iff_ne.mpr ht
  have HR := q_ (show splitRes a0 t = (0, 0, 16) by unfold splitRes; rw [if_pos HALL.out, if_neg ht])
  clear ht
  rw [hb]
  clear hb
  go_wp2
  go_ret3
  exact splitPost_of _ _ _ rfl HR.out (by repeat (first | exact HB1.out | apply pA | apply pN | apply below_drew))
def ident_Split.f (k : Nat) (a0 : ByteArray) : Option (Int × Int × Int) :=
 if (a0.size : Int) = 8 then
  (if capB (bt a0 0) = true then (if allDig a0 = true then (ident_Letter.f k (a0.extract 0 7)).bind fun t => some (splitRes a0 t) else some (0, 0, 5)) else some (0, 0, 10))
 else some (0, 0, 3)
theorem ident_Split.calls (k : Nat) (a0 : ByteArray) (r1 r2 r3 : Int) (w : World) (h : ident_Split.f k a0 = some (r1, r2, r3)) :
  Calls Tryd.prog 62 #[.string a0] w fun e w' => e = .returned (.tuple #[.int .u8 r1, .int .i64 r2, .int .i64 r3]) ∧ Below w.heap.size w w' := by
 unfold ident_Split.f at h
 by_cases h8 : (a0.size : Int) = 8
 ·rw [if_pos h8] at h
  by_cases hc : capB (bt a0 0) = true
  ·rw [if_pos hc] at h
   by_cases hd : allDig a0 = true
   ·rw [if_pos hd] at h
    obtain ⟨t, ht, h⟩ := oB h
    have h := Option.some.inj h
    refine (split_main k a0 t w (by omega) hc (fun _ => ht)).mono ?_
    rintro e w' ⟨he, hb⟩
    rw [h] at he
    exact ⟨he, hb⟩
   ·rw [if_neg hd] at h
    have h := Option.some.inj h
    refine (split_main k a0 0 w (by omega) hc (fun hh => absurd hh hd)).mono ?_
    rintro e w' ⟨he, hb⟩
    have hr : splitRes a0 0 = (0, 0, 5) := by unfold splitRes; rw [if_neg hd]
    rw [hr, h] at he
    exact ⟨he, hb⟩
  ·rw [if_neg hc] at h
   have h := Option.some.inj h
   refine (split_nocap a0 w (by omega) (by simpa using hc)).mono ?_
   rintro e w' ⟨he, hb⟩
   simp only [Prod.mk.injEq] at h
   obtain ⟨rfl, rfl, rfl⟩ := h
   exact ⟨he, hb⟩
 ·rw [if_neg h8] at h
  have h := Option.some.inj h
  refine (split_short a0 w (bne_iff_ne.mpr h8)).mono ?_
  rintro e w' ⟨he, rfl⟩
  simp only [Prod.mk.injEq] at h
  obtain ⟨rfl, rfl, rfl⟩ := h
  exact ⟨he, Below.refl _ _⟩
def ident_Is.f (k : Nat) (a0 : ByteArray) (a1 : Int) : Option (Bool) := (ident_Split.f k a0).bind fun bt131 => (if bt131.2.2 = 0 then (some (bt131.1 == a1)) else (some false))
set_option maxHeartbeats 8000000 in
set_option maxRecDepth 100000 in
theorem ident_Is.calls (k : Nat) (a0 : ByteArray) (a1 : Int) (r : Bool) (w : World) (h : ident_Is.f k a0 a1 = some r) :
  Calls Tryd.prog 28 #[.string a0, .int .u8 a1] w fun e w' => e = .returned (.bool r) ∧ Below w.heap.size w w' := by
 have HB := q_ (Below.refl w.heap.size w)
 have H : ((ident_Split.f k a0).bind fun bt131 => (if bt131.2.2 = 0 then (some (bt131.1 == a1)) else (some false))) = some r := h
 clear h
 replace H := oB H
 obtain ⟨⟨t131, t132, t133⟩, A30, H⟩ := H
 replace H : (if t133 = 0 then (some (t131 == a1)) else (some false)) = some r := H
 have A3 := Aside0.mk A30
 clear A30
 by_cases c4 : t133 = 0
 ·rw [if_pos c4] at H
  have c4b0 : (t133 == 0) = true := beq_iff_eq.mpr c4
  have c4b1 : (t133 != 0) = false := oD c4
  clear c4
  obtain rfl := Option.some.inj H
  go_enter Tryd.func28, Tryd.ntmps28
  go_wp2_with (first | ((with_reducible refine gate_callee (f := 62) rfl ?_); refine goesL_ (some 10) rfl rfl Tryd.func62 (by kernel_rfl) rfl #[.string a0] rfl (by first | rfl | (simp only [List.map_toArray]; rfl)) ?_; (with_reducible refine (ident_Split.calls k a0 t131 t132 t133 _ A3.out).mono ?_); rintro e w5 ⟨rfl, hb⟩; refine ⟨_, rfl, ?_⟩; have n0_ := q_ (pT (by repeat (first | (with_reducible first | exact HB.out | apply pA | apply pN | apply pd_) | exact HB.out)) hb); clear HB; have HB := n0_; clear n0_; (try clear hb); (try clear hb2); (try clear hk); (try clear hi)))
  go_ret
  exact ⟨by first | rfl | (simp [*] <;> rfl), by repeat (first | (with_reducible first | exact HB.out | apply pA | apply pN | apply pd_) | exact HB.out)⟩
 ·rw [if_neg c4] at H
  have c4b0 : (t133 == 0) = false := oC c4
  have c4b1 : (t133 != 0) = true := bne_iff_ne.mpr c4
  obtain rfl := Option.some.inj H
  go_enter Tryd.func28, Tryd.ntmps28
  go_wp2_with (first | ((with_reducible refine gate_callee (f := 62) rfl ?_); refine goesL_ (some 10) rfl rfl Tryd.func62 (by kernel_rfl) rfl #[.string a0] rfl (by first | rfl | (simp only [List.map_toArray]; rfl)) ?_; (with_reducible refine (ident_Split.calls k a0 t131 t132 t133 _ A3.out).mono ?_); rintro e w6 ⟨rfl, hb⟩; refine ⟨_, rfl, ?_⟩; have n0_ := q_ (pT (by repeat (first | (with_reducible first | exact HB.out | apply pA | apply pN | apply pd_) | exact HB.out)) hb); clear HB; have HB := n0_; clear n0_; (try clear hb); (try clear hb2); (try clear hk); (try clear hi)))
  go_ret
  exact ⟨by first | rfl | (simp [*] <;> rfl), by repeat (first | (with_reducible first | exact HB.out | apply pA | apply pN | apply pd_) | exact HB.out)⟩
def slices_Index_int_int.l0 : Nat → List Int → Int → Int → Int → Option (Int)
 | 0, _, _, _, _ => none
 | k + 1, x0, x1, x7, x8 => if x8 < x7 then (if 0 ≤ x8 then (if x8 < (x0.length : Int) then (if x1 = (rd x0 x8) then (some x8) else (slices_Index_int_int.l0 k x0 x1 x7 (wrap64 (x8 + 1)))) else (none)) else (none)) else (some (-1))
def slices_Index_int_int.f (k : Nat) (l0 : List Int) (a1 : Int) : Option (Int) := slices_Index_int_int.l0 k l0 a1 (l0.length : Int) 0
set_option maxHeartbeats 8000000 in
set_option maxRecDepth 100000 in
theorem slices_Index_int_int.calls (k : Nat) (A0 : Option Addr) (c0 : Nat) (l0 : List Int) (a1 : Int) (r : Int) (w : World) (hr0 : Kd.C (Kd.int .i64) w A0 l0.length l0) (hc0 : l0.length ≤ c0) (h : slices_Index_int_int.f k l0 a1 = some r) :
  Calls Tryd.prog 64 #[.slice A0 l0.length c0, .int .i64 a1] w fun e w' => e = .returned (.int .i64 r) ∧ Drawn0 w w' := by
 have HR0 := Aside0.mk hr0
 have HC0 := Aside0.mk hc0
 clear hr0 hc0
 have H : (slices_Index_int_int.l0 k l0 a1 (l0.length : Int) 0) = some r := h
 clear h
 have H' := Aside0.mk H
 clear H
 go_enter Tryd.func64, Tryd.ntmps64
 go_wp2
 go_loopg [8] k (fun kq v8 w' => ∃ (x8_1 : Int), v8 = .int .i64 x8_1 ∧ Aside0 (slices_Index_int_int.l0 kq l0 a1 (l0.length : Int) x8_1 = some r) ∧ Aside0 (kq ≤ k) ∧ Drawn0 w w')
 case atStart => exact ⟨(0), (by first | rfl | (simp; done) | (simp [*]; done)), H', ⟨Nat.le_refl _⟩, by repeat (first | exact Drawn0.refl _ | apply Drawn0.step)⟩
 case round =>
  clear H'
  try clear p2
  obtain ⟨x8_1, rfl, HA, HK1, ⟨m1, rfl⟩⟩ := hrel
  cases gk with
  | zero => exact absurd HA.out (by simp [slices_Index_int_int.l0])
  | succ k1 =>
   have H := HA.out
   clear HA
   simp only [slices_Index_int_int.l0] at H
   by_cases c3 : x8_1 < (l0.length : Int)
   ·rw [if_pos c3] at H
    have c3b0 : decide (x8_1 < (l0.length : Int)) = true := decide_eq_true c3
    clear c3
    by_cases c4 : 0 ≤ x8_1
    ·rw [if_pos c4] at H
     have c4b0 : decide (0 ≤ x8_1) = true := decide_eq_true c4
     clear c4
     by_cases c5 : x8_1 < (l0.length : Int)
     ·rw [if_pos c5] at H
      have c5b0 : decide (x8_1 < (l0.length : Int)) = true := decide_eq_true c5
      clear c5
      by_cases c6 : a1 = (rd l0 x8_1)
      ·rw [if_pos c6] at H
       have c6b0 : (a1 == (rd l0 x8_1)) = true := beq_iff_eq.mpr c6
       have c6b1 : (a1 != (rd l0 x8_1)) = false := oD c6
       clear c6
       obtain rfl := Option.some.inj H
       have p134 : 0 ≤ (x8_1 : Int) := of_decide_eq_true (by first | (with_reducible assumption) | assumption)
       have q134 : x8_1 < (l0.length : Int) := of_decide_eq_true (by first | (with_reducible assumption) | assumption)
       obtain ⟨ad134, e134, hx134_0⟩ := Kd.at_int HR0.out x8_1 p134 q134
       cases e134
       replace p134 := eq_true p134
       replace q134 := eq_true q134
       go_wp2
       go_ret
       exact ⟨by first | rfl | (simp; done) | (simp [*]; done), by repeat (first | exact Drawn0.refl _ | apply Drawn0.step)⟩
      ·rw [if_neg c6] at H
       have c6b0 : (a1 == (rd l0 x8_1)) = false := oC c6
       have c6b1 : (a1 != (rd l0 x8_1)) = true := bne_iff_ne.mpr c6
       have H' := Aside0.mk H
       clear H
       have p134 : 0 ≤ (x8_1 : Int) := of_decide_eq_true (by first | (with_reducible assumption) | assumption)
       have q134 : x8_1 < (l0.length : Int) := of_decide_eq_true (by first | (with_reducible assumption) | assumption)
       obtain ⟨ad134, e134, hx134_0⟩ := Kd.at_int HR0.out x8_1 p134 q134
       cases e134
       replace p134 := eq_true p134
       replace q134 := eq_true q134
       go_wp2
       go_roundg k1
       case measure => have := HK1.out; omega
       case rel => exact ⟨(wrap64 (x8_1 + 1)), (by first | rfl | (simp; done) | (simp [*]; done)), H', ⟨by have := HK1.out; omega⟩, by repeat (first | exact Drawn0.refl _ | apply Drawn0.step)⟩
     ·rw [if_neg c5] at H
      exact absurd H (by simp)
    ·rw [if_neg c4] at H
     exact absurd H (by simp)
   ·rw [if_neg c3] at H
    have c3b0 : decide (x8_1 < (l0.length : Int)) = false := decide_eq_false c3
    clear c3
    obtain rfl := Option.some.inj H
    go_wp2
    go_ret
    exact ⟨by first | rfl | (simp; done) | (simp [*]; done), by repeat (first | exact Drawn0.refl _ | apply Drawn0.step)⟩
def slices_Contains_int_int.f (k : Nat) (l0 : List Int) (a1 : Int) : Option (Bool) := (slices_Index_int_int.f k l0 a1).bind fun t135 => (some (decide (t135 ≥ 0)))
set_option maxHeartbeats 8000000 in
set_option maxRecDepth 100000 in
theorem slices_Contains_int_int.calls (k : Nat) (A0 : Option Addr) (c0 : Nat) (l0 : List Int) (a1 : Int) (r : Bool) (w : World) (hr0 : Kd.C (Kd.int .i64) w A0 l0.length l0) (hc0 : l0.length ≤ c0) (h : slices_Contains_int_int.f k l0 a1 = some r) :
  Calls Tryd.prog 30 #[.slice A0 l0.length c0, .int .i64 a1] w fun e w' => e = .returned (.bool r) ∧ Drawn0 w w' := by
 have HR0 := Aside0.mk hr0
 have HC0 := Aside0.mk hc0
 clear hr0 hc0
 have H : ((slices_Index_int_int.f k l0 a1).bind fun t135 => (some (decide (t135 ≥ 0)))) = some r := h
 clear h
 replace H := oB H
 obtain ⟨t135, A30, H⟩ := H
 replace H : (some (decide (t135 ≥ 0))) = some r := H
 have A3 := Aside0.mk A30
 clear A30
 obtain rfl := Option.some.inj H
 go_enter Tryd.func30, Tryd.ntmps30
 go_wp2_with (first | ((with_reducible refine gate_callee (f := 64) rfl ?_); refine goesL_ (some 7) rfl rfl Tryd.func64 (by kernel_rfl) rfl #[.slice A0 l0.length c0, .int .i64 a1] rfl (by first | rfl | (simp only [List.map_toArray]; rfl)) ?_; (with_reducible refine (slices_Index_int_int.calls k _ _ l0 a1 t135 _ ?side1 ?side2 A3.out).mono ?_); (case side1 => repeat (first | exact HR0.out | (with_reducible refine Kd.C_alloc ?_ _) | (with_reducible refine Kd.C_drewN ?_ _) | (with_reducible refine Kd.C_drew ?_))); (case side2 => exact HC0.out); rintro e w' ⟨rfl, ⟨nd, rfl⟩⟩; refine ⟨_, rfl, ?_⟩))
 go_ret
 exact ⟨by first | rfl | (simp; done) | (simp [*]; done), by repeat (first | exact Drawn0.refl _ | apply Drawn0.step)⟩
def order_sound.f (a0_0 : ByteArray) (a0_1 : ByteArray) (a0_2 : Int) (a0_3 : Int) (a0_4 : Int) (a0_5 : Int) (a0_6 : Int) (a0_7 : Int) (a0_8 : Int) (a0_9 : Int) (a0_10 : Int) : Option (Bool) := if a0_6 < 1 then (some false) else (if a0_6 > 200 then (some false) else (if a0_7 ≥ 0 then (if a0_7 < a0_6 then (if a0_8 ≥ 0 then (some (decide (a0_8 ≤ (wrap64 (200 - a0_6))))) else (some false)) else (some false)) else (some false)))
set_option maxHeartbeats 8000000 in
set_option maxRecDepth 100000 in
theorem order_sound.calls (a0_0 : ByteArray) (a0_1 : ByteArray) (a0_2 : Int) (a0_3 : Int) (a0_4 : Int) (a0_5 : Int) (a0_6 : Int) (a0_7 : Int) (a0_8 : Int) (a0_9 : Int) (a0_10 : Int) (r : Bool) (w : World) (h : order_sound.f a0_0 a0_1 a0_2 a0_3 a0_4 a0_5 a0_6 a0_7 a0_8 a0_9 a0_10 = some r) :
  Calls Tryd.prog 31 #[.agg #[.string a0_0, .string a0_1, .int .i64 a0_2, .int .i64 a0_3, .int .i64 a0_4, .int .i64 a0_5, .int .i64 a0_6, .int .i64 a0_7, .int .i64 a0_8, .int .i64 a0_9, .int .i64 a0_10]] w fun e w' => e = .returned (.bool r) ∧ Below w.heap.size w w' := by
 have hu23 := Tryd.underlying23
 have HB := q_ (Below.refl w.heap.size w)
 have H : (if a0_6 < 1 then (some false) else (if a0_6 > 200 then (some false) else (if a0_7 ≥ 0 then (if a0_7 < a0_6 then (if a0_8 ≥ 0 then (some (decide (a0_8 ≤ (wrap64 (200 - a0_6))))) else (some false)) else (some false)) else (some false)))) = some r := h
 clear h
 by_cases c2 : a0_6 < 1
 ·rw [if_pos c2] at H
  have c2b0 : decide (a0_6 < 1) = true := decide_eq_true c2
  clear c2
  obtain rfl := Option.some.inj H
  go_enter Tryd.func31, Tryd.ntmps31
  go_wp2_with (first | (refine wpList_load_cells (by rfl) 23 _ (by exact rfl) ⟨gb136, 0, none⟩ (by rfl) _ _ (cells_of_blk (by (with_reducible repeat (first | refine bN ?_ _ | refine bW ?_ | refine bA ?_ _)); exact BK136.out)) Tryd.underlying23 rfl (by kernel_rfl) ?_) | ((with_reducible refine gate_dst (N := 1) rfl ?_); refine box_event ?hg (N := 1) ?hd (cs := #[.string a0_0, .string a0_1, .int .i64 a0_2, .int .i64 a0_3, .int .i64 a0_4, .int .i64 a0_5, .int .i64 a0_6, .int .i64 a0_7, .int .i64 a0_8, .int .i64 a0_9, .int .i64 a0_10]) (t := 23) ?hr ?_; (case hd => rfl); (case hg => rfl); (case hr => first | (go_simp; done) | (go_simp; rfl)); intro gb136 hg w3 hbox hb; have n0_ := q_ (pT (by repeat (first | (with_reducible first | exact HB.out | apply pA | apply pN | apply pd_) | exact HB.out)) hb); have n1_ := q_ (hbox); have n2_ := q_ ((by rw [hg]; exact (pZ (by repeat (first | (with_reducible first | exact HB.out | apply pA | apply pN | apply pd_) | exact HB.out))) : w.heap.size ≤ gb136)); have n3_ := n2_; clear HB; have HB := n0_; have BK136 := n1_; have GW136 := n2_; have GE136 := n3_; clear n0_ n1_ n2_ n3_; clear hb hbox hg; have hcz4 := blk_all BK136.out; simp only [CellsAt, List.toList_toArray, Nat.reduceAdd, and_true] at hcz4; have hfz4 := bF BK136.out))
  go_ret
  exact ⟨by first | rfl | (simp [*] <;> rfl), by repeat (first | (with_reducible first | exact HB.out | apply pA | apply pN | apply pd_ | refine pS ?_ GE136.out) | exact HB.out)⟩
 ·rw [if_neg c2] at H
  have c2b0 : decide (a0_6 < 1) = false := decide_eq_false c2
  clear c2
  by_cases c5 : a0_6 > 200
  ·rw [if_pos c5] at H
   have c5b0 : decide (200 < a0_6) = true := decide_eq_true c5
   clear c5
   obtain rfl := Option.some.inj H
   go_enter Tryd.func31, Tryd.ntmps31
   go_wp2_with (first | (refine wpList_load_cells (by rfl) 23 _ (by exact rfl) ⟨gb136, 0, none⟩ (by rfl) _ _ (cells_of_blk (by (with_reducible repeat (first | refine bN ?_ _ | refine bW ?_ | refine bA ?_ _)); exact BK136.out)) Tryd.underlying23 rfl (by kernel_rfl) ?_) | ((with_reducible refine gate_dst (N := 1) rfl ?_); refine box_event ?hg (N := 1) ?hd (cs := #[.string a0_0, .string a0_1, .int .i64 a0_2, .int .i64 a0_3, .int .i64 a0_4, .int .i64 a0_5, .int .i64 a0_6, .int .i64 a0_7, .int .i64 a0_8, .int .i64 a0_9, .int .i64 a0_10]) (t := 23) ?hr ?_; (case hd => rfl); (case hg => rfl); (case hr => first | (go_simp; done) | (go_simp; rfl)); intro gb136 hg w6 hbox hb; have n0_ := q_ (pT (by repeat (first | (with_reducible first | exact HB.out | apply pA | apply pN | apply pd_) | exact HB.out)) hb); have n1_ := q_ (hbox); have n2_ := q_ ((by rw [hg]; exact (pZ (by repeat (first | (with_reducible first | exact HB.out | apply pA | apply pN | apply pd_) | exact HB.out))) : w.heap.size ≤ gb136)); have n3_ := n2_; clear HB; have HB := n0_; have BK136 := n1_; have GW136 := n2_; have GE136 := n3_; clear n0_ n1_ n2_ n3_; clear hb hbox hg; have hcz7 := blk_all BK136.out; simp only [CellsAt, List.toList_toArray, Nat.reduceAdd, and_true] at hcz7; have hfz7 := bF BK136.out))
   go_ret
   exact ⟨by first | rfl | (simp [*] <;> rfl), by repeat (first | (with_reducible first | exact HB.out | apply pA | apply pN | apply pd_ | refine pS ?_ GE136.out) | exact HB.out)⟩
  ·rw [if_neg c5] at H
   have c5b0 : decide (200 < a0_6) = false := decide_eq_false c5
   clear c5
   by_cases c8 : a0_7 ≥ 0
   ·rw [if_pos c8] at H
    have c8b0 : decide (0 ≤ a0_7) = true := decide_eq_true c8
    clear c8
    by_cases c9 : a0_7 < a0_6
    ·rw [if_pos c9] at H
     have c9b0 : decide (a0_7 < a0_6) = true := decide_eq_true c9
     clear c9
     by_cases c10 : a0_8 ≥ 0
     ·rw [if_pos c10] at H
      have c10b0 : decide (0 ≤ a0_8) = true := decide_eq_true c10
      clear c10
      obtain rfl := Option.some.inj H
      go_enter Tryd.func31, Tryd.ntmps31
      go_wp2_with (first | (refine wpList_load_cells (by rfl) 23 _ (by exact rfl) ⟨gb136, 0, none⟩ (by rfl) _ _ (cells_of_blk (by (with_reducible repeat (first | refine bN ?_ _ | refine bW ?_ | refine bA ?_ _)); exact BK136.out)) Tryd.underlying23 rfl (by kernel_rfl) ?_) | ((with_reducible refine gate_dst (N := 1) rfl ?_); refine box_event ?hg (N := 1) ?hd (cs := #[.string a0_0, .string a0_1, .int .i64 a0_2, .int .i64 a0_3, .int .i64 a0_4, .int .i64 a0_5, .int .i64 a0_6, .int .i64 a0_7, .int .i64 a0_8, .int .i64 a0_9, .int .i64 a0_10]) (t := 23) ?hr ?_; (case hd => rfl); (case hg => rfl); (case hr => first | (go_simp; done) | (go_simp; rfl)); intro gb136 hg w11 hbox hb; have n0_ := q_ (pT (by repeat (first | (with_reducible first | exact HB.out | apply pA | apply pN | apply pd_) | exact HB.out)) hb); have n1_ := q_ (hbox); have n2_ := q_ ((by rw [hg]; exact (pZ (by repeat (first | (with_reducible first | exact HB.out | apply pA | apply pN | apply pd_) | exact HB.out))) : w.heap.size ≤ gb136)); have n3_ := n2_; clear HB; have HB := n0_; have BK136 := n1_; have GW136 := n2_; have GE136 := n3_; clear n0_ n1_ n2_ n3_; clear hb hbox hg; have hcz12 := blk_all BK136.out; simp only [CellsAt, List.toList_toArray, Nat.reduceAdd, and_true] at hcz12; have hfz12 := bF BK136.out))
      go_ret
      exact ⟨by first | rfl | (simp [*] <;> rfl), by repeat (first | (with_reducible first | exact HB.out | apply pA | apply pN | apply pd_ | refine pS ?_ GE136.out) | exact HB.out)⟩
     ·rw [if_neg c10] at H
      have c10b0 : decide (0 ≤ a0_8) = false := decide_eq_false c10
      clear c10
      obtain rfl := Option.some.inj H
      go_enter Tryd.func31, Tryd.ntmps31
      go_wp2_with (first | (refine wpList_load_cells (by rfl) 23 _ (by exact rfl) ⟨gb136, 0, none⟩ (by rfl) _ _ (cells_of_blk (by (with_reducible repeat (first | refine bN ?_ _ | refine bW ?_ | refine bA ?_ _)); exact BK136.out)) Tryd.underlying23 rfl (by kernel_rfl) ?_) | ((with_reducible refine gate_dst (N := 1) rfl ?_); refine box_event ?hg (N := 1) ?hd (cs := #[.string a0_0, .string a0_1, .int .i64 a0_2, .int .i64 a0_3, .int .i64 a0_4, .int .i64 a0_5, .int .i64 a0_6, .int .i64 a0_7, .int .i64 a0_8, .int .i64 a0_9, .int .i64 a0_10]) (t := 23) ?hr ?_; (case hd => rfl); (case hg => rfl); (case hr => first | (go_simp; done) | (go_simp; rfl)); intro gb136 hg w13 hbox hb; have n0_ := q_ (pT (by repeat (first | (with_reducible first | exact HB.out | apply pA | apply pN | apply pd_) | exact HB.out)) hb); have n1_ := q_ (hbox); have n2_ := q_ ((by rw [hg]; exact (pZ (by repeat (first | (with_reducible first | exact HB.out | apply pA | apply pN | apply pd_) | exact HB.out))) : w.heap.size ≤ gb136)); have n3_ := n2_; clear HB; have HB := n0_; have BK136 := n1_; have GW136 := n2_; have GE136 := n3_; clear n0_ n1_ n2_ n3_; clear hb hbox hg; have hcz14 := blk_all BK136.out; simp only [CellsAt, List.toList_toArray, Nat.reduceAdd, and_true] at hcz14; have hfz14 := bF BK136.out))
      go_ret
      exact ⟨by first | rfl | (simp [*] <;> rfl), by repeat (first | (with_reducible first | exact HB.out | apply pA | apply pN | apply pd_ | refine pS ?_ GE136.out) | exact HB.out)⟩
    ·rw [if_neg c9] at H
     have c9b0 : decide (a0_7 < a0_6) = false := decide_eq_false c9
     clear c9
     obtain rfl := Option.some.inj H
     go_enter Tryd.func31, Tryd.ntmps31
     go_wp2_with (first | (refine wpList_load_cells (by rfl) 23 _ (by exact rfl) ⟨gb136, 0, none⟩ (by rfl) _ _ (cells_of_blk (by (with_reducible repeat (first | refine bN ?_ _ | refine bW ?_ | refine bA ?_ _)); exact BK136.out)) Tryd.underlying23 rfl (by kernel_rfl) ?_) | ((with_reducible refine gate_dst (N := 1) rfl ?_); refine box_event ?hg (N := 1) ?hd (cs := #[.string a0_0, .string a0_1, .int .i64 a0_2, .int .i64 a0_3, .int .i64 a0_4, .int .i64 a0_5, .int .i64 a0_6, .int .i64 a0_7, .int .i64 a0_8, .int .i64 a0_9, .int .i64 a0_10]) (t := 23) ?hr ?_; (case hd => rfl); (case hg => rfl); (case hr => first | (go_simp; done) | (go_simp; rfl)); intro gb136 hg w15 hbox hb; have n0_ := q_ (pT (by repeat (first | (with_reducible first | exact HB.out | apply pA | apply pN | apply pd_) | exact HB.out)) hb); have n1_ := q_ (hbox); have n2_ := q_ ((by rw [hg]; exact (pZ (by repeat (first | (with_reducible first | exact HB.out | apply pA | apply pN | apply pd_) | exact HB.out))) : w.heap.size ≤ gb136)); have n3_ := n2_; clear HB; have HB := n0_; have BK136 := n1_; have GW136 := n2_; have GE136 := n3_; clear n0_ n1_ n2_ n3_; clear hb hbox hg; have hcz16 := blk_all BK136.out; simp only [CellsAt, List.toList_toArray, Nat.reduceAdd, and_true] at hcz16; have hfz16 := bF BK136.out))
     go_ret
     exact ⟨by first | rfl | (simp [*] <;> rfl), by repeat (first | (with_reducible first | exact HB.out | apply pA | apply pN | apply pd_ | refine pS ?_ GE136.out) | exact HB.out)⟩
   ·rw [if_neg c8] at H
    have c8b0 : decide (0 ≤ a0_7) = false := decide_eq_false c8
    clear c8
    obtain rfl := Option.some.inj H
    go_enter Tryd.func31, Tryd.ntmps31
    go_wp2_with (first | (refine wpList_load_cells (by rfl) 23 _ (by exact rfl) ⟨gb136, 0, none⟩ (by rfl) _ _ (cells_of_blk (by (with_reducible repeat (first | refine bN ?_ _ | refine bW ?_ | refine bA ?_ _)); exact BK136.out)) Tryd.underlying23 rfl (by kernel_rfl) ?_) | ((with_reducible refine gate_dst (N := 1) rfl ?_); refine box_event ?hg (N := 1) ?hd (cs := #[.string a0_0, .string a0_1, .int .i64 a0_2, .int .i64 a0_3, .int .i64 a0_4, .int .i64 a0_5, .int .i64 a0_6, .int .i64 a0_7, .int .i64 a0_8, .int .i64 a0_9, .int .i64 a0_10]) (t := 23) ?hr ?_; (case hd => rfl); (case hg => rfl); (case hr => first | (go_simp; done) | (go_simp; rfl)); intro gb136 hg w17 hbox hb; have n0_ := q_ (pT (by repeat (first | (with_reducible first | exact HB.out | apply pA | apply pN | apply pd_) | exact HB.out)) hb); have n1_ := q_ (hbox); have n2_ := q_ ((by rw [hg]; exact (pZ (by repeat (first | (with_reducible first | exact HB.out | apply pA | apply pN | apply pd_) | exact HB.out))) : w.heap.size ≤ gb136)); have n3_ := n2_; clear HB; have HB := n0_; have BK136 := n1_; have GW136 := n2_; have GE136 := n3_; clear n0_ n1_ n2_ n3_; clear hb hbox hg; have hcz18 := blk_all BK136.out; simp only [CellsAt, List.toList_toArray, Nat.reduceAdd, and_true] at hcz18; have hfz18 := bF BK136.out))
    go_ret
    exact ⟨by first | rfl | (simp [*] <;> rfl), by repeat (first | (with_reducible first | exact HB.out | apply pA | apply pN | apply pd_ | refine pS ?_ GE136.out) | exact HB.out)⟩
end Go.Proofs.YtblmgmhjlbkncaaDoor.PA
namespace Go.Proofs.YtblmgmhjlbkncaaDoor.PA
open Go.RowKit Go.Proofs.YtblmgmhjlbkncaaDoorW.PrintWords Go.Proofs.YtblmgmhjlbkncaaDoorW.PrintLast Go.Proofs.YtblmgmhjlbkncaaDoorW.PrintMore
attribute [local go_sem] max2_int min2_int max_two min_two max_three min_three max_four min_four
set_option linter.unusedVariables false
set_option linter.unusedSimpArgs false
def board_size.f (a0_0 : Int) (a0_1 : Int) : Option (Int) := some (wrap64 (a0_1 - a0_0))
set_option maxHeartbeats 8000000 in
set_option maxRecDepth 100000 in
theorem board_size.calls (a0_0 : Int) (a0_1 : Int) (r : Int) (w : World) (h : board_size.f a0_0 a0_1 = some r) :
  Calls Tryd.prog 69 #[.agg #[.int .i64 a0_0, .int .i64 a0_1]] w fun e w' => e = .returned (.int .i64 r) ∧ Below w.heap.size w w' := by
 have hu31 := Tryd.underlying31
 have HB := q_ (Below.refl w.heap.size w)
 have H : (some (wrap64 (a0_1 - a0_0))) = some r := h
 clear h
 obtain rfl := Option.some.inj H
 go_enter Tryd.func69, Tryd.ntmps69
 go_wp2_with (first | ((with_reducible refine gate_dst (N := 1) rfl ?_); refine box_event ?hg (N := 1) ?hd (cs := #[.int .i64 a0_0, .int .i64 a0_1]) (t := 31) ?hr ?_; (case hd => rfl); (case hg => rfl); (case hr => first | (go_simp; done) | (go_simp; rfl)); intro gb144 hg w2 hbox hb; have n0_ := q_ (pT (by repeat (first | (with_reducible first | exact HB.out | apply pA | apply pN | apply pd_) | exact HB.out)) hb); have n1_ := q_ (hbox); have n2_ := q_ ((by rw [hg]; exact (pZ (by repeat (first | (with_reducible first | exact HB.out | apply pA | apply pN | apply pd_) | exact HB.out))) : w.heap.size ≤ gb144)); have n3_ := n2_; clear HB; have HB := n0_; have BK144 := n1_; have GW144 := n2_; have GE144 := n3_; clear n0_ n1_ n2_ n3_; clear hb hbox hg; have hcz3_0 : w2.cell? ⟨gb144, 0, none⟩ = some (.int .i64 a0_0) := (bC BK144.out 0).trans rfl; have hcz3_1 : w2.cell? ⟨gb144, 1, none⟩ = some (.int .i64 a0_1) := (bC BK144.out 1).trans rfl; have hfz3_0 := bF BK144.out 0; have hfz3_1 := bF BK144.out 1))
 go_ret
 exact ⟨by first | rfl | (simp [*] <;> rfl), by repeat (first | (with_reducible first | exact HB.out | apply pA | apply pN | apply pd_ | refine pS ?_ GE144.out) | exact HB.out)⟩
def board_Length.f (a0_0 : ByteArray) (a0_1 : ByteArray) (a0_2 : ByteArray) (a0_3 : Int) (a0_4 : Int) (a0_5 : Int) (a0_6 : Int) (a0_7 : Int) (a0_8 : Int) (a0_9 : Int) (a0_10 : Int) (l0_11 : List (S176)) (a0_12 : Int) (a0_13 : Int) (a0_14 : Int) (a0_15 : Int) (a0_16 : Bool) (a0_17 : Int) : Option (Int) := if a0_8 < 0 then (some 0) else (if a0_8 ≥ a0_9 then (some 0) else (if a0_9 > 20000 then (some 0) else ((board_size.f a0_8 a0_9).bind fun t147 => (some t147))))
set_option maxHeartbeats 8000000 in
set_option maxRecDepth 100000 in
theorem board_Length.calls (a0_0 : ByteArray) (a0_1 : ByteArray) (a0_2 : ByteArray) (a0_3 : Int) (a0_4 : Int) (a0_5 : Int) (a0_6 : Int) (a0_7 : Int) (a0_8 : Int) (a0_9 : Int) (a0_10 : Int) (A0_11 : Option Addr) (c0_11 : Nat) (l0_11 : List (S176)) (a0_12 : Int) (a0_13 : Int) (a0_14 : Int) (a0_15 : Int) (a0_16 : Bool) (a0_17 : Int) (r : Int) (w : World) (hr0_11 : Kd.C k176 w A0_11 l0_11.length l0_11) (hc0_11 : l0_11.length ≤ c0_11) (h : board_Length.f a0_0 a0_1 a0_2 a0_3 a0_4 a0_5 a0_6 a0_7 a0_8 a0_9 a0_10 l0_11 a0_12 a0_13 a0_14 a0_15 a0_16 a0_17 = some r) :
  Calls Tryd.prog 37 #[.agg #[.string a0_0, .string a0_1, .string a0_2, .int .i64 a0_3, .int .i64 a0_4, .int .i64 a0_5, .int .i64 a0_6, .int .i64 a0_7, .int .i64 a0_8, .int .i64 a0_9, .int .i64 a0_10, .slice A0_11 l0_11.length c0_11, .int .i64 a0_12, .int .i64 a0_13, .int .i64 a0_14, .int .i64 a0_15, .bool a0_16, .int .i64 a0_17]] w fun e w' => e = .returned (.int .i64 r) ∧ Below w.heap.size w w' := by
 have hu38 := Tryd.underlying38
 have hu31 := Tryd.underlying31
 have HR0_11 := Aside0.mk hr0_11
 have HC0_11 := Aside0.mk hc0_11
 clear hr0_11 hc0_11
 have HB := q_ (Below.refl w.heap.size w)
 have H : (if a0_8 < 0 then (some 0) else (if a0_8 ≥ a0_9 then (some 0) else (if a0_9 > 20000 then (some 0) else ((board_size.f a0_8 a0_9).bind fun t147 => (some t147))))) = some r := h
 clear h
 by_cases c2 : a0_8 < 0
 ·rw [if_pos c2] at H
  have c2b0 : decide (a0_8 < 0) = true := decide_eq_true c2
  clear c2
  obtain rfl := Option.some.inj H
  go_enter Tryd.func37, Tryd.ntmps37
  go_wp2_with (first | (refine wpList_load_cells (by rfl) 38 _ (by exact rfl) ⟨gb145, 0, none⟩ (by rfl) _ _ (cells_of_blk (by (with_reducible repeat (first | refine bN ?_ _ | refine bW ?_ | refine bA ?_ _)); exact BK145.out)) Tryd.underlying38 rfl (by kernel_rfl) ?_) | ((with_reducible refine gate_dst (N := 1) rfl ?_); refine box_event ?hg (N := 1) ?hd (cs := #[.string a0_0, .string a0_1, .string a0_2, .int .i64 a0_3, .int .i64 a0_4, .int .i64 a0_5, .int .i64 a0_6, .int .i64 a0_7, .int .i64 a0_8, .int .i64 a0_9, .int .i64 a0_10, .slice A0_11 l0_11.length c0_11, .int .i64 a0_12, .int .i64 a0_13, .int .i64 a0_14, .int .i64 a0_15, .bool a0_16, .int .i64 a0_17]) (t := 38) ?hr ?_; (case hd => rfl); (case hg => rfl); (case hr => first | (go_simp; done) | (go_simp; rfl)); intro gb145 hg w3 hbox hb; have n0_ := q_ (pT (by repeat (first | (with_reducible first | exact HB.out | apply pA | apply pN | apply pd_) | exact HB.out)) hb); have n1_ := q_ (hbox); have n2_ := q_ ((by rw [hg]; exact (pZ (by repeat (first | (with_reducible first | exact HB.out | apply pA | apply pN | apply pd_) | exact HB.out))) : w.heap.size ≤ gb145)); have n3_ := n2_; clear HB; have HB := n0_; have BK145 := n1_; have GW145 := n2_; have GE145 := n3_; clear n0_ n1_ n2_ n3_; clear hb hbox hg; have hcz4 := blk_all BK145.out; simp only [CellsAt, List.toList_toArray, Nat.reduceAdd, and_true] at hcz4; have hfz4 := bF BK145.out) | ((with_reducible refine gate_dst (N := 3) rfl ?_); refine box_event ?hg (N := 3) ?hd (cs := #[.int .i64 0, .int .i64 0]) (t := 31) ?hr ?_; (case hd => rfl); (case hg => rfl); (case hr => first | (go_simp; done) | (go_simp; rfl)); intro gb146 hg w5 hbox hb; have n0_ := q_ (bB (g := gb145) (by (with_reducible repeat (first | refine bN ?_ _ | refine bW ?_ | refine bA ?_ _)); exact BK145.out) hb); have n1_ := q_ (pT (by repeat (first | (with_reducible first | exact HB.out | apply pA | apply pN | apply pd_ | refine pS ?_ GE145.out) | exact HB.out)) hb); have n2_ := q_ (hbox); have n3_ := q_ ((by rw [hg]; exact (pZ (by repeat (first | (with_reducible first | exact HB.out | apply pA | apply pN | apply pd_ | refine pS ?_ GE145.out) | exact HB.out))) : w.heap.size ≤ gb146)); have n4_ := n3_; have n5_ := q_ ((by rw [hg]; exact Nat.ne_of_lt (blk_lt (g := gb145) (by (with_reducible repeat (first | refine bN ?_ _ | refine bW ?_ | refine bA ?_ _)); exact BK145.out)) : gb145 ≠ gb146)); have n6_ := q_ ((by rw [hg]; exact Nat.ne_of_gt (blk_lt (g := gb145) (by (with_reducible repeat (first | refine bN ?_ _ | refine bW ?_ | refine bA ?_ _)); exact BK145.out)) : gb146 ≠ gb145)); clear BK145; clear HB; have BK145 := n0_; have HB := n1_; have BK146 := n2_; have GW146 := n3_; have GE146 := n4_; have NB145_146 := n5_; have NB146_145 := n6_; clear n0_ n1_ n2_ n3_ n4_ n5_ n6_; clear hb hbox hg; have hnb6 := NB146_145.out; have hnc6 := NB145_146.out; have hcz7_0 : w5.cell? ⟨gb146, 0, none⟩ = some (.int .i64 0) := (bC BK146.out 0).trans rfl; have hcz7_1 : w5.cell? ⟨gb146, 1, none⟩ = some (.int .i64 0) := (bC BK146.out 1).trans rfl; have hfz7_0 := bF BK146.out 0; have hfz7_1 := bF BK146.out 1))
  go_ret
  exact ⟨by first | rfl | (simp [*] <;> rfl), by repeat (first | (with_reducible first | exact HB.out | apply pA | apply pN | apply pd_ | refine pS ?_ GE145.out | refine pS ?_ GE146.out) | exact HB.out)⟩
 ·rw [if_neg c2] at H
  have c2b0 : decide (a0_8 < 0) = false := decide_eq_false c2
  clear c2
  by_cases c8 : a0_8 ≥ a0_9
  ·rw [if_pos c8] at H
   have c8b0 : decide (a0_9 ≤ a0_8) = true := decide_eq_true c8
   clear c8
   obtain rfl := Option.some.inj H
   go_enter Tryd.func37, Tryd.ntmps37
   go_wp2_with (first | (refine wpList_load_cells (by rfl) 38 _ (by exact rfl) ⟨gb145, 0, none⟩ (by rfl) _ _ (cells_of_blk (by (with_reducible repeat (first | refine bN ?_ _ | refine bW ?_ | refine bA ?_ _)); exact BK145.out)) Tryd.underlying38 rfl (by kernel_rfl) ?_) | ((with_reducible refine gate_dst (N := 1) rfl ?_); refine box_event ?hg (N := 1) ?hd (cs := #[.string a0_0, .string a0_1, .string a0_2, .int .i64 a0_3, .int .i64 a0_4, .int .i64 a0_5, .int .i64 a0_6, .int .i64 a0_7, .int .i64 a0_8, .int .i64 a0_9, .int .i64 a0_10, .slice A0_11 l0_11.length c0_11, .int .i64 a0_12, .int .i64 a0_13, .int .i64 a0_14, .int .i64 a0_15, .bool a0_16, .int .i64 a0_17]) (t := 38) ?hr ?_; (case hd => rfl); (case hg => rfl); (case hr => first | (go_simp; done) | (go_simp; rfl)); intro gb145 hg w9 hbox hb; have n0_ := q_ (pT (by repeat (first | (with_reducible first | exact HB.out | apply pA | apply pN | apply pd_) | exact HB.out)) hb); have n1_ := q_ (hbox); have n2_ := q_ ((by rw [hg]; exact (pZ (by repeat (first | (with_reducible first | exact HB.out | apply pA | apply pN | apply pd_) | exact HB.out))) : w.heap.size ≤ gb145)); have n3_ := n2_; clear HB; have HB := n0_; have BK145 := n1_; have GW145 := n2_; have GE145 := n3_; clear n0_ n1_ n2_ n3_; clear hb hbox hg; have hcz10 := blk_all BK145.out; simp only [CellsAt, List.toList_toArray, Nat.reduceAdd, and_true] at hcz10; have hfz10 := bF BK145.out) | ((with_reducible refine gate_dst (N := 3) rfl ?_); refine box_event ?hg (N := 3) ?hd (cs := #[.int .i64 0, .int .i64 0]) (t := 31) ?hr ?_; (case hd => rfl); (case hg => rfl); (case hr => first | (go_simp; done) | (go_simp; rfl)); intro gb146 hg w11 hbox hb; have n0_ := q_ (bB (g := gb145) (by (with_reducible repeat (first | refine bN ?_ _ | refine bW ?_ | refine bA ?_ _)); exact BK145.out) hb); have n1_ := q_ (pT (by repeat (first | (with_reducible first | exact HB.out | apply pA | apply pN | apply pd_ | refine pS ?_ GE145.out) | exact HB.out)) hb); have n2_ := q_ (hbox); have n3_ := q_ ((by rw [hg]; exact (pZ (by repeat (first | (with_reducible first | exact HB.out | apply pA | apply pN | apply pd_ | refine pS ?_ GE145.out) | exact HB.out))) : w.heap.size ≤ gb146)); have n4_ := n3_; have n5_ := q_ ((by rw [hg]; exact Nat.ne_of_lt (blk_lt (g := gb145) (by (with_reducible repeat (first | refine bN ?_ _ | refine bW ?_ | refine bA ?_ _)); exact BK145.out)) : gb145 ≠ gb146)); have n6_ := q_ ((by rw [hg]; exact Nat.ne_of_gt (blk_lt (g := gb145) (by (with_reducible repeat (first | refine bN ?_ _ | refine bW ?_ | refine bA ?_ _)); exact BK145.out)) : gb146 ≠ gb145)); clear BK145; clear HB; have BK145 := n0_; have HB := n1_; have BK146 := n2_; have GW146 := n3_; have GE146 := n4_; have NB145_146 := n5_; have NB146_145 := n6_; clear n0_ n1_ n2_ n3_ n4_ n5_ n6_; clear hb hbox hg; have hnb12 := NB146_145.out; have hnc12 := NB145_146.out; have hcz13_0 : w11.cell? ⟨gb146, 0, none⟩ = some (.int .i64 0) := (bC BK146.out 0).trans rfl; have hcz13_1 : w11.cell? ⟨gb146, 1, none⟩ = some (.int .i64 0) := (bC BK146.out 1).trans rfl; have hfz13_0 := bF BK146.out 0; have hfz13_1 := bF BK146.out 1))
   go_ret
   exact ⟨by first | rfl | (simp [*] <;> rfl), by repeat (first | (with_reducible first | exact HB.out | apply pA | apply pN | apply pd_ | refine pS ?_ GE145.out | refine pS ?_ GE146.out) | exact HB.out)⟩
  ·rw [if_neg c8] at H
   have c8b0 : decide (a0_9 ≤ a0_8) = false := decide_eq_false c8
   clear c8
   by_cases c14 : a0_9 > 20000
   ·rw [if_pos c14] at H
    have c14b0 : decide (20000 < a0_9) = true := decide_eq_true c14
    clear c14
    obtain rfl := Option.some.inj H
    go_enter Tryd.func37, Tryd.ntmps37
    go_wp2_with (first | (refine wpList_load_cells (by rfl) 38 _ (by exact rfl) ⟨gb145, 0, none⟩ (by rfl) _ _ (cells_of_blk (by (with_reducible repeat (first | refine bN ?_ _ | refine bW ?_ | refine bA ?_ _)); exact BK145.out)) Tryd.underlying38 rfl (by kernel_rfl) ?_) | ((with_reducible refine gate_dst (N := 1) rfl ?_); refine box_event ?hg (N := 1) ?hd (cs := #[.string a0_0, .string a0_1, .string a0_2, .int .i64 a0_3, .int .i64 a0_4, .int .i64 a0_5, .int .i64 a0_6, .int .i64 a0_7, .int .i64 a0_8, .int .i64 a0_9, .int .i64 a0_10, .slice A0_11 l0_11.length c0_11, .int .i64 a0_12, .int .i64 a0_13, .int .i64 a0_14, .int .i64 a0_15, .bool a0_16, .int .i64 a0_17]) (t := 38) ?hr ?_; (case hd => rfl); (case hg => rfl); (case hr => first | (go_simp; done) | (go_simp; rfl)); intro gb145 hg w15 hbox hb; have n0_ := q_ (pT (by repeat (first | (with_reducible first | exact HB.out | apply pA | apply pN | apply pd_) | exact HB.out)) hb); have n1_ := q_ (hbox); have n2_ := q_ ((by rw [hg]; exact (pZ (by repeat (first | (with_reducible first | exact HB.out | apply pA | apply pN | apply pd_) | exact HB.out))) : w.heap.size ≤ gb145)); have n3_ := n2_; clear HB; have HB := n0_; have BK145 := n1_; have GW145 := n2_; have GE145 := n3_; clear n0_ n1_ n2_ n3_; clear hb hbox hg; have hcz16 := blk_all BK145.out; simp only [CellsAt, List.toList_toArray, Nat.reduceAdd, and_true] at hcz16; have hfz16 := bF BK145.out) | ((with_reducible refine gate_dst (N := 3) rfl ?_); refine box_event ?hg (N := 3) ?hd (cs := #[.int .i64 0, .int .i64 0]) (t := 31) ?hr ?_; (case hd => rfl); (case hg => rfl); (case hr => first | (go_simp; done) | (go_simp; rfl)); intro gb146 hg w17 hbox hb; have n0_ := q_ (bB (g := gb145) (by (with_reducible repeat (first | refine bN ?_ _ | refine bW ?_ | refine bA ?_ _)); exact BK145.out) hb); have n1_ := q_ (pT (by repeat (first | (with_reducible first | exact HB.out | apply pA | apply pN | apply pd_ | refine pS ?_ GE145.out) | exact HB.out)) hb); have n2_ := q_ (hbox); have n3_ := q_ ((by rw [hg]; exact (pZ (by repeat (first | (with_reducible first | exact HB.out | apply pA | apply pN | apply pd_ | refine pS ?_ GE145.out) | exact HB.out))) : w.heap.size ≤ gb146)); have n4_ := n3_; have n5_ := q_ ((by rw [hg]; exact Nat.ne_of_lt (blk_lt (g := gb145) (by (with_reducible repeat (first | refine bN ?_ _ | refine bW ?_ | refine bA ?_ _)); exact BK145.out)) : gb145 ≠ gb146)); have n6_ := q_ ((by rw [hg]; exact Nat.ne_of_gt (blk_lt (g := gb145) (by (with_reducible repeat (first | refine bN ?_ _ | refine bW ?_ | refine bA ?_ _)); exact BK145.out)) : gb146 ≠ gb145)); clear BK145; clear HB; have BK145 := n0_; have HB := n1_; have BK146 := n2_; have GW146 := n3_; have GE146 := n4_; have NB145_146 := n5_; have NB146_145 := n6_; clear n0_ n1_ n2_ n3_ n4_ n5_ n6_; clear hb hbox hg; have hnb18 := NB146_145.out; have hnc18 := NB145_146.out; have hcz19_0 : w17.cell? ⟨gb146, 0, none⟩ = some (.int .i64 0) := (bC BK146.out 0).trans rfl; have hcz19_1 : w17.cell? ⟨gb146, 1, none⟩ = some (.int .i64 0) := (bC BK146.out 1).trans rfl; have hfz19_0 := bF BK146.out 0; have hfz19_1 := bF BK146.out 1))
    go_ret
    exact ⟨by first | rfl | (simp [*] <;> rfl), by repeat (first | (with_reducible first | exact HB.out | apply pA | apply pN | apply pd_ | refine pS ?_ GE145.out | refine pS ?_ GE146.out) | exact HB.out)⟩
   ·rw [if_neg c14] at H
    have c14b0 : decide (20000 < a0_9) = false := decide_eq_false c14
    clear c14
    replace H := oB H
    obtain ⟨t147, A200, H⟩ := H
    replace H : (some t147) = some r := H
    have A20 := Aside0.mk A200
    clear A200
    obtain rfl := Option.some.inj H
    go_enter Tryd.func37, Tryd.ntmps37
    go_wp2_with (first | (refine wpList_load_cells (by rfl) 38 _ (by exact rfl) ⟨gb145, 0, none⟩ (by rfl) _ _ (cells_of_blk (by (with_reducible repeat (first | refine bN ?_ _ | refine bW ?_ | refine bA ?_ _)); exact BK145.out)) Tryd.underlying38 rfl (by kernel_rfl) ?_) | ((with_reducible refine gate_dst (N := 1) rfl ?_); refine box_event ?hg (N := 1) ?hd (cs := #[.string a0_0, .string a0_1, .string a0_2, .int .i64 a0_3, .int .i64 a0_4, .int .i64 a0_5, .int .i64 a0_6, .int .i64 a0_7, .int .i64 a0_8, .int .i64 a0_9, .int .i64 a0_10, .slice A0_11 l0_11.length c0_11, .int .i64 a0_12, .int .i64 a0_13, .int .i64 a0_14, .int .i64 a0_15, .bool a0_16, .int .i64 a0_17]) (t := 38) ?hr ?_; (case hd => rfl); (case hg => rfl); (case hr => first | (go_simp; done) | (go_simp; rfl)); intro gb145 hg w21 hbox hb; have n0_ := q_ (pT (by repeat (first | (with_reducible first | exact HB.out | apply pA | apply pN | apply pd_) | exact HB.out)) hb); have n1_ := q_ (hbox); have n2_ := q_ ((by rw [hg]; exact (pZ (by repeat (first | (with_reducible first | exact HB.out | apply pA | apply pN | apply pd_) | exact HB.out))) : w.heap.size ≤ gb145)); have n3_ := n2_; clear HB; have HB := n0_; have BK145 := n1_; have GW145 := n2_; have GE145 := n3_; clear n0_ n1_ n2_ n3_; clear hb hbox hg; have hcz22 := blk_all BK145.out; simp only [CellsAt, List.toList_toArray, Nat.reduceAdd, and_true] at hcz22; have hfz22 := bF BK145.out) | ((with_reducible refine gate_dst (N := 3) rfl ?_); refine box_event ?hg (N := 3) ?hd (cs := #[.int .i64 0, .int .i64 0]) (t := 31) ?hr ?_; (case hd => rfl); (case hg => rfl); (case hr => first | (go_simp; done) | (go_simp; rfl)); intro gb146 hg w23 hbox hb; have n0_ := q_ (bB (g := gb145) (by (with_reducible repeat (first | refine bN ?_ _ | refine bW ?_ | refine bA ?_ _)); exact BK145.out) hb); have n1_ := q_ (pT (by repeat (first | (with_reducible first | exact HB.out | apply pA | apply pN | apply pd_ | refine pS ?_ GE145.out) | exact HB.out)) hb); have n2_ := q_ (hbox); have n3_ := q_ ((by rw [hg]; exact (pZ (by repeat (first | (with_reducible first | exact HB.out | apply pA | apply pN | apply pd_ | refine pS ?_ GE145.out) | exact HB.out))) : w.heap.size ≤ gb146)); have n4_ := n3_; have n5_ := q_ ((by rw [hg]; exact Nat.ne_of_lt (blk_lt (g := gb145) (by (with_reducible repeat (first | refine bN ?_ _ | refine bW ?_ | refine bA ?_ _)); exact BK145.out)) : gb145 ≠ gb146)); have n6_ := q_ ((by rw [hg]; exact Nat.ne_of_gt (blk_lt (g := gb145) (by (with_reducible repeat (first | refine bN ?_ _ | refine bW ?_ | refine bA ?_ _)); exact BK145.out)) : gb146 ≠ gb145)); clear BK145; clear HB; have BK145 := n0_; have HB := n1_; have BK146 := n2_; have GW146 := n3_; have GE146 := n4_; have NB145_146 := n5_; have NB146_145 := n6_; clear n0_ n1_ n2_ n3_ n4_ n5_ n6_; clear hb hbox hg; have hnb24 := NB146_145.out; have hnc24 := NB145_146.out; have hcz25_0 : w23.cell? ⟨gb146, 0, none⟩ = some (.int .i64 0) := (bC BK146.out 0).trans rfl; have hcz25_1 : w23.cell? ⟨gb146, 1, none⟩ = some (.int .i64 0) := (bC BK146.out 1).trans rfl; have hfz25_0 := bF BK146.out 0; have hfz25_1 := bF BK146.out 1) | ((with_reducible refine gate_callee (f := 69) rfl ?_); refine goesL_ (some 23) rfl rfl Tryd.func69 (by kernel_rfl) rfl #[.agg #[.int .i64 a0_8, .int .i64 a0_9]] rfl (by first | rfl | (simp only [List.map_toArray]; rfl)) ?_; (with_reducible refine (board_size.calls a0_8 a0_9 t147 _ A20.out).mono ?_); rintro e w26 ⟨rfl, hb⟩; refine ⟨_, rfl, ?_⟩; have n0_ := q_ (bB (g := gb145) (o := .cells #[.string a0_0, .string a0_1, .string a0_2, .int .i64 a0_3, .int .i64 a0_4, .int .i64 a0_5, .int .i64 a0_6, .int .i64 a0_7, .int .i64 a0_8, .int .i64 a0_9, .int .i64 a0_10, .slice A0_11 l0_11.length c0_11, .int .i64 a0_12, .int .i64 a0_13, .int .i64 a0_14, .int .i64 a0_15, .bool a0_16, .int .i64 a0_17] 38 (0, 0)) (by (with_reducible repeat (first | refine bN ?_ _ | refine bW ?_ | refine bA ?_ _)); refine blk_far ?_ NB145_146.out _; (with_reducible repeat (first | refine bN ?_ _ | refine bW ?_ | refine bA ?_ _)); refine blk_far ?_ NB145_146.out _; (with_reducible repeat (first | refine bN ?_ _ | refine bW ?_ | refine bA ?_ _)); exact BK145.out) hb); have n1_ := q_ (bB (g := gb146) (o := .cells #[.int .i64 a0_8, .int .i64 a0_9] 31 (0, 0)) (by (with_reducible repeat (first | refine bN ?_ _ | refine bW ?_ | refine bA ?_ _)); refine blk_put (cs := #[.int .i64 a0_8, .int .i64 0]) ?_ 1 _ rfl; (with_reducible repeat (first | refine bN ?_ _ | refine bW ?_ | refine bA ?_ _)); refine blk_put (cs := #[.int .i64 0, .int .i64 0]) ?_ 0 _ rfl; (with_reducible repeat (first | refine bN ?_ _ | refine bW ?_ | refine bA ?_ _)); exact BK146.out) hb); have n2_ := q_ (pT (by repeat (first | (with_reducible first | exact HB.out | apply pA | apply pN | apply pd_ | refine pS ?_ GE145.out | refine pS ?_ GE146.out) | exact HB.out)) hb); clear BK145; clear BK146; clear HB; have BK145 := n0_; have BK146 := n1_; have HB := n2_; clear n0_ n1_ n2_; (try clear hb); (try clear hb2); (try clear hk); (try clear hi)))
    go_ret
    exact ⟨by first | rfl | (simp [*] <;> rfl), by repeat (first | (with_reducible first | exact HB.out | apply pA | apply pN | apply pd_ | refine pS ?_ GE145.out | refine pS ?_ GE146.out) | exact HB.out)⟩
def moist_Check.j0 : Nat → Bool → Int → Int → Int → Option (Int)
 | 0, _, _, _, _ => none
 | k + 1, x16, x149000, x149001, x149002 => if x16 = true then (some 25) else (if x149002 < 0 then (some 9) else (if x149002 > 1099511627776 then (some 9) else (some 0)))
def moist_Check.f (k : Nat) (a0_0 : Int) (a0_1 : Int) (a0_2 : Int) : Option (Int) := if (mn a0_0 a0_1) < 0 then (moist_Check.j0 k true a0_0 a0_1 a0_2) else (moist_Check.j0 k (decide ((mx a0_0 a0_1) > 20000)) a0_0 a0_1 a0_2)
theorem moist_Check.mono_l : ∀ k, (∀ y0 y1 y2 y3, LeO (moist_Check.j0 k y0 y1 y2 y3) (moist_Check.j0 (k + 1) y0 y1 y2 y3))
 | 0 => fun _ _ _ _ r h => by simp [moist_Check.j0] at h
 | k + 1 => by
  have ih0 := moist_Check.mono_l k
  ·intro y0 y1 y2 y3
   unfold moist_Check.j0
   repeat' first
   | (with_reducible exact ih0 _ _ _ _)
   | (with_reducible exact LeO.refl _)
   | (with_reducible exact LeO.none _)
   | (with_reducible refine LeO.ite ?_ ?_)
   | (with_reducible refine LeO.bind ?_ (fun _ => ?_))
   | exact ih0 _ _ _ _
   | exact LeO.none _
   | refine LeO.ite ?_ ?_
   | refine LeO.bind ?_ (fun _ => ?_)
theorem moist_Check.mono : ∀ a0 a1 a2 k, LeO (moist_Check.f k a0 a1 a2) (moist_Check.f (k + 1) a0 a1 a2) := by
 intro a0 a1 a2 k
 have ih0 := moist_Check.mono_l k
 unfold moist_Check.f
 repeat' first
   | (with_reducible exact ih0 _ _ _ _)
   | (with_reducible exact LeO.refl _)
   | (with_reducible exact LeO.none _)
   | (with_reducible refine LeO.ite ?_ ?_)
   | (with_reducible refine LeO.bind ?_ (fun _ => ?_))
   | exact ih0 _ _ _ _
   | exact LeO.none _
   | refine LeO.ite ?_ ?_
   | refine LeO.bind ?_ (fun _ => ?_)
set_option maxHeartbeats 8000000 in
set_option maxRecDepth 100000 in
theorem moist_Check.calls (k : Nat) (a0_0 : Int) (a0_1 : Int) (a0_2 : Int) (r : Int) (w : World) (h : moist_Check.f k a0_0 a0_1 a0_2 = some r) :
  Calls Tryd.prog 70 #[.agg #[.int .i64 a0_0, .int .i64 a0_1, .int .i64 a0_2]] w fun e w' => e = .returned (.int .i64 r) ∧ Below w.heap.size w w' := by
 have hu36 := Tryd.underlying36
 have HB := q_ (Below.refl w.heap.size w)
 have H : (if (mn a0_0 a0_1) < 0 then (moist_Check.j0 k true a0_0 a0_1 a0_2) else (moist_Check.j0 k (decide ((mx a0_0 a0_1) > 20000)) a0_0 a0_1 a0_2)) = some r := h
 clear h
 have HC2 := Aside0.mk H
 clear H
 go_enter Tryd.func70, Tryd.ntmps70
 go_upto_region 1 with (first | ((with_reducible refine gate_dst (N := 1) rfl ?_); (try (refine gate_guard (by rfl) ?_; dsimp only)); refine box_event ?hg (N := 1) ?hd (cs := #[.int .i64 a0_0, .int .i64 a0_1, .int .i64 a0_2]) (t := 36) ?hr ?_; (case hd => rfl); (case hg => rfl); (case hr => first | (go_simp; done) | (go_simp; rfl)); intro gb148 hg w3 hbox hb; have n0_ := q_ (pT (by repeat (first | (with_reducible first | exact HB.out | apply pA | apply pN | apply pd_) | exact HB.out)) hb); have n1_ := q_ (hbox); have n2_ := q_ ((by rw [hg]; exact (pZ (by repeat (first | (with_reducible first | exact HB.out | apply pA | apply pN | apply pd_) | exact HB.out))) : w.heap.size ≤ gb148)); have n3_ := n2_; clear HB; have HB := n0_; have BK148 := n1_; have GW148 := n2_; have GE148 := n3_; clear n0_ n1_ n2_ n3_; clear hb hbox hg))
 (try simp only [Act.put, List.setIfInBounds_toArray, List.set_cons_zero, List.set_cons_succ])
 go_cut [16] (fun v16 wc => ∃ (kq : Nat) (x16_1 : Bool), v16 = .bool x16_1 ∧ Aside0 (moist_Check.j0 kq x16_1 a0_0 a0_1 a0_2 = some r) ∧ Aside0 (kq ≤ k) ∧ Aside0 (wc.heap[gb148]? = some (.cells #[.int .i64 a0_0, .int .i64 a0_1, .int .i64 a0_2] 36 (0, 0))) ∧ Aside0 (Below w.heap.size w wc))
 case first =>
  have H := HC2.out
  clear HC2
  obtain ⟨ji4, hji4⟩ : ∃ j_ : Int, (mn a0_0 a0_1) = j_ := ⟨_, rfl⟩
  replace H : (if (ji4) < 0 then (moist_Check.j0 k true a0_0 a0_1 a0_2) else (moist_Check.j0 k (decide ((mx a0_0 a0_1) > 20000)) a0_0 a0_1 a0_2)) = some r := by first | (rw [hji4] at H; exact H) | (simp only [hji4] at H ⊢; exact H)
  have hji4_ : (if a0_1 < a0_0 then a0_1 else a0_0) = ji4 := hji4
  by_cases c5 : (ji4) < 0
  ·rw [if_pos c5] at H
   have c5b0 : decide ((ji4) < 0) = true := decide_eq_true c5
   clear c5
   (first | rw [c5b0] | (simp only [i64_w, i32_w]; rw [c5b0]) | skip)
   have H' := Aside0.mk H
   clear H
   have hcz6_0 : w3.cell? ⟨gb148, 0, none⟩ = some (.int .i64 a0_0) := (bC BK148.out 0).trans rfl
   have hcz6_1 : w3.cell? ⟨gb148, 1, none⟩ = some (.int .i64 a0_1) := (bC BK148.out 1).trans rfl
   have hcz6_2 : w3.cell? ⟨gb148, 2, none⟩ = some (.int .i64 a0_2) := (bC BK148.out 2).trans rfl
   have hfz6_0 := bF BK148.out 0
   have hfz6_1 := bF BK148.out 1
   have hfz6_2 := bF BK148.out 2
   go_wp2
   go_meet
   case rel => exact ⟨_, (true), (by first | rfl | (simp; done) | (simp [*]; done)), H', ⟨by first | omega | exact Nat.le_refl _⟩, ⟨by (with_reducible repeat (first | refine bN ?_ _ | refine bW ?_ | refine bA ?_ _)); exact BK148.out⟩, ⟨by repeat (first | (with_reducible first | exact HB.out | apply pA | apply pN | apply pd_ | refine pS ?_ GE148.out) | exact HB.out)⟩⟩
  ·rw [if_neg c5] at H
   have c5b0 : decide ((ji4) < 0) = false := decide_eq_false c5
   clear c5
   (first | rw [c5b0] | (simp only [i64_w, i32_w]; rw [c5b0]) | skip)
   obtain ⟨ji7, hji7⟩ : ∃ j_ : Int, (mx a0_0 a0_1) = j_ := ⟨_, rfl⟩
   replace H : (moist_Check.j0 k (decide ((ji7) > 20000)) a0_0 a0_1 a0_2) = some r := by first | (rw [hji7] at H; exact H) | (simp only [hji7] at H ⊢; exact H)
   have hji7_ : (if a0_0 < a0_1 then a0_1 else a0_0) = ji7 := hji7
   have H' := Aside0.mk H
   clear H
   have hcz8_0 : w3.cell? ⟨gb148, 0, none⟩ = some (.int .i64 a0_0) := (bC BK148.out 0).trans rfl
   have hcz8_1 : w3.cell? ⟨gb148, 1, none⟩ = some (.int .i64 a0_1) := (bC BK148.out 1).trans rfl
   have hcz8_2 : w3.cell? ⟨gb148, 2, none⟩ = some (.int .i64 a0_2) := (bC BK148.out 2).trans rfl
   have hfz8_0 := bF BK148.out 0
   have hfz8_1 := bF BK148.out 1
   have hfz8_2 := bF BK148.out 2
   go_wp2
   go_meet
   case rel => exact ⟨_, (decide ((ji7) > 20000)), (by first | rfl | (simp; done) | (simp only [← hji7] <;> (first | rfl | simp)) | (simp [*]; done)), H', ⟨by first | omega | exact Nat.le_refl _⟩, ⟨by (with_reducible repeat (first | refine bN ?_ _ | refine bW ?_ | refine bA ?_ _)); exact BK148.out⟩, ⟨by repeat (first | (with_reducible first | exact HB.out | apply pA | apply pN | apply pd_ | refine pS ?_ GE148.out) | exact HB.out)⟩⟩
 case rest =>
  clear HC2
  try clear p2
  try clear c5
  try clear c5b0
  try clear c7
  try clear hcz6_0
  try clear hcz6_1
  try clear hcz6_2
  try clear hcz8_0
  try clear hcz8_1
  try clear hcz8_2
  try clear hfz6_0
  try clear hfz6_1
  try clear hfz6_2
  try clear hfz8_0
  try clear hfz8_1
  try clear hfz8_2
  obtain ⟨kq, x16_1, rfl, HA, HJ1, BK148, HB⟩ := hcut
  cases kq with
  | zero => exact absurd HA.out (by simp [moist_Check.j0])
  | succ kj1 =>
   have H := HA.out
   clear HA
   simp only [moist_Check.j0] at H
   by_cases c9 : x16_1 = true
   ·subst c9
    have H1 : (some 25) = some r := by rw [if_pos rfl] at H; exact H
    clear H
    have H := H1
    clear H1
    obtain rfl := Option.some.inj H
    go_wp2
    go_ret
    exact ⟨by first | rfl | (simp [*] <;> rfl), by repeat (first | (with_reducible first | exact HB.out | apply pA | apply pN | apply pd_ | refine pS ?_ GE148.out) | exact HB.out)⟩
   ·replace c9 := Bool.eq_false_iff.mpr c9
    subst c9
    have H1 : (if a0_2 < 0 then (some 9) else (if a0_2 > 1099511627776 then (some 9) else (some 0))) = some r := by rw [if_neg (show ¬ (false = true) by decide)] at H; exact H
    clear H
    have H := H1
    clear H1
    by_cases c10 : a0_2 < 0
    ·rw [if_pos c10] at H
     have c10b0 : decide (a0_2 < 0) = true := decide_eq_true c10
     clear c10
     obtain rfl := Option.some.inj H
     have hcz11_0 : wc.cell? ⟨gb148, 0, none⟩ = some (.int .i64 a0_0) := (bC BK148.out 0).trans rfl
     have hcz11_1 : wc.cell? ⟨gb148, 1, none⟩ = some (.int .i64 a0_1) := (bC BK148.out 1).trans rfl
     have hcz11_2 : wc.cell? ⟨gb148, 2, none⟩ = some (.int .i64 a0_2) := (bC BK148.out 2).trans rfl
     have hfz11_0 := bF BK148.out 0
     have hfz11_1 := bF BK148.out 1
     have hfz11_2 := bF BK148.out 2
     go_wp2
     go_ret
     exact ⟨by first | rfl | (simp [*] <;> rfl), by repeat (first | (with_reducible first | exact HB.out | apply pA | apply pN | apply pd_ | refine pS ?_ GE148.out) | exact HB.out)⟩
    ·rw [if_neg c10] at H
     have c10b0 : decide (a0_2 < 0) = false := decide_eq_false c10
     clear c10
     by_cases c12 : a0_2 > 1099511627776
     ·rw [if_pos c12] at H
      have c12b0 : decide (1099511627776 < a0_2) = true := decide_eq_true c12
      clear c12
      obtain rfl := Option.some.inj H
      have hcz13_0 : wc.cell? ⟨gb148, 0, none⟩ = some (.int .i64 a0_0) := (bC BK148.out 0).trans rfl
      have hcz13_1 : wc.cell? ⟨gb148, 1, none⟩ = some (.int .i64 a0_1) := (bC BK148.out 1).trans rfl
      have hcz13_2 : wc.cell? ⟨gb148, 2, none⟩ = some (.int .i64 a0_2) := (bC BK148.out 2).trans rfl
      have hfz13_0 := bF BK148.out 0
      have hfz13_1 := bF BK148.out 1
      have hfz13_2 := bF BK148.out 2
      go_wp2
      go_ret
      exact ⟨by first | rfl | (simp [*] <;> rfl), by repeat (first | (with_reducible first | exact HB.out | apply pA | apply pN | apply pd_ | refine pS ?_ GE148.out) | exact HB.out)⟩
     ·rw [if_neg c12] at H
      have c12b0 : decide (1099511627776 < a0_2) = false := decide_eq_false c12
      clear c12
      obtain rfl := Option.some.inj H
      have hcz14_0 : wc.cell? ⟨gb148, 0, none⟩ = some (.int .i64 a0_0) := (bC BK148.out 0).trans rfl
      have hcz14_1 : wc.cell? ⟨gb148, 1, none⟩ = some (.int .i64 a0_1) := (bC BK148.out 1).trans rfl
      have hcz14_2 : wc.cell? ⟨gb148, 2, none⟩ = some (.int .i64 a0_2) := (bC BK148.out 2).trans rfl
      have hfz14_0 := bF BK148.out 0
      have hfz14_1 := bF BK148.out 1
      have hfz14_2 := bF BK148.out 2
      go_wp2
      go_ret
      exact ⟨by first | rfl | (simp [*] <;> rfl), by repeat (first | (with_reducible first | exact HB.out | apply pA | apply pN | apply pd_ | refine pS ?_ GE148.out) | exact HB.out)⟩
def moist_Mean.f (k : Nat) (a0_0 : Int) (a0_1 : Int) (a0_2 : Int) : Option (Int) := (moist_Check.f k a0_0 a0_1 a0_2).bind fun t150 => (if t150 = 0 then (some (wrap64 (Int.tdiv (wrap64 (a0_0 + (wrap64 (2 * a0_1)))) 3))) else (some 0))
theorem moist_Mean.mono : ∀ a0 a1 a2 k, LeO (moist_Mean.f k a0 a1 a2) (moist_Mean.f (k + 1) a0 a1 a2) := by
 intro a0 a1 a2 k
 unfold moist_Mean.f
 repeat' first
   | (with_reducible exact moist_Check.mono _ _ _ _)
   | (with_reducible exact LeO.refl _)
   | (with_reducible exact LeO.none _)
   | (with_reducible refine LeO.ite ?_ ?_)
   | (with_reducible refine LeO.bind ?_ (fun _ => ?_))
   | exact moist_Check.mono _ _ _ _
   | exact LeO.none _
   | refine LeO.ite ?_ ?_
   | refine LeO.bind ?_ (fun _ => ?_)
set_option maxHeartbeats 8000000 in
set_option maxRecDepth 100000 in
theorem moist_Mean.calls (k : Nat) (a0_0 : Int) (a0_1 : Int) (a0_2 : Int) (r : Int) (w : World) (h : moist_Mean.f k a0_0 a0_1 a0_2 = some r) :
  Calls Tryd.prog 38 #[.agg #[.int .i64 a0_0, .int .i64 a0_1, .int .i64 a0_2]] w fun e w' => e = .returned (.int .i64 r) ∧ Below w.heap.size w w' := by
 have hu36 := Tryd.underlying36
 have HB := q_ (Below.refl w.heap.size w)
 have H : ((moist_Check.f k a0_0 a0_1 a0_2).bind fun t150 => (if t150 = 0 then (some (wrap64 (Int.tdiv (wrap64 (a0_0 + (wrap64 (2 * a0_1)))) 3))) else (some 0))) = some r := h
 clear h
 replace H := oB H
 obtain ⟨t150, A20, H⟩ := H
 replace H : (if t150 = 0 then (some (wrap64 (Int.tdiv (wrap64 (a0_0 + (wrap64 (2 * a0_1)))) 3))) else (some 0)) = some r := H
 have A2 := Aside0.mk A20
 clear A20
 by_cases c3 : t150 = 0
 ·rw [if_pos c3] at H
  have c3b0 : (t150 == 0) = true := beq_iff_eq.mpr c3
  have c3b1 : (t150 != 0) = false := oD c3
  clear c3
  obtain rfl := Option.some.inj H
  go_enter Tryd.func38, Tryd.ntmps38
  go_wp2_with (first | ((with_reducible refine gate_dst (N := 1) rfl ?_); refine box_event ?hg (N := 1) ?hd (cs := #[.int .i64 a0_0, .int .i64 a0_1, .int .i64 a0_2]) (t := 36) ?hr ?_; (case hd => rfl); (case hg => rfl); (case hr => first | (go_simp; done) | (go_simp; rfl)); intro gb149 hg w4 hbox hb; have n0_ := q_ (pT (by repeat (first | (with_reducible first | exact HB.out | apply pA | apply pN | apply pd_) | exact HB.out)) hb); have n1_ := q_ (hbox); have n2_ := q_ ((by rw [hg]; exact (pZ (by repeat (first | (with_reducible first | exact HB.out | apply pA | apply pN | apply pd_) | exact HB.out))) : w.heap.size ≤ gb149)); have n3_ := n2_; clear HB; have HB := n0_; have BK149 := n1_; have GW149 := n2_; have GE149 := n3_; clear n0_ n1_ n2_ n3_; clear hb hbox hg; have hcz5_0 : w4.cell? ⟨gb149, 0, none⟩ = some (.int .i64 a0_0) := (bC BK149.out 0).trans rfl; have hcz5_1 : w4.cell? ⟨gb149, 1, none⟩ = some (.int .i64 a0_1) := (bC BK149.out 1).trans rfl; have hcz5_2 : w4.cell? ⟨gb149, 2, none⟩ = some (.int .i64 a0_2) := (bC BK149.out 2).trans rfl; have hfz5_0 := bF BK149.out 0; have hfz5_1 := bF BK149.out 1; have hfz5_2 := bF BK149.out 2) | ((with_reducible refine gate_callee (f := 70) rfl ?_); refine goesL_ (some 4) rfl rfl Tryd.func70 (by kernel_rfl) rfl #[.agg #[.int .i64 a0_0, .int .i64 a0_1, .int .i64 a0_2]] rfl (by first | rfl | (simp only [List.map_toArray]; rfl)) ?_; (with_reducible refine (moist_Check.calls k a0_0 a0_1 a0_2 t150 _ A2.out).mono ?_); rintro e w6 ⟨rfl, hb⟩; refine ⟨_, rfl, ?_⟩; have n0_ := q_ (bB (g := gb149) (by (with_reducible repeat (first | refine bN ?_ _ | refine bW ?_ | refine bA ?_ _)); exact BK149.out) hb); have n1_ := q_ (pT (by repeat (first | (with_reducible first | exact HB.out | apply pA | apply pN | apply pd_ | refine pS ?_ GE149.out) | exact HB.out)) hb); clear BK149; clear HB; have BK149 := n0_; have HB := n1_; clear n0_ n1_; (try clear hb); (try clear hb2); (try clear hk); (try clear hi); have hcz7_0 : w6.cell? ⟨gb149, 0, none⟩ = some (.int .i64 a0_0) := (bC BK149.out 0).trans rfl; have hcz7_1 : w6.cell? ⟨gb149, 1, none⟩ = some (.int .i64 a0_1) := (bC BK149.out 1).trans rfl; have hcz7_2 : w6.cell? ⟨gb149, 2, none⟩ = some (.int .i64 a0_2) := (bC BK149.out 2).trans rfl; have hfz7_0 := bF BK149.out 0; have hfz7_1 := bF BK149.out 1; have hfz7_2 := bF BK149.out 2))
  go_ret
  exact ⟨by first | rfl | (simp [*] <;> rfl), by repeat (first | (with_reducible first | exact HB.out | apply pA | apply pN | apply pd_ | refine pS ?_ GE149.out) | exact HB.out)⟩
 ·rw [if_neg c3] at H
  have c3b0 : (t150 == 0) = false := oC c3
  have c3b1 : (t150 != 0) = true := bne_iff_ne.mpr c3
  obtain rfl := Option.some.inj H
  go_enter Tryd.func38, Tryd.ntmps38
  go_wp2_with (first | ((with_reducible refine gate_dst (N := 1) rfl ?_); refine box_event ?hg (N := 1) ?hd (cs := #[.int .i64 a0_0, .int .i64 a0_1, .int .i64 a0_2]) (t := 36) ?hr ?_; (case hd => rfl); (case hg => rfl); (case hr => first | (go_simp; done) | (go_simp; rfl)); intro gb149 hg w8 hbox hb; have n0_ := q_ (pT (by repeat (first | (with_reducible first | exact HB.out | apply pA | apply pN | apply pd_) | exact HB.out)) hb); have n1_ := q_ (hbox); have n2_ := q_ ((by rw [hg]; exact (pZ (by repeat (first | (with_reducible first | exact HB.out | apply pA | apply pN | apply pd_) | exact HB.out))) : w.heap.size ≤ gb149)); have n3_ := n2_; clear HB; have HB := n0_; have BK149 := n1_; have GW149 := n2_; have GE149 := n3_; clear n0_ n1_ n2_ n3_; clear hb hbox hg; have hcz9_0 : w8.cell? ⟨gb149, 0, none⟩ = some (.int .i64 a0_0) := (bC BK149.out 0).trans rfl; have hcz9_1 : w8.cell? ⟨gb149, 1, none⟩ = some (.int .i64 a0_1) := (bC BK149.out 1).trans rfl; have hcz9_2 : w8.cell? ⟨gb149, 2, none⟩ = some (.int .i64 a0_2) := (bC BK149.out 2).trans rfl; have hfz9_0 := bF BK149.out 0; have hfz9_1 := bF BK149.out 1; have hfz9_2 := bF BK149.out 2) | ((with_reducible refine gate_callee (f := 70) rfl ?_); refine goesL_ (some 4) rfl rfl Tryd.func70 (by kernel_rfl) rfl #[.agg #[.int .i64 a0_0, .int .i64 a0_1, .int .i64 a0_2]] rfl (by first | rfl | (simp only [List.map_toArray]; rfl)) ?_; (with_reducible refine (moist_Check.calls k a0_0 a0_1 a0_2 t150 _ A2.out).mono ?_); rintro e w10 ⟨rfl, hb⟩; refine ⟨_, rfl, ?_⟩; have n0_ := q_ (bB (g := gb149) (by (with_reducible repeat (first | refine bN ?_ _ | refine bW ?_ | refine bA ?_ _)); exact BK149.out) hb); have n1_ := q_ (pT (by repeat (first | (with_reducible first | exact HB.out | apply pA | apply pN | apply pd_ | refine pS ?_ GE149.out) | exact HB.out)) hb); clear BK149; clear HB; have BK149 := n0_; have HB := n1_; clear n0_ n1_; (try clear hb); (try clear hb2); (try clear hk); (try clear hi)))
  go_ret
  exact ⟨by first | rfl | (simp [*] <;> rfl), by repeat (first | (with_reducible first | exact HB.out | apply pA | apply pN | apply pd_ | refine pS ?_ GE149.out) | exact HB.out)⟩
end Go.Proofs.YtblmgmhjlbkncaaDoor.PA
namespace Go.Proofs.YtblmgmhjlbkncaaDoor.PA
open Go.RowKit Go.Proofs.YtblmgmhjlbkncaaDoorW.PrintWords Go.Proofs.YtblmgmhjlbkncaaDoorW.PrintLast Go.Proofs.YtblmgmhjlbkncaaDoorW.PrintMore
attribute [local go_sem] max2_int min2_int max_two min_two max_three min_three max_four min_four
set_option linter.unusedVariables false
set_option linter.unusedSimpArgs false
def order_Fits.f (k : Nat) (a0_0 : ByteArray) (a0_1 : ByteArray) (a0_2 : Int) (a0_3 : Int) (a0_4 : Int) (a0_5 : Int) (a0_6 : Int) (a0_7 : Int) (a0_8 : Int) (a0_9 : Int) (a0_10 : Int) (a1_0 : ByteArray) (a1_1 : ByteArray) (a1_2 : ByteArray) (a1_3 : Int) (a1_4 : Int) (a1_5 : Int) (a1_6 : Int) (a1_7 : Int) (a1_8 : Int) (a1_9 : Int) (a1_10 : Int) (l1_11 : List (S176)) (a1_12 : Int) (a1_13 : Int) (a1_14 : Int) (a1_15 : Int) (a1_16 : Bool) (a1_17 : Int) : Option (Int) := if a1_2.toList = a0_1.toList then (if a1_3 = a0_2 then ((board_Length.f a1_0 a1_1 a1_2 a1_3 a1_4 a1_5 a1_6 a1_7 a1_8 a1_9 a1_10 l1_11 a1_12 a1_13 a1_14 a1_15 a1_16 a1_17).bind fun t153 => (if t153 = a0_3 then (if a1_16 = true then ((moist_Mean.f k a1_13 a1_14 a1_15).bind fun t154 => (if t154 > a0_5 then (some 25) else (if a1_17 < 1 then (some 26) else (if a1_17 > a0_4 then (some 26) else (some 0))))) else (some 14)) else (some 20))) else (some 8)) else (some 24)
theorem order_Fits.mono : ∀ a0 a1 a2 a3 a4 a5 a6 a7 a8 a9 a10 a11 a12 a13 a14 a15 a16 a17 a18 a19 a20 a21 a22 a23 a24 a25 a26 a27 a28 k, LeO (order_Fits.f k a0 a1 a2 a3 a4 a5 a6 a7 a8 a9 a10 a11 a12 a13 a14 a15 a16 a17 a18 a19 a20 a21 a22 a23 a24 a25 a26 a27 a28) (order_Fits.f (k + 1) a0 a1 a2 a3 a4 a5 a6 a7 a8 a9 a10 a11 a12 a13 a14 a15 a16 a17 a18 a19 a20 a21 a22 a23 a24 a25 a26 a27 a28) := by
 intro a0 a1 a2 a3 a4 a5 a6 a7 a8 a9 a10 a11 a12 a13 a14 a15 a16 a17 a18 a19 a20 a21 a22 a23 a24 a25 a26 a27 a28 k
 unfold order_Fits.f
 repeat' first
   | (with_reducible exact moist_Mean.mono _ _ _ _)
   | (with_reducible exact LeO.refl _)
   | (with_reducible exact LeO.none _)
   | (with_reducible refine LeO.ite ?_ ?_)
   | (with_reducible refine LeO.bind ?_ (fun _ => ?_))
   | exact moist_Mean.mono _ _ _ _
   | exact LeO.none _
   | refine LeO.ite ?_ ?_
   | refine LeO.bind ?_ (fun _ => ?_)
set_option maxHeartbeats 8000000 in
set_option maxRecDepth 100000 in
theorem order_Fits.calls (k : Nat) (a0_0 : ByteArray) (a0_1 : ByteArray) (a0_2 : Int) (a0_3 : Int) (a0_4 : Int) (a0_5 : Int) (a0_6 : Int) (a0_7 : Int) (a0_8 : Int) (a0_9 : Int) (a0_10 : Int) (a1_0 : ByteArray) (a1_1 : ByteArray) (a1_2 : ByteArray) (a1_3 : Int) (a1_4 : Int) (a1_5 : Int) (a1_6 : Int) (a1_7 : Int) (a1_8 : Int) (a1_9 : Int) (a1_10 : Int) (A1_11 : Option Addr) (c1_11 : Nat) (l1_11 : List (S176)) (a1_12 : Int) (a1_13 : Int) (a1_14 : Int) (a1_15 : Int) (a1_16 : Bool) (a1_17 : Int) (r : Int) (w : World) (hr1_11 : Kd.C k176 w A1_11 l1_11.length l1_11) (hc1_11 : l1_11.length ≤ c1_11) (h : order_Fits.f k a0_0 a0_1 a0_2 a0_3 a0_4 a0_5 a0_6 a0_7 a0_8 a0_9 a0_10 a1_0 a1_1 a1_2 a1_3 a1_4 a1_5 a1_6 a1_7 a1_8 a1_9 a1_10 l1_11 a1_12 a1_13 a1_14 a1_15 a1_16 a1_17 = some r) :
  Calls Tryd.prog 14 #[.agg #[.string a0_0, .string a0_1, .int .i64 a0_2, .int .i64 a0_3, .int .i64 a0_4, .int .i64 a0_5, .int .i64 a0_6, .int .i64 a0_7, .int .i64 a0_8, .int .i64 a0_9, .int .i64 a0_10], .agg #[.string a1_0, .string a1_1, .string a1_2, .int .i64 a1_3, .int .i64 a1_4, .int .i64 a1_5, .int .i64 a1_6, .int .i64 a1_7, .int .i64 a1_8, .int .i64 a1_9, .int .i64 a1_10, .slice A1_11 l1_11.length c1_11, .int .i64 a1_12, .int .i64 a1_13, .int .i64 a1_14, .int .i64 a1_15, .bool a1_16, .int .i64 a1_17]] w fun e w' => e = .returned (.int .i64 r) ∧ Below w.heap.size w w' := by
 have hu23 := Tryd.underlying23
 have hu38 := Tryd.underlying38
 have hu36 := Tryd.underlying36
 have HB := q_ (Below.refl w.heap.size w)
 have HR := Aside0.mk hr1_11
 have HL := Aside0.mk hc1_11
 clear hr1_11 hc1_11
 unfold order_Fits.f at h
 go_enter Tryd.func14, Tryd.ntmps14
 go_upto_region 1 with (first | ((with_reducible refine gate_dst (N := 2) rfl ?_); refine box_event ?hg (N := 2) ?hd (cs := #[.string a0_0, .string a0_1, .int .i64 a0_2, .int .i64 a0_3, .int .i64 a0_4, .int .i64 a0_5, .int .i64 a0_6, .int .i64 a0_7, .int .i64 a0_8, .int .i64 a0_9, .int .i64 a0_10]) (t := 23) ?hr ?_; (case hd => rfl); (case hg => rfl); (case hr => first | (go_simp; done) | (go_simp; rfl)); intro go hg w1 hbox hb; have BKo := Aside0.mk hbox; replace HB := q_ (pT HB.out hb); clear hb hbox hg) | ((with_reducible refine gate_dst (N := 3) rfl ?_); refine box_event ?hg (N := 3) ?hd (cs := #[.string a1_0, .string a1_1, .string a1_2, .int .i64 a1_3, .int .i64 a1_4, .int .i64 a1_5, .int .i64 a1_6, .int .i64 a1_7, .int .i64 a1_8, .int .i64 a1_9, .int .i64 a1_10, .slice A1_11 l1_11.length c1_11, .int .i64 a1_12, .int .i64 a1_13, .int .i64 a1_14, .int .i64 a1_15, .bool a1_16, .int .i64 a1_17]) (t := 38) ?hr ?_; (case hd => rfl); (case hg => rfl); (case hr => first | (go_simp; done) | (go_simp; rfl)); intro gb hg w2 hbox hb; replace BKo := q_ (bB BKo.out hb); have BKb := Aside0.mk hbox; replace HB := q_ (pT HB.out hb); clear hb hbox hg))
 try simp only [Act.put, List.setIfInBounds_toArray, List.set_cons_zero, List.set_cons_succ]
 have czo := blk_all BKo.out
 simp only [CellsAt, List.toList_toArray, Nat.reduceAdd, and_true] at czo
 have fzo := bF BKo.out
 have czb := blk_all BKb.out
 simp only [CellsAt, List.toList_toArray, Nat.reduceAdd, and_true] at czb
 have fzb := bF BKb.out
 by_cases c1 : a1_2.toList = a0_1.toList
 case neg =>
  rw [if_neg c1] at h
  have c1a : (a1_2.toList == a0_1.toList) = false := oC c1
  have c1b : (a1_2.toList != a0_1.toList) = true := bne_iff_ne.mpr c1
  obtain rfl := Option.some.inj h
  go_wp2
  go_ret
  exact ⟨rfl, HB.out⟩
 rw [if_pos c1] at h
 have c1a : (a1_2.toList == a0_1.toList) = true := beq_iff_eq.mpr c1
 have c1b : (a1_2.toList != a0_1.toList) = false := oD c1
 clear c1
 by_cases c2 : a1_3 = a0_2
 case neg =>
  rw [if_neg c2] at h
  have c2a : (a1_3 == a0_2) = false := oC c2
  have c2b : (a1_3 != a0_2) = true := bne_iff_ne.mpr c2
  obtain rfl := Option.some.inj h
  go_wp2
  go_ret
  exact ⟨rfl, HB.out⟩
 rw [if_pos c2] at h
 have c2a : (a1_3 == a0_2) = true := beq_iff_eq.mpr c2
 have c2b : (a1_3 != a0_2) = false := oD c2
 clear c2
 replace h := oB h
 obtain ⟨t1, hl_, h⟩ := h
 have HT1 := Aside0.mk hl_
 clear hl_
 replace h : (if t1 = a0_3 then _ else _) = some r := h
 have h' := Aside0.mk h
 clear h
 go_wp2
 clear c1a c1b c2a c2b
 clear czo fzo czb fzb
 replace BKo := q_ (bW BKo.out)
 replace BKb := q_ (bW BKb.out)
 replace HB := q_ (pd_ HB.out)
 try simp only [Act.put, List.setIfInBounds_toArray, List.set_cons_zero, List.set_cons_succ]
 refine start_ (n := 6) (S := fun w' => w'.heap[go]? = some (.cells #[.string a0_0, .string a0_1, .int .i64 a0_2, .int .i64 a0_3, .int .i64 a0_4, .int .i64 a0_5, .int .i64 a0_6, .int .i64 a0_7, .int .i64 a0_8, .int .i64 a0_9, .int .i64 a0_10] 23 (0, 0)) ∧ w'.heap[gb]? = some (.cells #[.string a1_0, .string a1_1, .string a1_2, .int .i64 a1_3, .int .i64 a1_4, .int .i64 a1_5, .int .i64 a1_6, .int .i64 a1_7, .int .i64 a1_8, .int .i64 a1_9, .int .i64 a1_10, .slice A1_11 l1_11.length c1_11, .int .i64 a1_12, .int .i64 a1_13, .int .i64 a1_14, .int .i64 a1_15, .bool a1_16, .int .i64 a1_17] 38 (0, 0))) (ds := []) #[false, false, false, false, false, false] (by kernel_rfl) rfl rfl ⟨BKo.out, BKb.out⟩ (fun hHeld => ?_)
 clear hHeld
 generalize w2.drew = w3 at BKo BKb HB ⊢
 refine pure_ (i := 2) (N := some 20) (v := ?_) (a' := ?_) #[false, false, true, false, false, false] rfl rfl (by kernel_rfl) (fun _ _ _ h => h) (Or.inl ⟨by rfl, ?_⟩) ?_ ?_
 rotate_left
 ·intro w'
  go_simp
  with_reducible rfl
 rotate_left
 ·simp only [Act.put, List.setIfInBounds_toArray, List.set_cons_zero, List.set_cons_succ, i64_w, i32_w]
  rfl
 refine take_ (i := 0) (N := some 18) (v := ?_) (a' := ?_) #[true, false, true, false, false, false] rfl rfl (by kernel_rfl) (fun _ _ _ h => h) (Or.inl ⟨by rfl, ?_⟩) ⟨BKo.out, BKb.out⟩ ?_ ?_
 rotate_left
 ·rintro w' ⟨s0, s1⟩
  refine exec_load_blk 38 (.tmp 3) ?_ gb ?_ s1 hu38 rfl ?_
  ·exact rfl
  ·exact rfl
  ·kernel_rfl
 rotate_left
 ·simp only [Act.put, List.setIfInBounds_toArray, List.set_cons_zero, List.set_cons_succ, i64_w, i32_w]
  rfl
 refine take_ (i := 3) (N := some 21) (v := ?_) (a' := ?_) #[true, false, true, true, false, false] rfl rfl (by kernel_rfl) (fun _ _ _ h => h) (Or.inl ⟨by rfl, ?_⟩) ⟨BKo.out, BKb.out⟩ ?_ ?_
 rotate_left
 ·rintro w' ⟨s0, s1⟩
  have hz := blk_all s0
  simp only [CellsAt, List.toList_toArray, Nat.reduceAdd, and_true] at hz
  go_simp
  with_reducible rfl
 rotate_left
 ·simp only [Act.put, List.setIfInBounds_toArray, List.set_cons_zero, List.set_cons_succ, i64_w, i32_w]
  rfl
 refine one_ (i := 1) (N := some 19) #[true, true, true, true, false, false] rfl rfl (by kernel_rfl) (by decide) (fun K hK => ?_)
 refine goes_ Tryd.func37 (by kernel_rfl) rfl #[.agg #[.string a1_0, .string a1_1, .string a1_2, .int .i64 a1_3, .int .i64 a1_4, .int .i64 a1_5, .int .i64 a1_6, .int .i64 a1_7, .int .i64 a1_8, .int .i64 a1_9, .int .i64 a1_10, .slice A1_11 l1_11.length c1_11, .int .i64 a1_12, .int .i64 a1_13, .int .i64 a1_14, .int .i64 a1_15, .bool a1_16, .int .i64 a1_17]] (by rfl) rfl rfl (by first | rfl | (simp only [List.map_toArray, List.map_cons, List.map_nil]; rfl)) ?_
 refine (board_Length.calls a1_0 a1_1 a1_2 a1_3 a1_4 a1_5 a1_6 a1_7 a1_8 a1_9 a1_10 A1_11 c1_11 l1_11 a1_12 a1_13 a1_14 a1_15 a1_16 a1_17 t1 _ ?_ ?_ HT1.out).mono ?_
 ·exact Kd.C_below HR.out HB.out
 ·exact HL.out
 rintro e w4 ⟨rfl, hb⟩
 refine ⟨_, rfl, ?_⟩
 replace HB := q_ (pT HB.out hb)
 replace BKo := q_ (bB BKo.out hb)
 replace BKb := q_ (bB BKb.out hb)
 clear hb
 refine hK.out _ _ ⟨BKo.out, BKb.out⟩ (fun hHeld => ?_)
 clear hK K hHeld
 refine norm_ (a' := ?_) ?_ ?_
 rotate_left
 ·show Act.put _ (some 19) _ = _
  simp only [Act.put, List.setIfInBounds_toArray, List.set_cons_zero, List.set_cons_succ, i64_w, i32_w]
  rfl
 refine pure_ (i := 4) (N := some 22) (v := ?_) (a' := ?_) #[true, true, true, true, true, false] rfl rfl (by kernel_rfl) (fun _ _ _ h => h) (Or.inl ⟨by rfl, ?_⟩) ?_ ?_
 rotate_left
 ·intro w'
  go_simp
  with_reducible rfl
 rotate_left
 ·simp only [Act.put, List.setIfInBounds_toArray, List.set_cons_zero, List.set_cons_succ, i64_w, i32_w]
  rfl
 refine pure_ (i := 5) (N := some 17) (v := ?_) (a' := ?_) #[true, true, true, true, true, true] rfl rfl (by kernel_rfl) (fun _ _ _ h => h) (Or.inl ⟨by rfl, ?_⟩) ?_ ?_
 rotate_left
 ·intro w'
  go_simp
  with_reducible rfl
 rotate_left
 ·simp only [Act.put, List.setIfInBounds_toArray, List.set_cons_zero, List.set_cons_succ, i64_w, i32_w]
  rfl
 refine done_ (by kernel_rfl) ?_
 have czo := blk_all BKo.out
 simp only [CellsAt, List.toList_toArray, Nat.reduceAdd, and_true] at czo
 have fzo := bF BKo.out
 have czb := blk_all BKb.out
 simp only [CellsAt, List.toList_toArray, Nat.reduceAdd, and_true] at czb
 have fzb := bF BKb.out
 by_cases c3 : t1 = a0_3
 case neg =>
  have h := h'.out
  clear h'
  rw [if_neg c3] at h
  have c3a : (t1 == a0_3) = false := oC c3
  have c3b : (t1 != a0_3) = true := bne_iff_ne.mpr c3
  obtain rfl := Option.some.inj h
  go_wp2
  go_ret
  exact ⟨rfl, HB.out⟩
 have h := h'.out
 clear h'
 rw [if_pos c3] at h
 have c3a : (t1 == a0_3) = true := beq_iff_eq.mpr c3
 have c3b : (t1 != a0_3) = false := oD c3
 clear c3
 cases a1_16 with
 | false =>
  rw [if_neg (by decide)] at h
  obtain rfl := Option.some.inj h
  go_wp2
  go_ret
  exact ⟨rfl, HB.out⟩
 | true =>
  rw [if_pos rfl] at h
  replace h := oB h
  obtain ⟨t2, hl_, h⟩ := h
  have HT2 := Aside0.mk hl_
  clear hl_
  replace h : (if t2 > a0_5 then _ else _) = some r := h
  have h' := Aside0.mk h
  clear h
  go_wp2
  clear c3a c3b
  clear czo fzo czb fzb
  replace BKo := q_ (bW BKo.out)
  replace BKb := q_ (bW BKb.out)
  replace HB := q_ (pd_ HB.out)
  try simp only [Act.put, List.setIfInBounds_toArray, List.set_cons_zero, List.set_cons_succ]
  refine start_ (n := 7) (S := fun w' => w'.heap[go]? = some (.cells #[.string a0_0, .string a0_1, .int .i64 a0_2, .int .i64 a0_3, .int .i64 a0_4, .int .i64 a0_5, .int .i64 a0_6, .int .i64 a0_7, .int .i64 a0_8, .int .i64 a0_9, .int .i64 a0_10] 23 (0, 0)) ∧ w'.heap[gb]? = some (.cells #[.string a1_0, .string a1_1, .string a1_2, .int .i64 a1_3, .int .i64 a1_4, .int .i64 a1_5, .int .i64 a1_6, .int .i64 a1_7, .int .i64 a1_8, .int .i64 a1_9, .int .i64 a1_10, .slice A1_11 l1_11.length c1_11, .int .i64 a1_12, .int .i64 a1_13, .int .i64 a1_14, .int .i64 a1_15, .bool true, .int .i64 a1_17] 38 (0, 0))) (ds := []) #[false, false, false, false, false, false, false] (by kernel_rfl) rfl rfl ⟨BKo.out, BKb.out⟩ (fun hHeld => ?_)
  clear hHeld
  generalize w4.drew = w5 at BKo BKb HB ⊢
  refine pure_ (i := 0) (N := some 28) (v := ?_) (a' := ?_) #[true, false, false, false, false, false, false] rfl rfl (by kernel_rfl) (fun _ _ _ h => h) (Or.inl ⟨by rfl, ?_⟩) ?_ ?_
  rotate_left
  ·intro w'
   go_simp
   with_reducible rfl
  rotate_left
  ·simp only [Act.put, List.setIfInBounds_toArray, List.set_cons_zero, List.set_cons_succ, i64_w, i32_w]
   rfl
  refine pure_ (i := 3) (N := some 31) (v := ?_) (a' := ?_) #[true, false, false, true, false, false, false] rfl rfl (by kernel_rfl) (fun _ _ _ h => h) (Or.inl ⟨by rfl, ?_⟩) ?_ ?_
  rotate_left
  ·intro w'
   go_simp
   with_reducible rfl
  rotate_left
  ·simp only [Act.put, List.setIfInBounds_toArray, List.set_cons_zero, List.set_cons_succ, i64_w, i32_w]
   rfl
  refine take_ (i := 1) (N := some 29) (v := ?_) (a' := ?_) #[true, true, false, true, false, false, false] rfl rfl (by kernel_rfl) (fun _ _ _ h => h) (Or.inl ⟨by rfl, ?_⟩) ⟨BKo.out, BKb.out⟩ ?_ ?_
  rotate_left
  ·rintro w' ⟨s0, s1⟩
   have hz := blk_all s1
   simp only [CellsAt, List.toList_toArray, Nat.reduceAdd, and_true] at hz
   go_simp
   with_reducible rfl
  rotate_left
  ·simp only [Act.put, List.setIfInBounds_toArray, List.set_cons_zero, List.set_cons_succ, i64_w, i32_w]
   rfl
  refine take_ (i := 4) (N := some 32) (v := ?_) (a' := ?_) #[true, true, false, true, true, false, false] rfl rfl (by kernel_rfl) (fun _ _ _ h => h) (Or.inl ⟨by rfl, ?_⟩) ⟨BKo.out, BKb.out⟩ ?_ ?_
  rotate_left
  ·rintro w' ⟨s0, s1⟩
   have hz := blk_all s0
   simp only [CellsAt, List.toList_toArray, Nat.reduceAdd, and_true] at hz
   go_simp
   with_reducible rfl
  rotate_left
  ·simp only [Act.put, List.setIfInBounds_toArray, List.set_cons_zero, List.set_cons_succ, i64_w, i32_w]
   rfl
  refine one_ (i := 2) (N := some 30) #[true, true, true, true, true, false, false] rfl rfl (by kernel_rfl) (by decide) (fun K hK => ?_)
  refine goes_ Tryd.func38 (by kernel_rfl) rfl #[.agg #[.int .i64 a1_13, .int .i64 a1_14, .int .i64 a1_15]] (by rfl) rfl rfl (by first | rfl | (simp only [List.map_toArray, List.map_cons, List.map_nil]; rfl)) ?_
  refine (moist_Mean.calls k a1_13 a1_14 a1_15 t2 _ HT2.out).mono ?_
  rintro e w6 ⟨rfl, hb⟩
  refine ⟨_, rfl, ?_⟩
  replace HB := q_ (pT HB.out hb)
  replace BKo := q_ (bB BKo.out hb)
  replace BKb := q_ (bB BKb.out hb)
  clear hb
  refine hK.out _ _ ⟨BKo.out, BKb.out⟩ (fun hHeld => ?_)
  clear hK K hHeld
  refine norm_ (a' := ?_) ?_ ?_
  rotate_left
  ·show Act.put _ (some 30) _ = _
   simp only [Act.put, List.setIfInBounds_toArray, List.set_cons_zero, List.set_cons_succ, i64_w, i32_w]
   rfl
  refine pure_ (i := 5) (N := some 33) (v := ?_) (a' := ?_) #[true, true, true, true, true, true, false] rfl rfl (by kernel_rfl) (fun _ _ _ h => h) (Or.inl ⟨by rfl, ?_⟩) ?_ ?_
  rotate_left
  ·intro w'
   go_simp
   with_reducible rfl
  rotate_left
  ·simp only [Act.put, List.setIfInBounds_toArray, List.set_cons_zero, List.set_cons_succ, i64_w, i32_w]
   rfl
  refine pure_ (i := 6) (N := some 27) (v := ?_) (a' := ?_) #[true, true, true, true, true, true, true] rfl rfl (by kernel_rfl) (fun _ _ _ h => h) (Or.inl ⟨by rfl, ?_⟩) ?_ ?_
  rotate_left
  ·intro w'
   go_simp
   with_reducible rfl
  rotate_left
  ·simp only [Act.put, List.setIfInBounds_toArray, List.set_cons_zero, List.set_cons_succ, i64_w, i32_w]
   rfl
  refine done_ (by kernel_rfl) ?_
  have czo := blk_all BKo.out
  simp only [CellsAt, List.toList_toArray, Nat.reduceAdd, and_true] at czo
  have fzo := bF BKo.out
  have czb := blk_all BKb.out
  simp only [CellsAt, List.toList_toArray, Nat.reduceAdd, and_true] at czb
  have fzb := bF BKb.out
  have h := h'.out
  clear h'
  by_cases c5 : t2 > a0_5
  case pos =>
   rw [if_pos c5] at h
   have c5a : decide (t2 > a0_5) = true := decide_eq_true c5
   obtain rfl := Option.some.inj h
   go_wp2
   go_ret
   exact ⟨rfl, HB.out⟩
  rw [if_neg c5] at h
  have c5a : decide (t2 > a0_5) = false := decide_eq_false c5
  have c5b : (a0_5 < t2) = False := eq_false c5
  by_cases c6 : a1_17 < 1
  case pos =>
   rw [if_pos c6] at h
   have c6a : decide (a1_17 < 1) = true := decide_eq_true c6
   obtain rfl := Option.some.inj h
   go_wp2
   go_ret
   exact ⟨rfl, HB.out⟩
  rw [if_neg c6] at h
  have c6a : decide (a1_17 < 1) = false := decide_eq_false c6
  by_cases c7 : a1_17 > a0_4
  case pos =>
   rw [if_pos c7] at h
   have c7a : decide (a1_17 > a0_4) = true := decide_eq_true c7
   obtain rfl := Option.some.inj h
   go_wp2
   go_ret
   exact ⟨rfl, HB.out⟩
  rw [if_neg c7] at h
  have c7a : decide (a1_17 > a0_4) = false := decide_eq_false c7
  obtain rfl := Option.some.inj h
  go_wp2
  go_ret
  exact ⟨rfl, HB.out⟩
end Go.Proofs.YtblmgmhjlbkncaaDoor.PA
namespace Go.Proofs.YtblmgmhjlbkncaaDoor.PA
open Go.RowKit Go.Proofs.YtblmgmhjlbkncaaDoorW.PrintWords Go.Proofs.YtblmgmhjlbkncaaDoorW.PrintLast Go.Proofs.YtblmgmhjlbkncaaDoorW.PrintMore
attribute [local go_sem] max2_int min2_int max_two min_two max_three min_three max_four min_four
set_option linter.unusedVariables false
set_option linter.unusedSimpArgs false
def order_Least.f (a0_0 : ByteArray) (a0_1 : ByteArray) (a0_2 : Int) (a0_3 : Int) (a0_4 : Int) (a0_5 : Int) (a0_6 : Int) (a0_7 : Int) (a0_8 : Int) (a0_9 : Int) (a0_10 : Int) : Option (Int) := (order_sound.f a0_0 a0_1 a0_2 a0_3 a0_4 a0_5 a0_6 a0_7 a0_8 a0_9 a0_10).bind fun t156 => (if t156 = true then (some (wrap64 (a0_6 - a0_7))) else (some 0))
set_option maxHeartbeats 8000000 in
set_option maxRecDepth 100000 in
theorem order_Least.calls (a0_0 : ByteArray) (a0_1 : ByteArray) (a0_2 : Int) (a0_3 : Int) (a0_4 : Int) (a0_5 : Int) (a0_6 : Int) (a0_7 : Int) (a0_8 : Int) (a0_9 : Int) (a0_10 : Int) (r : Int) (w : World) (h : order_Least.f a0_0 a0_1 a0_2 a0_3 a0_4 a0_5 a0_6 a0_7 a0_8 a0_9 a0_10 = some r) :
  Calls Tryd.prog 16 #[.agg #[.string a0_0, .string a0_1, .int .i64 a0_2, .int .i64 a0_3, .int .i64 a0_4, .int .i64 a0_5, .int .i64 a0_6, .int .i64 a0_7, .int .i64 a0_8, .int .i64 a0_9, .int .i64 a0_10]] w fun e w' => e = .returned (.int .i64 r) ∧ Below w.heap.size w w' := by
 have hu23 := Tryd.underlying23
 have HB := q_ (Below.refl w.heap.size w)
 have H : ((order_sound.f a0_0 a0_1 a0_2 a0_3 a0_4 a0_5 a0_6 a0_7 a0_8 a0_9 a0_10).bind fun t156 => (if t156 = true then (some (wrap64 (a0_6 - a0_7))) else (some 0))) = some r := h
 clear h
 replace H := oB H
 obtain ⟨t156, A20, H⟩ := H
 replace H : (if t156 = true then (some (wrap64 (a0_6 - a0_7))) else (some 0)) = some r := H
 have A2 := Aside0.mk A20
 clear A20
 by_cases c3 : t156 = true
 ·subst c3
  have H1 : (some (wrap64 (a0_6 - a0_7))) = some r := by rw [if_pos rfl] at H; exact H
  clear H
  have H := H1
  clear H1
  obtain rfl := Option.some.inj H
  go_enter Tryd.func16, Tryd.ntmps16
  go_wp2_with (first | (refine wpList_load_cells (by rfl) 23 _ (by exact rfl) ⟨gb155, 0, none⟩ (by rfl) _ _ (cells_of_blk (by (with_reducible repeat (first | refine bN ?_ _ | refine bW ?_ | refine bA ?_ _)); exact BK155.out)) Tryd.underlying23 rfl (by kernel_rfl) ?_) | ((with_reducible refine gate_dst (N := 1) rfl ?_); refine box_event ?hg (N := 1) ?hd (cs := #[.string a0_0, .string a0_1, .int .i64 a0_2, .int .i64 a0_3, .int .i64 a0_4, .int .i64 a0_5, .int .i64 a0_6, .int .i64 a0_7, .int .i64 a0_8, .int .i64 a0_9, .int .i64 a0_10]) (t := 23) ?hr ?_; (case hd => rfl); (case hg => rfl); (case hr => first | (go_simp; done) | (go_simp; rfl)); intro gb155 hg w4 hbox hb; have n0_ := q_ (pT (by repeat (first | (with_reducible first | exact HB.out | apply pA | apply pN | apply pd_) | exact HB.out)) hb); have n1_ := q_ (hbox); have n2_ := q_ ((by rw [hg]; exact (pZ (by repeat (first | (with_reducible first | exact HB.out | apply pA | apply pN | apply pd_) | exact HB.out))) : w.heap.size ≤ gb155)); have n3_ := n2_; clear HB; have HB := n0_; have BK155 := n1_; have GW155 := n2_; have GE155 := n3_; clear n0_ n1_ n2_ n3_; clear hb hbox hg; have hcz5 := blk_all BK155.out; simp only [CellsAt, List.toList_toArray, Nat.reduceAdd, and_true] at hcz5; have hfz5 := bF BK155.out) | ((with_reducible refine gate_callee (f := 31) rfl ?_); refine goesL_ (some 4) rfl rfl Tryd.func31 (by kernel_rfl) rfl #[.agg #[.string a0_0, .string a0_1, .int .i64 a0_2, .int .i64 a0_3, .int .i64 a0_4, .int .i64 a0_5, .int .i64 a0_6, .int .i64 a0_7, .int .i64 a0_8, .int .i64 a0_9, .int .i64 a0_10]] rfl (by first | rfl | (simp only [List.map_toArray]; rfl)) ?_; (with_reducible refine (order_sound.calls a0_0 a0_1 a0_2 a0_3 a0_4 a0_5 a0_6 a0_7 a0_8 a0_9 a0_10 true _ A2.out).mono ?_); rintro e w6 ⟨rfl, hb⟩; refine ⟨_, rfl, ?_⟩; have n0_ := q_ (bB (g := gb155) (by (with_reducible repeat (first | refine bN ?_ _ | refine bW ?_ | refine bA ?_ _)); exact BK155.out) hb); have n1_ := q_ (pT (by repeat (first | (with_reducible first | exact HB.out | apply pA | apply pN | apply pd_ | refine pS ?_ GE155.out) | exact HB.out)) hb); clear BK155; clear HB; have BK155 := n0_; have HB := n1_; clear n0_ n1_; (try clear hb); (try clear hb2); (try clear hk); (try clear hi); have hcz7 := blk_all BK155.out; simp only [CellsAt, List.toList_toArray, Nat.reduceAdd, and_true] at hcz7; have hfz7 := bF BK155.out))
  go_ret
  exact ⟨by first | rfl | (simp [*] <;> rfl), by repeat (first | (with_reducible first | exact HB.out | apply pA | apply pN | apply pd_ | refine pS ?_ GE155.out) | exact HB.out)⟩
 ·replace c3 := Bool.eq_false_iff.mpr c3
  subst c3
  have H1 : (some 0) = some r := by rw [if_neg (show ¬ (false = true) by decide)] at H; exact H
  clear H
  have H := H1
  clear H1
  obtain rfl := Option.some.inj H
  go_enter Tryd.func16, Tryd.ntmps16
  go_wp2_with (first | (refine wpList_load_cells (by rfl) 23 _ (by exact rfl) ⟨gb155, 0, none⟩ (by rfl) _ _ (cells_of_blk (by (with_reducible repeat (first | refine bN ?_ _ | refine bW ?_ | refine bA ?_ _)); exact BK155.out)) Tryd.underlying23 rfl (by kernel_rfl) ?_) | ((with_reducible refine gate_dst (N := 1) rfl ?_); refine box_event ?hg (N := 1) ?hd (cs := #[.string a0_0, .string a0_1, .int .i64 a0_2, .int .i64 a0_3, .int .i64 a0_4, .int .i64 a0_5, .int .i64 a0_6, .int .i64 a0_7, .int .i64 a0_8, .int .i64 a0_9, .int .i64 a0_10]) (t := 23) ?hr ?_; (case hd => rfl); (case hg => rfl); (case hr => first | (go_simp; done) | (go_simp; rfl)); intro gb155 hg w8 hbox hb; have n0_ := q_ (pT (by repeat (first | (with_reducible first | exact HB.out | apply pA | apply pN | apply pd_) | exact HB.out)) hb); have n1_ := q_ (hbox); have n2_ := q_ ((by rw [hg]; exact (pZ (by repeat (first | (with_reducible first | exact HB.out | apply pA | apply pN | apply pd_) | exact HB.out))) : w.heap.size ≤ gb155)); have n3_ := n2_; clear HB; have HB := n0_; have BK155 := n1_; have GW155 := n2_; have GE155 := n3_; clear n0_ n1_ n2_ n3_; clear hb hbox hg; have hcz9 := blk_all BK155.out; simp only [CellsAt, List.toList_toArray, Nat.reduceAdd, and_true] at hcz9; have hfz9 := bF BK155.out) | ((with_reducible refine gate_callee (f := 31) rfl ?_); refine goesL_ (some 4) rfl rfl Tryd.func31 (by kernel_rfl) rfl #[.agg #[.string a0_0, .string a0_1, .int .i64 a0_2, .int .i64 a0_3, .int .i64 a0_4, .int .i64 a0_5, .int .i64 a0_6, .int .i64 a0_7, .int .i64 a0_8, .int .i64 a0_9, .int .i64 a0_10]] rfl (by first | rfl | (simp only [List.map_toArray]; rfl)) ?_; (with_reducible refine (order_sound.calls a0_0 a0_1 a0_2 a0_3 a0_4 a0_5 a0_6 a0_7 a0_8 a0_9 a0_10 false _ A2.out).mono ?_); rintro e w10 ⟨rfl, hb⟩; refine ⟨_, rfl, ?_⟩; have n0_ := q_ (bB (g := gb155) (by (with_reducible repeat (first | refine bN ?_ _ | refine bW ?_ | refine bA ?_ _)); exact BK155.out) hb); have n1_ := q_ (pT (by repeat (first | (with_reducible first | exact HB.out | apply pA | apply pN | apply pd_ | refine pS ?_ GE155.out) | exact HB.out)) hb); clear BK155; clear HB; have BK155 := n0_; have HB := n1_; clear n0_ n1_; (try clear hb); (try clear hb2); (try clear hk); (try clear hi)))
  go_ret
  exact ⟨by first | rfl | (simp [*] <;> rfl), by repeat (first | (with_reducible first | exact HB.out | apply pA | apply pN | apply pd_ | refine pS ?_ GE155.out) | exact HB.out)⟩
def order_Most.f (a0_0 : ByteArray) (a0_1 : ByteArray) (a0_2 : Int) (a0_3 : Int) (a0_4 : Int) (a0_5 : Int) (a0_6 : Int) (a0_7 : Int) (a0_8 : Int) (a0_9 : Int) (a0_10 : Int) : Option (Int) := (order_sound.f a0_0 a0_1 a0_2 a0_3 a0_4 a0_5 a0_6 a0_7 a0_8 a0_9 a0_10).bind fun t158 => (if t158 = true then (some (wrap64 (a0_6 + a0_8))) else (some 0))
set_option maxHeartbeats 8000000 in
set_option maxRecDepth 100000 in
theorem order_Most.calls (a0_0 : ByteArray) (a0_1 : ByteArray) (a0_2 : Int) (a0_3 : Int) (a0_4 : Int) (a0_5 : Int) (a0_6 : Int) (a0_7 : Int) (a0_8 : Int) (a0_9 : Int) (a0_10 : Int) (r : Int) (w : World) (h : order_Most.f a0_0 a0_1 a0_2 a0_3 a0_4 a0_5 a0_6 a0_7 a0_8 a0_9 a0_10 = some r) :
  Calls Tryd.prog 18 #[.agg #[.string a0_0, .string a0_1, .int .i64 a0_2, .int .i64 a0_3, .int .i64 a0_4, .int .i64 a0_5, .int .i64 a0_6, .int .i64 a0_7, .int .i64 a0_8, .int .i64 a0_9, .int .i64 a0_10]] w fun e w' => e = .returned (.int .i64 r) ∧ Below w.heap.size w w' := by
 have hu23 := Tryd.underlying23
 have HB := q_ (Below.refl w.heap.size w)
 have H : ((order_sound.f a0_0 a0_1 a0_2 a0_3 a0_4 a0_5 a0_6 a0_7 a0_8 a0_9 a0_10).bind fun t158 => (if t158 = true then (some (wrap64 (a0_6 + a0_8))) else (some 0))) = some r := h
 clear h
 replace H := oB H
 obtain ⟨t158, A20, H⟩ := H
 replace H : (if t158 = true then (some (wrap64 (a0_6 + a0_8))) else (some 0)) = some r := H
 have A2 := Aside0.mk A20
 clear A20
 by_cases c3 : t158 = true
 ·subst c3
  have H1 : (some (wrap64 (a0_6 + a0_8))) = some r := by rw [if_pos rfl] at H; exact H
  clear H
  have H := H1
  clear H1
  obtain rfl := Option.some.inj H
  go_enter Tryd.func18, Tryd.ntmps18
  go_wp2_with (first | (refine wpList_load_cells (by rfl) 23 _ (by exact rfl) ⟨gb157, 0, none⟩ (by rfl) _ _ (cells_of_blk (by (with_reducible repeat (first | refine bN ?_ _ | refine bW ?_ | refine bA ?_ _)); exact BK157.out)) Tryd.underlying23 rfl (by kernel_rfl) ?_) | ((with_reducible refine gate_dst (N := 1) rfl ?_); refine box_event ?hg (N := 1) ?hd (cs := #[.string a0_0, .string a0_1, .int .i64 a0_2, .int .i64 a0_3, .int .i64 a0_4, .int .i64 a0_5, .int .i64 a0_6, .int .i64 a0_7, .int .i64 a0_8, .int .i64 a0_9, .int .i64 a0_10]) (t := 23) ?hr ?_; (case hd => rfl); (case hg => rfl); (case hr => first | (go_simp; done) | (go_simp; rfl)); intro gb157 hg w4 hbox hb; have n0_ := q_ (pT (by repeat (first | (with_reducible first | exact HB.out | apply pA | apply pN | apply pd_) | exact HB.out)) hb); have n1_ := q_ (hbox); have n2_ := q_ ((by rw [hg]; exact (pZ (by repeat (first | (with_reducible first | exact HB.out | apply pA | apply pN | apply pd_) | exact HB.out))) : w.heap.size ≤ gb157)); have n3_ := n2_; clear HB; have HB := n0_; have BK157 := n1_; have GW157 := n2_; have GE157 := n3_; clear n0_ n1_ n2_ n3_; clear hb hbox hg; have hcz5 := blk_all BK157.out; simp only [CellsAt, List.toList_toArray, Nat.reduceAdd, and_true] at hcz5; have hfz5 := bF BK157.out) | ((with_reducible refine gate_callee (f := 31) rfl ?_); refine goesL_ (some 4) rfl rfl Tryd.func31 (by kernel_rfl) rfl #[.agg #[.string a0_0, .string a0_1, .int .i64 a0_2, .int .i64 a0_3, .int .i64 a0_4, .int .i64 a0_5, .int .i64 a0_6, .int .i64 a0_7, .int .i64 a0_8, .int .i64 a0_9, .int .i64 a0_10]] rfl (by first | rfl | (simp only [List.map_toArray]; rfl)) ?_; (with_reducible refine (order_sound.calls a0_0 a0_1 a0_2 a0_3 a0_4 a0_5 a0_6 a0_7 a0_8 a0_9 a0_10 true _ A2.out).mono ?_); rintro e w6 ⟨rfl, hb⟩; refine ⟨_, rfl, ?_⟩; have n0_ := q_ (bB (g := gb157) (by (with_reducible repeat (first | refine bN ?_ _ | refine bW ?_ | refine bA ?_ _)); exact BK157.out) hb); have n1_ := q_ (pT (by repeat (first | (with_reducible first | exact HB.out | apply pA | apply pN | apply pd_ | refine pS ?_ GE157.out) | exact HB.out)) hb); clear BK157; clear HB; have BK157 := n0_; have HB := n1_; clear n0_ n1_; (try clear hb); (try clear hb2); (try clear hk); (try clear hi); have hcz7 := blk_all BK157.out; simp only [CellsAt, List.toList_toArray, Nat.reduceAdd, and_true] at hcz7; have hfz7 := bF BK157.out))
  go_ret
  exact ⟨by first | rfl | (simp [*] <;> rfl), by repeat (first | (with_reducible first | exact HB.out | apply pA | apply pN | apply pd_ | refine pS ?_ GE157.out) | exact HB.out)⟩
 ·replace c3 := Bool.eq_false_iff.mpr c3
  subst c3
  have H1 : (some 0) = some r := by rw [if_neg (show ¬ (false = true) by decide)] at H; exact H
  clear H
  have H := H1
  clear H1
  obtain rfl := Option.some.inj H
  go_enter Tryd.func18, Tryd.ntmps18
  go_wp2_with (first | (refine wpList_load_cells (by rfl) 23 _ (by exact rfl) ⟨gb157, 0, none⟩ (by rfl) _ _ (cells_of_blk (by (with_reducible repeat (first | refine bN ?_ _ | refine bW ?_ | refine bA ?_ _)); exact BK157.out)) Tryd.underlying23 rfl (by kernel_rfl) ?_) | ((with_reducible refine gate_dst (N := 1) rfl ?_); refine box_event ?hg (N := 1) ?hd (cs := #[.string a0_0, .string a0_1, .int .i64 a0_2, .int .i64 a0_3, .int .i64 a0_4, .int .i64 a0_5, .int .i64 a0_6, .int .i64 a0_7, .int .i64 a0_8, .int .i64 a0_9, .int .i64 a0_10]) (t := 23) ?hr ?_; (case hd => rfl); (case hg => rfl); (case hr => first | (go_simp; done) | (go_simp; rfl)); intro gb157 hg w8 hbox hb; have n0_ := q_ (pT (by repeat (first | (with_reducible first | exact HB.out | apply pA | apply pN | apply pd_) | exact HB.out)) hb); have n1_ := q_ (hbox); have n2_ := q_ ((by rw [hg]; exact (pZ (by repeat (first | (with_reducible first | exact HB.out | apply pA | apply pN | apply pd_) | exact HB.out))) : w.heap.size ≤ gb157)); have n3_ := n2_; clear HB; have HB := n0_; have BK157 := n1_; have GW157 := n2_; have GE157 := n3_; clear n0_ n1_ n2_ n3_; clear hb hbox hg; have hcz9 := blk_all BK157.out; simp only [CellsAt, List.toList_toArray, Nat.reduceAdd, and_true] at hcz9; have hfz9 := bF BK157.out) | ((with_reducible refine gate_callee (f := 31) rfl ?_); refine goesL_ (some 4) rfl rfl Tryd.func31 (by kernel_rfl) rfl #[.agg #[.string a0_0, .string a0_1, .int .i64 a0_2, .int .i64 a0_3, .int .i64 a0_4, .int .i64 a0_5, .int .i64 a0_6, .int .i64 a0_7, .int .i64 a0_8, .int .i64 a0_9, .int .i64 a0_10]] rfl (by first | rfl | (simp only [List.map_toArray]; rfl)) ?_; (with_reducible refine (order_sound.calls a0_0 a0_1 a0_2 a0_3 a0_4 a0_5 a0_6 a0_7 a0_8 a0_9 a0_10 false _ A2.out).mono ?_); rintro e w10 ⟨rfl, hb⟩; refine ⟨_, rfl, ?_⟩; have n0_ := q_ (bB (g := gb157) (by (with_reducible repeat (first | refine bN ?_ _ | refine bW ?_ | refine bA ?_ _)); exact BK157.out) hb); have n1_ := q_ (pT (by repeat (first | (with_reducible first | exact HB.out | apply pA | apply pN | apply pd_ | refine pS ?_ GE157.out) | exact HB.out)) hb); clear BK157; clear HB; have BK157 := n0_; have HB := n1_; clear n0_ n1_; (try clear hb); (try clear hb2); (try clear hk); (try clear hi)))
  go_ret
  exact ⟨by first | rfl | (simp [*] <;> rfl), by repeat (first | (with_reducible first | exact HB.out | apply pA | apply pN | apply pd_ | refine pS ?_ GE157.out) | exact HB.out)⟩
def fitOf (k : Nat) (a0 a1 : ByteArray) (a2 a3 a4 a5 a6 a7 a8 a9 a10 : Int) (x : S38) : Option Int :=
 order_Fits.f k a0 a1 a2 a3 a4 a5 a6 a7 a8 a9 a10 x.f0 x.f1 x.f2 x.f3 x.f4.f0.f0 x.f4.f0.f1 x.f4.f1.f0 x.f4.f1.f1 x.f4.f2.f0 x.f4.f2.f1 x.f5 x.f6 x.f7 x.f8.f0 x.f8.f1 x.f8.f2 x.f9 x.f10
def order_Filled.g (k : Nat) (a0 a1 : ByteArray) (a2 a3 a4 a5 a6 a7 a8 a9 a10 : Int) : List S38 → List (List UInt8) → Option Bool
 | [], _ => some true
 | x :: r, seen => if x.f0.size ≤ maxLen then (if x.f0.data.toList ∈ seen then some false else (fitOf k a0 a1 a2 a3 a4 a5 a6 a7 a8 a9 a10 x).bind fun t => (if t = 0 then order_Filled.g k a0 a1 a2 a3 a4 a5 a6 a7 a8 a9 a10 r (x.f0.data.toList :: seen) else some false)) else none
def order_Filled.f (k : Nat) (a0_0 a0_1 : ByteArray) (a0_2 a0_3 a0_4 a0_5 a0_6 a0_7 a0_8 a0_9 a0_10 : Int) (l1 : List S38) : Option Bool :=
 if l1.length ≤ 1000000 then ((order_sound.f a0_0 a0_1 a0_2 a0_3 a0_4 a0_5 a0_6 a0_7 a0_8 a0_9 a0_10).bind fun t1 => if t1 = true then ((order_Least.f a0_0 a0_1 a0_2 a0_3 a0_4 a0_5 a0_6 a0_7 a0_8 a0_9 a0_10).bind fun t2 => if (l1.length : Int) < t2 then some false else ((order_Most.f a0_0 a0_1 a0_2 a0_3 a0_4 a0_5 a0_6 a0_7 a0_8 a0_9 a0_10).bind fun t3 => if (l1.length : Int) > t3 then some false else order_Filled.g k a0_0 a0_1 a0_2 a0_3 a0_4 a0_5 a0_6 a0_7 a0_8 a0_9 a0_10 l1 [])) else some false) else none
theorem grown_below {w w' : World} (h : Below w.heap.size w w') (row : Option Nat) : w.grownBy w' row := ⟨h.os, h.tape, h.output, h.size, fun k hk _ => h.block k hk⟩
theorem wpList_lookup_own_bool {H : Type} {P : Program} (w : World) {ops : Array Oper} {rest : List Oper} {o : Oper} {a : Act} {Q : Exit → Act → World → Prop}
  (hg : o.guard = none) (m x : Operand) (t : TypeId) (hop : o.op = Op.lookup t m x false)
  (k e : TypeId) (K : Go.Maps.Keyed P k) (ht : P.underlying t = some (.map k e)) (he : P.underlying e = some .bool) (hz : (zeroValue e).run P w = .ok (.bool false) w) (b n : Nat) (D : DataW H)
  (hm : a.eval m = .map (some b)) (hown : w.ownsMap P k (plainElem P e) b n D) (key : Value) (kl : Lit) (hx : a.eval x = key) (hkey : keyOf P k key = some kl)
  (hK : ∀ c : Bool, D.atKey kl (.lit (.bool false)) = .lit (.bool c) → wpList P ops Q rest (a.put o.dst (.bool c)) w) :
  wpList P ops Q (o :: rest) a w := by
 refine wpList_plain hg fun K' hK' => ?_
 obtain ⟨v, ps, hrun, hv⟩ := hown.lookup K ht hz (plainElem_bool he false) hkey
 obtain ⟨c, rfl, hc⟩ : ∃ c, v = .bool c ∧ D.atKey kl (.lit (.bool false)) = .lit (.bool c) := by
  unfold plainElem at hv
  rw [he] at hv
  cases v <;> simp at hv
  exact ⟨_, rfl, hv.1.symm⟩
 unfold Oper.wp
 simp [execOp, hop, hm, hx, hrun, Result.andThen]
 exact hK' _ _ (hK c hc)
set_option maxHeartbeats 8000000 in
set_option maxRecDepth 100000 in
theorem unfit_calls (k : Nat) (a0 a1 : ByteArray) (a2 a3 a4 a5 a6 a7 a8 a9 a10 : Int) (x : S38) (A : Option Addr) (c : Nat) (w W : World) (Bs Bo Bm n : Nat) (D : DataW Unit) (tw : Bool) (fit : Int) (hb : Below w.heap.size w W) (hBm : w.heap.size ≤ Bm)
  (hs : W.cell? ⟨Bs, 0, none⟩ = some (.map (some Bm))) (ho : W.heap[Bo]? = some (.cells #[.string a0, .string a1, .int .i64 a2, .int .i64 a3, .int .i64 a4, .int .i64 a5, .int .i64 a6, .int .i64 a7, .int .i64 a8, .int .i64 a9, .int .i64 a10] 23 (0, 0)))
  (hm : W.ownsMap Tryd.prog 9 (plainElem Tryd.prog 4) Bm n D) (hn : n < maxLen) (hsz : x.f0.size ≤ maxLen) (hat : D.atKey (.string x.f0.data.toList) (.lit (.bool false)) = .lit (.bool tw))
  (hC : Kd.C k176 w A x.f6.length x.f6) (hc : x.f6.length ≤ c) (hfit : tw = false → fitOf k a0 a1 a2 a3 a4 a5 a6 a7 a8 a9 a10 x = some fit) :
  Calls Tryd.prog 41 #[.agg #[.string x.f0, .string x.f1, .string x.f2, .int .i64 x.f3, .int .i64 x.f4.f0.f0, .int .i64 x.f4.f0.f1, .int .i64 x.f4.f1.f0, .int .i64 x.f4.f1.f1, .int .i64 x.f4.f2.f0, .int .i64 x.f4.f2.f1, .int .i64 x.f5, .slice A x.f6.length c, .int .i64 x.f7, .int .i64 x.f8.f0, .int .i64 x.f8.f1, .int .i64 x.f8.f2, .bool x.f9, .int .i64 x.f10], .pointer (some ⟨Bs, 0, none⟩), .pointer (some ⟨Bo, 0, none⟩)] W fun e W' => e = .returned (.bool (tw || (fit != 0))) ∧ W.grownBy W' (some Bm) ∧ W'.ownsMap Tryd.prog 9 (plainElem Tryd.prog 4) Bm (n + 1) (D.put (.string x.f0.data.toList) (.lit (.bool true))) := by
 have hkey : keyOf Tryd.prog 9 (.string x.f0) = some (.string x.f0.data.toList) := Go.WideMaps.keyOf_string_mk Tryd.underlying9 hsz
 have zb : ∀ w : World, (zeroValue 4).run Tryd.prog w = .ok (.bool false) w := fun w => by kernel_rfl
 have ltm := hm.lt
 have lts : Bs < W.heap.size := World.block_lt_of_cell? W ⟨Bs, 0, none⟩ hs
 have lto : Bo < W.heap.size := (Array.getElem?_eq_some_iff.1 ho).1
 have nes : Bs ≠ W.heap.size := by omega
 have neo : Bo ≠ W.heap.size := by omega
 have neo' : Bo ≠ Bm := by
  rintro rfl
  obtain ⟨es, clock, hb', -⟩ := hm
  rw [ho] at hb'
  cases hb'
 have nem : W.heap.size ≠ Bm := by omega
 have HM := Aside0.mk hm
 have HO := Aside0.mk ho
 have HB := Aside0.mk hb
 have HC := Aside0.mk hC
 have HF := Aside0.mk hfit
 have HT := Aside0.mk hat
 clear hm ho hb hC hfit hat
 cases tw with
 | true =>
  as_aux_lemma =>
  go_enter Tryd.func41, Tryd.ntmps41
  go_wp2_with (first
   | (at_lookup; refine wpList_lookup_own_bool _ rfl _ _ 65 rfl 9 4 (Go.Maps.string_keyed Tryd.underlying9) Tryd.underlying65 Tryd.underlying4 (zb _) Bm n D rfl (HM.out.alloc _) _ _ rfl hkey ?_; intro c' hc'; obtain rfl : c' = true := by (have h_ := hc'.symm.trans HT.out; injection h_ with h_; injection h_))
   | (at_mapUpdate; refine wpList_mapUpdate_own _ rfl _ _ _ 65 rfl 9 4 (Go.Maps.string_keyed Tryd.underlying9) Tryd.underlying65 (plainElem Tryd.prog 4) Bm n D rfl (HM.out.alloc _) hn _ _ _ rfl rfl hkey _ [] (plainElem_bool Tryd.underlying4 true) ?_; intro w1 hown1 hgrow1; have HG := Aside0.mk hgrow1; have HW := Aside0.mk hown1; clear hgrow1 hown1))
  go_ret
  exact ⟨by simp, (World.grownBy_alloc _ _ _).trans HG.out, HW.out⟩
 | false =>
  have hf : order_Fits.f k a0 a1 a2 a3 a4 a5 a6 a7 a8 a9 a10 x.f0 x.f1 x.f2 x.f3 x.f4.f0.f0 x.f4.f0.f1 x.f4.f1.f0 x.f4.f1.f1 x.f4.f2.f0 x.f4.f2.f1 x.f5 x.f6 x.f7 x.f8.f0 x.f8.f1 x.f8.f2 x.f9 x.f10 = some fit := HF.out rfl
  as_aux_lemma =>
  go_enter Tryd.func41, Tryd.ntmps41
  go_wp2_with (first
   | (at_lookup; refine wpList_lookup_own_bool _ rfl _ _ 65 rfl 9 4 (Go.Maps.string_keyed Tryd.underlying9) Tryd.underlying65 Tryd.underlying4 (zb _) Bm n D rfl (HM.out.alloc _) _ _ rfl hkey ?_; intro c' hc'; obtain rfl : c' = false := by (have h_ := hc'.symm.trans HT.out; injection h_ with h_; injection h_))
   | (at_mapUpdate; refine wpList_mapUpdate_own _ rfl _ _ _ 65 rfl 9 4 (Go.Maps.string_keyed Tryd.underlying9) Tryd.underlying65 (plainElem Tryd.prog 4) Bm n D rfl (HM.out.alloc _) hn _ _ _ rfl rfl hkey _ [] (plainElem_bool Tryd.underlying4 true) ?_; intro w1 hown1 hgrow1; have ho1 : w1.heap[Bo]? = some (.cells #[.string a0, .string a1, .int .i64 a2, .int .i64 a3, .int .i64 a4, .int .i64 a5, .int .i64 a6, .int .i64 a7, .int .i64 a8, .int .i64 a9, .int .i64 a10] 23 (0, 0)) := (hgrow1.block Bo (Nat.lt_of_lt_of_le lto (by simp)) (by simpa using neo')).trans ((heap_alloc_old W _ lto).trans HO.out); have hx1 : w1.heap[W.heap.size]? = some (.cells #[.string x.f0, .string x.f1, .string x.f2, .int .i64 x.f3, .int .i64 x.f4.f0.f0, .int .i64 x.f4.f0.f1, .int .i64 x.f4.f1.f0, .int .i64 x.f4.f1.f1, .int .i64 x.f4.f2.f0, .int .i64 x.f4.f2.f1, .int .i64 x.f5, .slice A x.f6.length c, .int .i64 x.f7, .int .i64 x.f8.f0, .int .i64 x.f8.f1, .int .i64 x.f8.f2, .bool x.f9, .int .i64 x.f10] 38 (0, 0)) := (hgrow1.block W.heap.size (by simp) (by simpa using nem)).trans (heap_alloc_new W _); have HG := Aside0.mk hgrow1; have HW := Aside0.mk hown1; clear hgrow1 hown1; have HX := Aside0.mk hx1; have HO1 := Aside0.mk ho1; clear hx1 ho1)
   | (refine wpList_load_cells (by rfl) 23 _ (by exact rfl) ⟨Bo, 0, none⟩ (by rfl) #[.string a0, .string a1, .int .i64 a2, .int .i64 a3, .int .i64 a4, .int .i64 a5, .int .i64 a6, .int .i64 a7, .int .i64 a8, .int .i64 a9, .int .i64 a10] _ (by exact cells_of_blk HO1.out) Tryd.underlying23 rfl (by kernel_rfl) ?_)
   | (refine wpList_load_cells (by rfl) 38 _ (by exact rfl) ⟨W.heap.size, 0, none⟩ (by rfl) #[.string x.f0, .string x.f1, .string x.f2, .int .i64 x.f3, .int .i64 x.f4.f0.f0, .int .i64 x.f4.f0.f1, .int .i64 x.f4.f1.f0, .int .i64 x.f4.f1.f1, .int .i64 x.f4.f2.f0, .int .i64 x.f4.f2.f1, .int .i64 x.f5, .slice A x.f6.length c, .int .i64 x.f7, .int .i64 x.f8.f0, .int .i64 x.f8.f1, .int .i64 x.f8.f2, .bool x.f9, .int .i64 x.f10] _ (by exact cells_of_blk HX.out) Tryd.underlying38 rfl (by kernel_rfl) ?_)
   | (go_at_call 14; (with_reducible refine (order_Fits.calls k a0 a1 a2 a3 a4 a5 a6 a7 a8 a9 a10 x.f0 x.f1 x.f2 x.f3 x.f4.f0.f0 x.f4.f0.f1 x.f4.f1.f0 x.f4.f1.f1 x.f4.f2.f0 x.f4.f2.f1 x.f5 A c x.f6 x.f7 x.f8.f0 x.f8.f1 x.f8.f2 x.f9 x.f10 fit _ (Kd.C_below HC.out ((HB.out.alloc HB.out.size _).grown HG.out (by have := HB.out.size; simp; omega) (fun j hj => by cases hj; exact hBm))) hc hf).mono ?_); rintro e w2 ⟨rfl, hb2⟩))
  go_ret
  exact ⟨by simp, ((World.grownBy_alloc _ _ _).trans HG.out).trans (grown_below hb2 _), HW.out.kept (grown_below hb2 none) (by simp)⟩
theorem add_add (a : Addr) (m n : Nat) : (a.add m).add n = a.add (m + n) := by
 unfold Addr.add
 by_cases h1 : m = 0 <;> by_cases h2 : n = 0 <;> simp [h1, h2, Nat.add_assoc]
structure FilInv (k : Nat) (a0 a1 : ByteArray) (a2 a3 a4 a5 a6 a7 a8 a9 a10 : Int) (l1 : List S38) (w : World) (Bs Bo Bm : Nat) (r : Bool) (kk : Nat) (wr : World) : Prop where
 bel : Below w.heap.size w wr
 seen : wr.cell? ⟨Bs, 0, none⟩ = some (.map (some Bm))
 ord : wr.heap[Bo]? = some (.cells #[.string a0, .string a1, .int .i64 a2, .int .i64 a3, .int .i64 a4, .int .i64 a5, .int .i64 a6, .int .i64 a7, .int .i64 a8, .int .i64 a9, .int .i64 a10] 23 (0, 0))
 ids : ∃ (D : DataW Unit) (ids : List (List UInt8)), wr.ownsMap Tryd.prog 9 (plainElem Tryd.prog 4) Bm kk D ∧ Go.Maps.IsMap D ∧ (∀ s : List UInt8, D.atKey (.string s) (.lit (.bool false)) = .lit (.bool (decide (s ∈ ids)))) ∧ order_Filled.g k a0 a1 a2 a3 a4 a5 a6 a7 a8 a9 a10 (l1.drop kk) ids = some r
theorem FilInv.next {k : Nat} {a0 a1 : ByteArray} {a2 a3 a4 a5 a6 a7 a8 a9 a10 : Int} {l1 : List S38} {w wr w2 : World} {Bs Bo Bm kk : Nat} {r : Bool} (I : FilInv k a0 a1 a2 a3 a4 a5 a6 a7 a8 a9 a10 l1 w Bs Bo Bm r kk wr) (hBm : w.heap.size ≤ Bm) (x : S38) (D : DataW Unit) (ids : List (List UInt8)) (hD : Go.Maps.IsMap D) (hat : ∀ s : List UInt8, D.atKey (.string s) (.lit (.bool false)) = .lit (.bool (decide (s ∈ ids))))
  (hg : wr.grownBy w2 (some Bm)) (hm : w2.ownsMap Tryd.prog 9 (plainElem Tryd.prog 4) Bm (kk + 1) (D.put (.string x.f0.data.toList) (.lit (.bool true)))) (hm0 : ∃ es clock, wr.heap[Bm]? = some (.map es clock)) (hg' : order_Filled.g k a0 a1 a2 a3 a4 a5 a6 a7 a8 a9 a10 (l1.drop (kk + 1)) (x.f0.data.toList :: ids) = some r) : FilInv k a0 a1 a2 a3 a4 a5 a6 a7 a8 a9 a10 l1 w Bs Bo Bm r (kk + 1) w2 := by
 have nes : Bs ≠ Bm := by
  rintro rfl
  obtain ⟨es, clock, h1⟩ := hm0
  have := I.seen
  simp [World.cell?, h1] at this
 have neo : Bo ≠ Bm := by
  rintro rfl
  obtain ⟨es, clock, h1⟩ := hm0
  rw [I.ord] at h1
  cases h1
 have lto : Bo < wr.heap.size := (Array.getElem?_eq_some_iff.1 I.ord).1
 refine ⟨I.bel.grown hg I.bel.size (fun j hj => by cases hj; exact hBm), hg.cell I.seen (by simpa using nes), (hg.block Bo lto (by simpa using neo)).trans I.ord, _, x.f0.data.toList :: ids, hm, ?_, fun s => ?_, hg'⟩
 ·obtain ⟨es, clock, -, -, -, hd⟩ := hm
  exact ⟨_, hd⟩
 ·by_cases h : s = x.f0.data.toList
  ·subst h
   rw [Go.Maps.atKey_put_same hD (by simp [Go.WideAt.IsKeyLit])]
   simp
  ·rw [Go.Maps.atKey_put_other (fun e => h (by injection e)), hat s]
   simp [h]
set_option maxHeartbeats 8000000 in
set_option maxRecDepth 100000 in
theorem unfit_index (k : Nat) (a0 a1 : ByteArray) (a2 a3 a4 a5 a6 a7 a8 a9 a10 : Int) (l1 : List S38) (A1 : Option Addr) (c1 : Nat) (w W : World) (Bs Bo Bm : Nat) (r : Bool) (hr : Kd.C k38 w A1 l1.length l1) (hBm : w.heap.size ≤ Bm) (hlen : l1.length ≤ 1000000) (hI : FilInv k a0 a1 a2 a3 a4 a5 a6 a7 a8 a9 a10 l1 w Bs Bo Bm r 0 W) :
  Calls Tryd.prog 74 #[.slice A1 l1.length c1, .func (.func 41) #[] #[.pointer (some ⟨Bs, 0, none⟩), .pointer (some ⟨Bo, 0, none⟩)]] W fun e W' => (∃ j : Int, e = .returned (.int .i64 j) ∧ decide (0 ≤ j) = !r) ∧ Below w.heap.size w W' := by
 have HI := Aside0.mk hI
 have HR := Aside0.mk hr
 clear hI hr
 generalize hn : l1.length = n at *
 go_enter Tryd.func74, Tryd.ntmps74
 go_wp2
 go_loopg [5, 8] n (fun gg _ s8 wr => ∃ kk : Nat, kk ≤ n ∧ n - kk ≤ gg ∧ s8 = .int .i64 kk ∧ Aside0 (FilInv k a0 a1 a2 a3 a4 a5 a6 a7 a8 a9 a10 l1 w Bs Bo Bm r kk wr))
 case atStart => exact ⟨0, Nat.zero_le _, by omega, rfl, HI⟩
 case round =>
  obtain ⟨kk, hkk, hg, rfl, I⟩ := hrel
  by_cases hlt : kk < n
  ·have hltz : (kk : Int) < (n : Int) := by omega
   have hl : kk < l1.length := by omega
   obtain ⟨ad, cs, rfl, hsz_, hK, hcell⟩ := Kd.C_get HR.out l1[kk] (kk : Int) (by omega) (by omega)
   have hx : l1.getD (kk : Int).toNat l1[kk] = l1[kk] := by simp [List.getD_eq_getElem?_getD, hl]
   rw [hx] at hK
   obtain ⟨D, ids, hm, hD, hat, hgg⟩ := I.out.ids
   have hdrop : l1.drop kk = l1[kk] :: l1.drop (kk + 1) := List.drop_eq_getElem_cons hl
   rw [hdrop] at hgg
   generalize l1[kk] = x at hK hgg
   obtain ⟨A, c, rfl, hlc, hC⟩ := k38_open hK
   have hm0 : ∃ es clock, wr.heap[Bm]? = some (.map es clock) := by
    obtain ⟨es, clock, h1, -⟩ := hm
    exact ⟨es, clock, h1⟩
   have hw : ∀ (j : Nat) (v : Value), ([.string x.f0, .string x.f1, .string x.f2, .int .i64 x.f3, .int .i64 x.f4.f0.f0, .int .i64 x.f4.f0.f1, .int .i64 x.f4.f1.f0, .int .i64 x.f4.f1.f1, .int .i64 x.f4.f2.f0, .int .i64 x.f4.f2.f1, .int .i64 x.f5, .slice A x.f6.length c, .int .i64 x.f7, .int .i64 x.f8.f0, .int .i64 x.f8.f1, .int .i64 x.f8.f2, .bool x.f9, .int .i64 x.f10] : List Value)[j]? = some v → wr.cell? ((ad.add (kk * 18)).add j) = some v := fun j v hj => by
    have h1 := hcell j v hj
    have h2 : (kk : Int).toNat * Kd.sz k38 + j = kk * 18 + j := rfl
    rw [h2] at h1
    have hlt_ := World.block_lt_of_cell? w _ h1
    rw [add_add, I.out.bel.cell hlt_]
    exact h1
   unfold order_Filled.g at hgg
   by_cases hs : x.f0.size ≤ maxLen
   ·rw [if_pos hs] at hgg
    have key : ∃ u : Bool, (Calls Tryd.prog 41 #[.agg #[.string x.f0, .string x.f1, .string x.f2, .int .i64 x.f3, .int .i64 x.f4.f0.f0, .int .i64 x.f4.f0.f1, .int .i64 x.f4.f1.f0, .int .i64 x.f4.f1.f1, .int .i64 x.f4.f2.f0, .int .i64 x.f4.f2.f1, .int .i64 x.f5, .slice A x.f6.length c, .int .i64 x.f7, .int .i64 x.f8.f0, .int .i64 x.f8.f1, .int .i64 x.f8.f2, .bool x.f9, .int .i64 x.f10], .pointer (some ⟨Bs, 0, none⟩), .pointer (some ⟨Bo, 0, none⟩)] wr fun e W' => e = .returned (.bool u) ∧ wr.grownBy W' (some Bm) ∧ W'.ownsMap Tryd.prog 9 (plainElem Tryd.prog 4) Bm (kk + 1) (D.put (.string x.f0.data.toList) (.lit (.bool true)))) ∧ (u = true → r = false) ∧ (u = false → order_Filled.g k a0 a1 a2 a3 a4 a5 a6 a7 a8 a9 a10 (l1.drop (kk + 1)) (x.f0.data.toList :: ids) = some r) := by
     by_cases hi : x.f0.data.toList ∈ ids
     ·rw [if_pos hi] at hgg
      refine ⟨true, ?_, fun _ => (Option.some.inj hgg).symm, fun h => by cases h⟩
      refine (unfit_calls k a0 a1 a2 a3 a4 a5 a6 a7 a8 a9 a10 x A c w wr Bs Bo Bm kk D true 0 I.out.bel hBm I.out.seen I.out.ord hm (by unfold maxLen; omega) hs (by rw [hat]; simp [hi]) hC hlc (fun h => by cases h)).mono ?_
      rintro e w2 ⟨rfl, h2, h3⟩
      exact ⟨rfl, h2, h3⟩
     ·rw [if_neg hi] at hgg
      obtain ⟨t, ht, hgg⟩ := oB hgg
      refine ⟨t != 0, ?_, fun h => ?_, fun h => ?_⟩
      ·refine (unfit_calls k a0 a1 a2 a3 a4 a5 a6 a7 a8 a9 a10 x A c w wr Bs Bo Bm kk D false t I.out.bel hBm I.out.seen I.out.ord hm (by unfold maxLen; omega) hs (by rw [hat]; simp [hi]) hC hlc (fun _ => ht)).mono ?_
       rintro e w2 ⟨rfl, h2, h3⟩
       exact ⟨by simp, h2, h3⟩
      ·rw [if_neg (by simpa using h)] at hgg
       exact (Option.some.inj hgg).symm
      ·rw [if_pos (by simpa using h)] at hgg
       exact hgg
    obtain ⟨u, hcall, hu1, hu2⟩ := key
    have HU1 := Aside0.mk hu1
    have HU2 := Aside0.mk hu2
    have HD := Aside0.mk hD
    have HAT := Aside0.mk hat
    have HM0 := Aside0.mk hm0
    clear hu1 hu2 hgg hm hD hat hm0 hK hC hcell hdrop
    have HW := Aside0.mk hw
    clear hw
    cases u with
    | true =>
     obtain rfl : r = false := HU1.out rfl
     clear HU1 HU2
     go_wp2_with (first | (refine wpList_load_cells (by rfl) 38 _ (by exact rfl) (ad.add (kk * 18)) (by rfl) #[.string x.f0, .string x.f1, .string x.f2, .int .i64 x.f3, .int .i64 x.f4.f0.f0, .int .i64 x.f4.f0.f1, .int .i64 x.f4.f1.f0, .int .i64 x.f4.f1.f1, .int .i64 x.f4.f2.f0, .int .i64 x.f4.f2.f1, .int .i64 x.f5, .slice A x.f6.length c, .int .i64 x.f7, .int .i64 x.f8.f0, .int .i64 x.f8.f1, .int .i64 x.f8.f2, .bool x.f9, .int .i64 x.f10] _ (by exact fun j v hj => HW.out j v hj) Tryd.underlying38 rfl (by kernel_rfl) ?_) | (go_at_call 41; refine hcall.mono ?_; rintro e w2 ⟨rfl, hg2, hm2⟩))
     go_ret
     exact ⟨⟨_, rfl, by simp⟩, I.out.bel.grown hg2 I.out.bel.size (fun j hj => by cases hj; exact hBm)⟩
    | false =>
     have HN := q_ (HU2.out rfl)
     clear HU1 HU2
     go_wp2_with (first | (refine wpList_load_cells (by rfl) 38 _ (by exact rfl) (ad.add (kk * 18)) (by rfl) #[.string x.f0, .string x.f1, .string x.f2, .int .i64 x.f3, .int .i64 x.f4.f0.f0, .int .i64 x.f4.f0.f1, .int .i64 x.f4.f1.f0, .int .i64 x.f4.f1.f1, .int .i64 x.f4.f2.f0, .int .i64 x.f4.f2.f1, .int .i64 x.f5, .slice A x.f6.length c, .int .i64 x.f7, .int .i64 x.f8.f0, .int .i64 x.f8.f1, .int .i64 x.f8.f2, .bool x.f9, .int .i64 x.f10] _ (by exact fun j v hj => HW.out j v hj) Tryd.underlying38 rfl (by kernel_rfl) ?_) | (go_at_call 41; refine hcall.mono ?_; rintro e w2 ⟨rfl, hg2, hm2⟩))
     go_roundg (n - (kk + 1))
     case measure => omega
     case rel => exact ⟨kk + 1, by omega, by omega, by go_num, ⟨I.out.next hBm x D ids HD.out HAT.out hg2 hm2 HM0.out HN.out⟩⟩
   ·rw [if_neg hs] at hgg
    cases hgg
  ·have hltz : ¬ (kk : Int) < (n : Int) := by omega
   have hkn : kk = n := by omega
   obtain ⟨D, ids, -, -, -, hgg⟩ := I.out.ids
   rw [hkn, ← hn, List.drop_length] at hgg
   unfold order_Filled.g at hgg
   obtain rfl := Option.some.inj hgg
   have hb := I.out.bel
   clear hgg
   go_wp2
   go_ret
   exact ⟨⟨_, rfl, by simp⟩, hb⟩
theorem unfit_contains (k : Nat) (a0 a1 : ByteArray) (a2 a3 a4 a5 a6 a7 a8 a9 a10 : Int) (l1 : List S38) (A1 : Option Addr) (c1 : Nat) (w W : World) (Bs Bo Bm : Nat) (r : Bool) (hr : Kd.C k38 w A1 l1.length l1) (hBm : w.heap.size ≤ Bm) (hlen : l1.length ≤ 1000000) (hI : FilInv k a0 a1 a2 a3 a4 a5 a6 a7 a8 a9 a10 l1 w Bs Bo Bm r 0 W) :
  Calls Tryd.prog 42 #[.slice A1 l1.length c1, .func (.func 41) #[] #[.pointer (some ⟨Bs, 0, none⟩), .pointer (some ⟨Bo, 0, none⟩)]] W fun e W' => e = .returned (.bool (!r)) ∧ Below w.heap.size w W' := by
 have HI := Aside0.mk hI
 clear hI
 go_enter Tryd.func42, Tryd.ntmps42
 go_wp2_with (go_at_call 74; refine (unfit_index k a0 a1 a2 a3 a4 a5 a6 a7 a8 a9 a10 l1 A1 c1 w _ Bs Bo Bm r hr hBm hlen HI.out).mono ?_; rintro e w' ⟨⟨j, rfl, hj⟩, hb⟩)
 go_ret
 exact ⟨by rw [← hj]; rfl, hb⟩
set_option maxHeartbeats 8000000 in
set_option maxRecDepth 100000 in
theorem order_Filled.calls (k : Nat) (a0_0 : ByteArray) (a0_1 : ByteArray) (a0_2 : Int) (a0_3 : Int) (a0_4 : Int) (a0_5 : Int) (a0_6 : Int) (a0_7 : Int) (a0_8 : Int) (a0_9 : Int) (a0_10 : Int) (A1 : Option Addr) (c1 : Nat) (l1 : List S38) (r : Bool) (w : World) (hr1 : Kd.C k38 w A1 l1.length l1) (hc1 : l1.length ≤ c1) (h : order_Filled.f k a0_0 a0_1 a0_2 a0_3 a0_4 a0_5 a0_6 a0_7 a0_8 a0_9 a0_10 l1 = some r) :
  Calls Tryd.prog 20 #[.agg #[.string a0_0, .string a0_1, .int .i64 a0_2, .int .i64 a0_3, .int .i64 a0_4, .int .i64 a0_5, .int .i64 a0_6, .int .i64 a0_7, .int .i64 a0_8, .int .i64 a0_9, .int .i64 a0_10], .slice A1 l1.length c1] w fun e w' => e = .returned (.bool r) ∧ Below w.heap.size w w' := by
 unfold order_Filled.f at h
 have H0 : Aside0 ((w.alloc (.cells #[.string a0_0, .string a0_1, .int .i64 a0_2, .int .i64 a0_3, .int .i64 a0_4, .int .i64 a0_5, .int .i64 a0_6, .int .i64 a0_7, .int .i64 a0_8, .int .i64 a0_9, .int .i64 a0_10] 23)).heap[w.heap.size]? = some (.cells #[.string a0_0, .string a0_1, .int .i64 a0_2, .int .i64 a0_3, .int .i64 a0_4, .int .i64 a0_5, .int .i64 a0_6, .int .i64 a0_7, .int .i64 a0_8, .int .i64 a0_9, .int .i64 a0_10] 23 (0, 0))) := ⟨heap_alloc_new w _⟩
 by_cases hlen : l1.length ≤ 1000000
 ·rw [if_pos hlen] at h
  obtain ⟨t1, h1, h⟩ := oB h
  cases t1 with
  | false =>
   rw [if_neg (by simp)] at h
   obtain rfl := Option.some.inj h
   go_enter Tryd.func20, Tryd.ntmps20
   go_wp2_with (first | (first | (refine wpList_load_cells (by rfl) 23 _ (by exact rfl) ⟨w.heap.size, 0, none⟩ (by rfl) #[.string a0_0, .string a0_1, .int .i64 a0_2, .int .i64 a0_3, .int .i64 a0_4, .int .i64 a0_5, .int .i64 a0_6, .int .i64 a0_7, .int .i64 a0_8, .int .i64 a0_9, .int .i64 a0_10] _ (by exact cells_of_blk H0.out) Tryd.underlying23 rfl (by kernel_rfl) ?_) | (refine wpList_load_cells (by rfl) 23 _ (by exact rfl) ⟨w.heap.size, 0, none⟩ (by rfl) #[.string a0_0, .string a0_1, .int .i64 a0_2, .int .i64 a0_3, .int .i64 a0_4, .int .i64 a0_5, .int .i64 a0_6, .int .i64 a0_7, .int .i64 a0_8, .int .i64 a0_9, .int .i64 a0_10] _ (by exact cells_of_blk H_w1.out) Tryd.underlying23 rfl (by kernel_rfl) ?_) | (refine wpList_load_cells (by rfl) 23 _ (by exact rfl) ⟨w.heap.size, 0, none⟩ (by rfl) #[.string a0_0, .string a0_1, .int .i64 a0_2, .int .i64 a0_3, .int .i64 a0_4, .int .i64 a0_5, .int .i64 a0_6, .int .i64 a0_7, .int .i64 a0_8, .int .i64 a0_9, .int .i64 a0_10] _ (by exact cells_of_blk H_w2.out) Tryd.underlying23 rfl (by kernel_rfl) ?_) | (refine wpList_load_cells (by rfl) 23 _ (by exact rfl) ⟨w.heap.size, 0, none⟩ (by rfl) #[.string a0_0, .string a0_1, .int .i64 a0_2, .int .i64 a0_3, .int .i64 a0_4, .int .i64 a0_5, .int .i64 a0_6, .int .i64 a0_7, .int .i64 a0_8, .int .i64 a0_9, .int .i64 a0_10] _ (by exact cells_of_blk H_w3.out) Tryd.underlying23 rfl (by kernel_rfl) ?_)) | (go_at_call 31; (with_reducible refine (order_sound.calls a0_0 a0_1 a0_2 a0_3 a0_4 a0_5 a0_6 a0_7 a0_8 a0_9 a0_10 false _ h1).mono ?_); rintro e w1 ⟨rfl, hb1⟩; have h_w1 : w1.heap[w.heap.size]? = some (.cells #[.string a0_0, .string a0_1, .int .i64 a0_2, .int .i64 a0_3, .int .i64 a0_4, .int .i64 a0_5, .int .i64 a0_6, .int .i64 a0_7, .int .i64 a0_8, .int .i64 a0_9, .int .i64 a0_10] 23 (0, 0)) := (hb1.block w.heap.size (by simp)).trans H0.out; have b_w1 : Below w.heap.size w w1 := pT ((Below.refl _ _).alloc (Nat.le_refl _) _) hb1; have l_w1 : w.heap.size < w1.heap.size := (Array.getElem?_eq_some_iff.1 h_w1).1; skip; have B_w1 := Aside0.mk b_w1; have H_w1 := Aside0.mk h_w1; clear hb1 b_w1 h_w1))
   go_ret
   exact ⟨rfl, B_w1.out⟩
  | true =>
   rw [if_pos rfl] at h
   obtain ⟨t2, h2, h⟩ := oB h
   by_cases c2 : (l1.length : Int) < t2
   ·rw [if_pos c2] at h
    obtain rfl := Option.some.inj h
    have d2 : decide ((l1.length : Int) < t2) = true := decide_eq_true c2
    clear c2
    go_enter Tryd.func20, Tryd.ntmps20
    go_wp2_with (first | (first | (refine wpList_load_cells (by rfl) 23 _ (by exact rfl) ⟨w.heap.size, 0, none⟩ (by rfl) #[.string a0_0, .string a0_1, .int .i64 a0_2, .int .i64 a0_3, .int .i64 a0_4, .int .i64 a0_5, .int .i64 a0_6, .int .i64 a0_7, .int .i64 a0_8, .int .i64 a0_9, .int .i64 a0_10] _ (by exact cells_of_blk H0.out) Tryd.underlying23 rfl (by kernel_rfl) ?_) | (refine wpList_load_cells (by rfl) 23 _ (by exact rfl) ⟨w.heap.size, 0, none⟩ (by rfl) #[.string a0_0, .string a0_1, .int .i64 a0_2, .int .i64 a0_3, .int .i64 a0_4, .int .i64 a0_5, .int .i64 a0_6, .int .i64 a0_7, .int .i64 a0_8, .int .i64 a0_9, .int .i64 a0_10] _ (by exact cells_of_blk H_w1.out) Tryd.underlying23 rfl (by kernel_rfl) ?_) | (refine wpList_load_cells (by rfl) 23 _ (by exact rfl) ⟨w.heap.size, 0, none⟩ (by rfl) #[.string a0_0, .string a0_1, .int .i64 a0_2, .int .i64 a0_3, .int .i64 a0_4, .int .i64 a0_5, .int .i64 a0_6, .int .i64 a0_7, .int .i64 a0_8, .int .i64 a0_9, .int .i64 a0_10] _ (by exact cells_of_blk H_w2.out) Tryd.underlying23 rfl (by kernel_rfl) ?_) | (refine wpList_load_cells (by rfl) 23 _ (by exact rfl) ⟨w.heap.size, 0, none⟩ (by rfl) #[.string a0_0, .string a0_1, .int .i64 a0_2, .int .i64 a0_3, .int .i64 a0_4, .int .i64 a0_5, .int .i64 a0_6, .int .i64 a0_7, .int .i64 a0_8, .int .i64 a0_9, .int .i64 a0_10] _ (by exact cells_of_blk H_w3.out) Tryd.underlying23 rfl (by kernel_rfl) ?_)) | (go_at_call 31; (with_reducible refine (order_sound.calls a0_0 a0_1 a0_2 a0_3 a0_4 a0_5 a0_6 a0_7 a0_8 a0_9 a0_10 true _ h1).mono ?_); rintro e w1 ⟨rfl, hb1⟩; have h_w1 : w1.heap[w.heap.size]? = some (.cells #[.string a0_0, .string a0_1, .int .i64 a0_2, .int .i64 a0_3, .int .i64 a0_4, .int .i64 a0_5, .int .i64 a0_6, .int .i64 a0_7, .int .i64 a0_8, .int .i64 a0_9, .int .i64 a0_10] 23 (0, 0)) := (hb1.block w.heap.size (by simp)).trans H0.out; have b_w1 : Below w.heap.size w w1 := pT ((Below.refl _ _).alloc (Nat.le_refl _) _) hb1; have l_w1 : w.heap.size < w1.heap.size := (Array.getElem?_eq_some_iff.1 h_w1).1; skip; have B_w1 := Aside0.mk b_w1; have H_w1 := Aside0.mk h_w1; clear hb1 b_w1 h_w1) | (go_at_call 16; (with_reducible refine (order_Least.calls a0_0 a0_1 a0_2 a0_3 a0_4 a0_5 a0_6 a0_7 a0_8 a0_9 a0_10 t2 _ h2).mono ?_); rintro e w2 ⟨rfl, hb2⟩; have h_w2 : w2.heap[w.heap.size]? = some (.cells #[.string a0_0, .string a0_1, .int .i64 a0_2, .int .i64 a0_3, .int .i64 a0_4, .int .i64 a0_5, .int .i64 a0_6, .int .i64 a0_7, .int .i64 a0_8, .int .i64 a0_9, .int .i64 a0_10] 23 (0, 0)) := (hb2.block w.heap.size (by exact l_w1)).trans H_w1.out; have b_w2 : Below w.heap.size w w2 := pT B_w1.out hb2; have l_w2 : w.heap.size < w2.heap.size := (Array.getElem?_eq_some_iff.1 h_w2).1; skip; have B_w2 := Aside0.mk b_w2; have H_w2 := Aside0.mk h_w2; clear hb2 b_w2 h_w2))
    go_ret
    exact ⟨rfl, B_w2.out⟩
   ·rw [if_neg c2] at h
    have d2 : decide ((l1.length : Int) < t2) = false := decide_eq_false c2
    clear c2
    obtain ⟨t3, h3, h⟩ := oB h
    by_cases c3 : (l1.length : Int) > t3
    ·rw [if_pos c3] at h
     obtain rfl := Option.some.inj h
     have d3 : decide (t3 < (l1.length : Int)) = true := decide_eq_true c3
     clear c3
     go_enter Tryd.func20, Tryd.ntmps20
     go_wp2_with (first | (first | (refine wpList_load_cells (by rfl) 23 _ (by exact rfl) ⟨w.heap.size, 0, none⟩ (by rfl) #[.string a0_0, .string a0_1, .int .i64 a0_2, .int .i64 a0_3, .int .i64 a0_4, .int .i64 a0_5, .int .i64 a0_6, .int .i64 a0_7, .int .i64 a0_8, .int .i64 a0_9, .int .i64 a0_10] _ (by exact cells_of_blk H0.out) Tryd.underlying23 rfl (by kernel_rfl) ?_) | (refine wpList_load_cells (by rfl) 23 _ (by exact rfl) ⟨w.heap.size, 0, none⟩ (by rfl) #[.string a0_0, .string a0_1, .int .i64 a0_2, .int .i64 a0_3, .int .i64 a0_4, .int .i64 a0_5, .int .i64 a0_6, .int .i64 a0_7, .int .i64 a0_8, .int .i64 a0_9, .int .i64 a0_10] _ (by exact cells_of_blk H_w1.out) Tryd.underlying23 rfl (by kernel_rfl) ?_) | (refine wpList_load_cells (by rfl) 23 _ (by exact rfl) ⟨w.heap.size, 0, none⟩ (by rfl) #[.string a0_0, .string a0_1, .int .i64 a0_2, .int .i64 a0_3, .int .i64 a0_4, .int .i64 a0_5, .int .i64 a0_6, .int .i64 a0_7, .int .i64 a0_8, .int .i64 a0_9, .int .i64 a0_10] _ (by exact cells_of_blk H_w2.out) Tryd.underlying23 rfl (by kernel_rfl) ?_) | (refine wpList_load_cells (by rfl) 23 _ (by exact rfl) ⟨w.heap.size, 0, none⟩ (by rfl) #[.string a0_0, .string a0_1, .int .i64 a0_2, .int .i64 a0_3, .int .i64 a0_4, .int .i64 a0_5, .int .i64 a0_6, .int .i64 a0_7, .int .i64 a0_8, .int .i64 a0_9, .int .i64 a0_10] _ (by exact cells_of_blk H_w3.out) Tryd.underlying23 rfl (by kernel_rfl) ?_)) | (go_at_call 31; (with_reducible refine (order_sound.calls a0_0 a0_1 a0_2 a0_3 a0_4 a0_5 a0_6 a0_7 a0_8 a0_9 a0_10 true _ h1).mono ?_); rintro e w1 ⟨rfl, hb1⟩; have h_w1 : w1.heap[w.heap.size]? = some (.cells #[.string a0_0, .string a0_1, .int .i64 a0_2, .int .i64 a0_3, .int .i64 a0_4, .int .i64 a0_5, .int .i64 a0_6, .int .i64 a0_7, .int .i64 a0_8, .int .i64 a0_9, .int .i64 a0_10] 23 (0, 0)) := (hb1.block w.heap.size (by simp)).trans H0.out; have b_w1 : Below w.heap.size w w1 := pT ((Below.refl _ _).alloc (Nat.le_refl _) _) hb1; have l_w1 : w.heap.size < w1.heap.size := (Array.getElem?_eq_some_iff.1 h_w1).1; skip; have B_w1 := Aside0.mk b_w1; have H_w1 := Aside0.mk h_w1; clear hb1 b_w1 h_w1) | (go_at_call 16; (with_reducible refine (order_Least.calls a0_0 a0_1 a0_2 a0_3 a0_4 a0_5 a0_6 a0_7 a0_8 a0_9 a0_10 t2 _ h2).mono ?_); rintro e w2 ⟨rfl, hb2⟩; have h_w2 : w2.heap[w.heap.size]? = some (.cells #[.string a0_0, .string a0_1, .int .i64 a0_2, .int .i64 a0_3, .int .i64 a0_4, .int .i64 a0_5, .int .i64 a0_6, .int .i64 a0_7, .int .i64 a0_8, .int .i64 a0_9, .int .i64 a0_10] 23 (0, 0)) := (hb2.block w.heap.size (by exact l_w1)).trans H_w1.out; have b_w2 : Below w.heap.size w w2 := pT B_w1.out hb2; have l_w2 : w.heap.size < w2.heap.size := (Array.getElem?_eq_some_iff.1 h_w2).1; skip; have B_w2 := Aside0.mk b_w2; have H_w2 := Aside0.mk h_w2; clear hb2 b_w2 h_w2) | (go_at_call 18; (with_reducible refine (order_Most.calls a0_0 a0_1 a0_2 a0_3 a0_4 a0_5 a0_6 a0_7 a0_8 a0_9 a0_10 t3 _ h3).mono ?_); rintro e w3 ⟨rfl, hb3⟩; have h_w3 : w3.heap[w.heap.size]? = some (.cells #[.string a0_0, .string a0_1, .int .i64 a0_2, .int .i64 a0_3, .int .i64 a0_4, .int .i64 a0_5, .int .i64 a0_6, .int .i64 a0_7, .int .i64 a0_8, .int .i64 a0_9, .int .i64 a0_10] 23 (0, 0)) := (hb3.block w.heap.size (by exact l_w2)).trans H_w2.out; have b_w3 : Below w.heap.size w w3 := pT B_w2.out hb3; have l_w3 : w.heap.size < w3.heap.size := (Array.getElem?_eq_some_iff.1 h_w3).1; skip; have B_w3 := Aside0.mk b_w3; have H_w3 := Aside0.mk h_w3; clear hb3 b_w3 h_w3))
     go_ret
     exact ⟨rfl, B_w3.out⟩
    ·rw [if_neg c3] at h
     have d3 : decide (t3 < (l1.length : Int)) = false := decide_eq_false c3
     clear c3
     have HG := Aside0.mk h
     clear h
     have hmm := @run_makeMap Tryd.prog
     go_enter Tryd.func20, Tryd.ntmps20
     go_wp2_with (first | (first | (refine wpList_load_cells (by rfl) 23 _ (by exact rfl) ⟨w.heap.size, 0, none⟩ (by rfl) #[.string a0_0, .string a0_1, .int .i64 a0_2, .int .i64 a0_3, .int .i64 a0_4, .int .i64 a0_5, .int .i64 a0_6, .int .i64 a0_7, .int .i64 a0_8, .int .i64 a0_9, .int .i64 a0_10] _ (by exact cells_of_blk H0.out) Tryd.underlying23 rfl (by kernel_rfl) ?_) | (refine wpList_load_cells (by rfl) 23 _ (by exact rfl) ⟨w.heap.size, 0, none⟩ (by rfl) #[.string a0_0, .string a0_1, .int .i64 a0_2, .int .i64 a0_3, .int .i64 a0_4, .int .i64 a0_5, .int .i64 a0_6, .int .i64 a0_7, .int .i64 a0_8, .int .i64 a0_9, .int .i64 a0_10] _ (by exact cells_of_blk H_w1.out) Tryd.underlying23 rfl (by kernel_rfl) ?_) | (refine wpList_load_cells (by rfl) 23 _ (by exact rfl) ⟨w.heap.size, 0, none⟩ (by rfl) #[.string a0_0, .string a0_1, .int .i64 a0_2, .int .i64 a0_3, .int .i64 a0_4, .int .i64 a0_5, .int .i64 a0_6, .int .i64 a0_7, .int .i64 a0_8, .int .i64 a0_9, .int .i64 a0_10] _ (by exact cells_of_blk H_w2.out) Tryd.underlying23 rfl (by kernel_rfl) ?_) | (refine wpList_load_cells (by rfl) 23 _ (by exact rfl) ⟨w.heap.size, 0, none⟩ (by rfl) #[.string a0_0, .string a0_1, .int .i64 a0_2, .int .i64 a0_3, .int .i64 a0_4, .int .i64 a0_5, .int .i64 a0_6, .int .i64 a0_7, .int .i64 a0_8, .int .i64 a0_9, .int .i64 a0_10] _ (by exact cells_of_blk H_w3.out) Tryd.underlying23 rfl (by kernel_rfl) ?_)) | (go_at_call 31; (with_reducible refine (order_sound.calls a0_0 a0_1 a0_2 a0_3 a0_4 a0_5 a0_6 a0_7 a0_8 a0_9 a0_10 true _ h1).mono ?_); rintro e w1 ⟨rfl, hb1⟩; have h_w1 : w1.heap[w.heap.size]? = some (.cells #[.string a0_0, .string a0_1, .int .i64 a0_2, .int .i64 a0_3, .int .i64 a0_4, .int .i64 a0_5, .int .i64 a0_6, .int .i64 a0_7, .int .i64 a0_8, .int .i64 a0_9, .int .i64 a0_10] 23 (0, 0)) := (hb1.block w.heap.size (by simp)).trans H0.out; have b_w1 : Below w.heap.size w w1 := pT ((Below.refl _ _).alloc (Nat.le_refl _) _) hb1; have l_w1 : w.heap.size < w1.heap.size := (Array.getElem?_eq_some_iff.1 h_w1).1; skip; have B_w1 := Aside0.mk b_w1; have H_w1 := Aside0.mk h_w1; clear hb1 b_w1 h_w1) | (go_at_call 16; (with_reducible refine (order_Least.calls a0_0 a0_1 a0_2 a0_3 a0_4 a0_5 a0_6 a0_7 a0_8 a0_9 a0_10 t2 _ h2).mono ?_); rintro e w2 ⟨rfl, hb2⟩; have h_w2 : w2.heap[w.heap.size]? = some (.cells #[.string a0_0, .string a0_1, .int .i64 a0_2, .int .i64 a0_3, .int .i64 a0_4, .int .i64 a0_5, .int .i64 a0_6, .int .i64 a0_7, .int .i64 a0_8, .int .i64 a0_9, .int .i64 a0_10] 23 (0, 0)) := (hb2.block w.heap.size (by exact l_w1)).trans H_w1.out; have b_w2 : Below w.heap.size w w2 := pT B_w1.out hb2; have l_w2 : w.heap.size < w2.heap.size := (Array.getElem?_eq_some_iff.1 h_w2).1; skip; have B_w2 := Aside0.mk b_w2; have H_w2 := Aside0.mk h_w2; clear hb2 b_w2 h_w2) | (go_at_call 18; (with_reducible refine (order_Most.calls a0_0 a0_1 a0_2 a0_3 a0_4 a0_5 a0_6 a0_7 a0_8 a0_9 a0_10 t3 _ h3).mono ?_); rintro e w3 ⟨rfl, hb3⟩; have h_w3 : w3.heap[w.heap.size]? = some (.cells #[.string a0_0, .string a0_1, .int .i64 a0_2, .int .i64 a0_3, .int .i64 a0_4, .int .i64 a0_5, .int .i64 a0_6, .int .i64 a0_7, .int .i64 a0_8, .int .i64 a0_9, .int .i64 a0_10] 23 (0, 0)) := (hb3.block w.heap.size (by exact l_w2)).trans H_w2.out; have b_w3 : Below w.heap.size w w3 := pT B_w2.out hb3; have l_w3 : w.heap.size < w3.heap.size := (Array.getElem?_eq_some_iff.1 h_w3).1; skip; have B_w3 := Aside0.mk b_w3; have H_w3 := Aside0.mk h_w3; clear hb3 b_w3 h_w3) | (go_at_call 42; go_loud (refine (unfit_contains k a0_0 a0_1 a0_2 a0_3 a0_4 a0_5 a0_6 a0_7 a0_8 a0_9 a0_10 l1 A1 c1 w _ (w3.heap.size + 1) w.heap.size w3.heap.size r hr1 (Nat.le_of_lt l_w3) hlen ?hI).mono ?_; (case hI => exact ⟨(B_w3.out.alloc B_w3.out.size _).alloc (Nat.le_trans B_w3.out.size (by simp)) _, by first | (simp; done) | rfl, (heap_alloc_old _ _ (Nat.lt_of_lt_of_le l_w3 (by simp))).trans ((heap_alloc_old _ _ l_w3).trans H_w3.out), _, [], (World.ownsMap_made w3 Tryd.prog 9 _).alloc _, ⟨[], rfl⟩, fun s => rfl, by simpa using HG.out⟩); rintro e w4 ⟨rfl, hb4⟩)))
     go_ret
     exact ⟨by simp, hb4⟩
 ·rw [if_neg hlen] at h
  cases h
def order_numbers.f (a0_0 : ByteArray) (a0_1 : ByteArray) (a0_2 : Int) (a0_3 : Int) (a0_4 : Int) (a0_5 : Int) (a0_6 : Int) (a0_7 : Int) (a0_8 : Int) (a0_9 : Int) (a0_10 : Int) : Option (List Int) := some (([a0_2, a0_3, a0_4, a0_5, a0_6, a0_7, a0_8, a0_9, a0_10] : List Int))
set_option maxHeartbeats 8000000 in
set_option maxRecDepth 100000 in
theorem order_numbers.calls (a0_0 : ByteArray) (a0_1 : ByteArray) (a0_2 : Int) (a0_3 : Int) (a0_4 : Int) (a0_5 : Int) (a0_6 : Int) (a0_7 : Int) (a0_8 : Int) (a0_9 : Int) (a0_10 : Int) (r : List Int) (w : World) (h : order_numbers.f a0_0 a0_1 a0_2 a0_3 a0_4 a0_5 a0_6 a0_7 a0_8 a0_9 a0_10 = some r) :
  Calls Tryd.prog 43 #[.agg #[.string a0_0, .string a0_1, .int .i64 a0_2, .int .i64 a0_3, .int .i64 a0_4, .int .i64 a0_5, .int .i64 a0_6, .int .i64 a0_7, .int .i64 a0_8, .int .i64 a0_9, .int .i64 a0_10]] w fun e w' => ∃ v0_ : Value, e = .returned (v0_) ∧ Kd.R (Kd.int .i64) 3 w' w.heap.size (fun _ => True) v0_ r ∧ Below w.heap.size w w' := by
 have hu23 := Tryd.underlying23
 have HB := q_ (Below.refl w.heap.size w)
 have H : (some (([a0_2, a0_3, a0_4, a0_5, a0_6, a0_7, a0_8, a0_9, a0_10] : List Int))) = some r := h
 clear h
 obtain ⟨y160, hy160⟩ : ∃ y_ : List Int, y_ = (([a0_2, a0_3, a0_4, a0_5, a0_6, a0_7, a0_8, a0_9, a0_10] : List Int)) := ⟨_, rfl⟩
 replace H : (some y160) = some r := by first | (rw [hy160]; with_reducible exact H) | (have H2_ := (Option.bind_some _ _).symm.trans H; rw [hy160]; with_reducible exact H2_) | (have H2_ := (Option.bind_some _ _).symm.trans H; with_reducible exact H2_) | with_reducible exact H | (rw [hy160]; exact H) | exact H
 have Ny160 := Aside0.mk hy160
 clear hy160
 obtain rfl := Option.some.inj H
 go_enter Tryd.func43, Tryd.ntmps43
 go_wp2_with (first | (refine wpList_load_cells (by rfl) 23 _ (by exact rfl) ⟨gb159, 0, none⟩ (by rfl) _ _ (cells_of_blk (by (with_reducible repeat (first | refine bN ?_ _ | refine bW ?_ | refine bA ?_ _)); exact BK159.out)) Tryd.underlying23 rfl (by kernel_rfl) ?_) | ((with_reducible refine gate_dst (N := 1) rfl ?_); refine box_event ?hg (N := 1) ?hd (cs := #[.string a0_0, .string a0_1, .int .i64 a0_2, .int .i64 a0_3, .int .i64 a0_4, .int .i64 a0_5, .int .i64 a0_6, .int .i64 a0_7, .int .i64 a0_8, .int .i64 a0_9, .int .i64 a0_10]) (t := 23) ?hr ?_; (case hd => rfl); (case hg => rfl); (case hr => first | (go_simp; done) | (go_simp; rfl)); intro gb159 hg w2 hbox hb; have n0_ := q_ (pT (by repeat (first | (with_reducible first | exact HB.out | apply pA | apply pN | apply pd_) | exact HB.out)) hb); have n1_ := q_ (hbox); have n2_ := q_ ((by rw [hg]; exact (pZ (by repeat (first | (with_reducible first | exact HB.out | apply pA | apply pN | apply pd_) | exact HB.out))) : w.heap.size ≤ gb159)); have n3_ := n2_; clear HB; have HB := n0_; have BK159 := n1_; have GW159 := n2_; have GE159 := n3_; clear n0_ n1_ n2_ n3_; clear hb hbox hg; have hcz3 := blk_all BK159.out; simp only [CellsAt, List.toList_toArray, Nat.reduceAdd, and_true] at hcz3; have hfz3 := bF BK159.out) | ((with_reducible refine gate_dst (N := 21) rfl ?_); refine Kd.R_lit (Kd.int .i64) _ 3 ?hg (N := 21) ?hd (xs := ([a0_2, a0_3, a0_4, a0_5, a0_6, a0_7, a0_8, a0_9, a0_10] : List Int)) (inner := [.int .i64 a0_2, .int .i64 a0_3, .int .i64 a0_4, .int .i64 a0_5, .int .i64 a0_6, .int .i64 a0_7, .int .i64 a0_8, .int .i64 a0_9, .int .i64 a0_10]) (ok := fun _ => True) (okp := fun _ => True) ?hr ?hp (fun _ hk => hk) trivial (Below.refl _ _) (Nat.le_refl _) (by simp) ?_; (case hd => rfl); (case hg => rfl); (case hr => first | (go_simp; done) | (go_simp; rfl)); (case hp => exact (Reps.one (show Kd.M (Kd.int .i64) _ _ _ a0_2 [.int .i64 a0_2] from rfl) (Reps.one (show Kd.M (Kd.int .i64) _ _ _ a0_3 [.int .i64 a0_3] from rfl) (Reps.one (show Kd.M (Kd.int .i64) _ _ _ a0_4 [.int .i64 a0_4] from rfl) (Reps.one (show Kd.M (Kd.int .i64) _ _ _ a0_5 [.int .i64 a0_5] from rfl) (Reps.one (show Kd.M (Kd.int .i64) _ _ _ a0_6 [.int .i64 a0_6] from rfl) (Reps.one (show Kd.M (Kd.int .i64) _ _ _ a0_7 [.int .i64 a0_7] from rfl) (Reps.one (show Kd.M (Kd.int .i64) _ _ _ a0_8 [.int .i64 a0_8] from rfl) (Reps.one (show Kd.M (Kd.int .i64) _ _ _ a0_9 [.int .i64 a0_9] from rfl) (Reps.one (show Kd.M (Kd.int .i64) _ _ _ a0_10 [.int .i64 a0_10] from rfl) (Reps.none _ _))))))))))); intro v161 w4 ho5 hb hg_ hnew_; clear hg_ hnew_; (first | rw [← Ny160.out] at ho5 | (simp only [Int.reduceToNat] at ho5; rw [← Ny160.out] at ho5)); have n0_ := q_ (Kd.R_lower ho5 (pZ (by repeat (first | (with_reducible first | exact HB.out | apply pA | apply pN | apply pd_ | refine pS ?_ GE159.out) | exact HB.out)))); have n1_ := q_ (bB (g := gb159) (by (with_reducible repeat (first | refine bN ?_ _ | refine bW ?_ | refine bA ?_ _)); exact BK159.out) hb); have n2_ := q_ (pT (by repeat (first | (with_reducible first | exact HB.out | apply pA | apply pN | apply pd_ | refine pS ?_ GE159.out) | exact HB.out)) hb); clear BK159; clear HB; have HO162 := n0_; have BK159 := n1_; have HB := n2_; clear n0_ n1_ n2_; clear hb ho5))
 go_ret
 exact ⟨_, by first | rfl | (simp [*] <;> rfl), by (with_reducible repeat (first | apply Kd.R_alloc | apply Kd.R_drewN | apply Kd.R_drew)); exact HO162.out, by repeat (first | (with_reducible first | exact HB.out | apply pA | apply pN | apply pd_ | refine pS ?_ GE159.out) | exact HB.out)⟩
def slices_Min_int_int.l0 : Nat → List Int → Int → Int → Option (Int)
 | 0, _, _, _ => none
 | k + 1, x0, x3, x4 => if x4 < (x0.length : Int) then (if 0 ≤ x4 then (slices_Min_int_int.l0 k x0 (mn x3 (rd x0 x4)) (wrap64 (x4 + 1))) else (none)) else (some x3)
def slices_Min_int_int.f (k : Nat) (l0 : List Int) : Option (Int) := if (l0.length : Int) < 1 then (none) else (if 0 < (l0.length : Int) then (slices_Min_int_int.l0 k l0 (rd l0 0) 1) else (none))
set_option maxHeartbeats 8000000 in
set_option maxRecDepth 100000 in
theorem slices_Min_int_int.calls (k : Nat) (A0 : Option Addr) (c0 : Nat) (l0 : List Int) (r : Int) (w : World) (hr0 : Kd.C (Kd.int .i64) w A0 l0.length l0) (hc0 : l0.length ≤ c0) (h : slices_Min_int_int.f k l0 = some r) :
  Calls Tryd.prog 44 #[.slice A0 l0.length c0] w fun e w' => e = .returned (.int .i64 r) ∧ Below w.heap.size w w' := by
 have HR0 := Aside0.mk hr0
 have HC0 := Aside0.mk hc0
 clear hr0 hc0
 have HB := q_ (Below.refl w.heap.size w)
 have H : (if (l0.length : Int) < 1 then (none) else (if 0 < (l0.length : Int) then (slices_Min_int_int.l0 k l0 (rd l0 0) 1) else (none))) = some r := h
 clear h
 by_cases c2 : (l0.length : Int) < 1
 ·rw [if_pos c2] at H
  exact absurd H (by simp)
 ·rw [if_neg c2] at H
  have c2b0 : decide ((l0.length : Int) < 1) = false := decide_eq_false c2
  have c2b1 : decide (l0.length < 1) = false := decide_eq_false (by omega)
  clear c2
  by_cases c3 : 0 < (l0.length : Int)
  ·rw [if_pos c3] at H
   have c3b0 : decide (0 < (l0.length : Int)) = true := decide_eq_true c3
   have c3b1 : decide (0 < l0.length) = true := decide_eq_true (by omega)
   clear c3
   have H' := Aside0.mk H
   clear H
   have p163 : 0 ≤ (0 : Int) := (by omega)
   have q163 : 0 < (l0.length : Int) := of_decide_eq_true (by first | (with_reducible assumption) | assumption)
   obtain ⟨ad163, e163, hx163_0⟩ := Kd.at_int HR0.out 0 p163 q163
   cases e163
   have qi163 : (0 < l0.length) = True := eq_true (by omega)
   (try rw [show ((0 : Int)).toNat = 0 from rfl] at hx163_0)
   (try rw [Addr.add_zero'] at hx163_0)
   replace p163 := eq_true p163
   replace q163 := eq_true q163
   go_enter Tryd.func44, Tryd.ntmps44
   go_wp2
   go_loopg [3, 4] k (fun kq v3 v4 w' => ∃ (x3_1 : Int) (x4_1 : Int), v3 = .int .i64 x3_1 ∧ v4 = .int .i64 x4_1 ∧ Aside0 (slices_Min_int_int.l0 kq l0 x3_1 x4_1 = some r) ∧ Aside0 (kq ≤ k) ∧ Aside0 (Below w.heap.size w w'))
   case atStart => exact ⟨(rd l0 0), (1), (by first | rfl | (simp; done) | (simp [*]; done)), (by first | rfl | (simp; done) | (simp [*]; done)), H', ⟨Nat.le_refl _⟩, ⟨by repeat (first | (with_reducible first | exact HB.out | apply pA | apply pN | apply pd_) | exact HB.out)⟩⟩
   case round =>
    clear H'
    try clear p1
    try clear q1
    try clear hx1
    try clear qi1
    try clear c2
    try clear c2b0
    try clear c2b1
    try clear p2
    try clear c3
    try clear c3b0
    try clear c3b1
    try clear hx163_0
    try clear p163
    try clear q163
    obtain ⟨x3_1, x4_1, rfl, rfl, HA, HK1, HB⟩ := hrel
    cases gk with
    | zero => exact absurd HA.out (by simp [slices_Min_int_int.l0])
    | succ k1 =>
     have H := HA.out
     clear HA
     simp only [slices_Min_int_int.l0] at H
     by_cases c4 : x4_1 < (l0.length : Int)
     ·rw [if_pos c4] at H
      have c4b0 : decide (x4_1 < (l0.length : Int)) = true := decide_eq_true c4
      clear c4
      by_cases c5 : 0 ≤ x4_1
      ·rw [if_pos c5] at H
       have c5b0 : decide (0 ≤ x4_1) = true := decide_eq_true c5
       clear c5
       obtain ⟨ji6, hji6⟩ : ∃ j_ : Int, (mn x3_1 (rd l0 x4_1)) = j_ := ⟨_, rfl⟩
       replace H : (slices_Min_int_int.l0 k1 l0 ji6 (wrap64 (x4_1 + 1))) = some r := by first | (rw [hji6] at H; exact H) | (simp only [hji6] at H ⊢; exact H)
       have hji6_ : (if (rd l0 x4_1) < x3_1 then (rd l0 x4_1) else x3_1) = ji6 := hji6
       have H' := Aside0.mk H
       clear H
       have p164 : 0 ≤ (x4_1 : Int) := of_decide_eq_true (by first | (with_reducible assumption) | assumption)
       have q164 : x4_1 < (l0.length : Int) := of_decide_eq_true (by first | (with_reducible assumption) | assumption)
       obtain ⟨ad164, e164, hx164_0⟩ := Kd.at_int HR0.out x4_1 p164 q164
       obtain rfl : ad163 = ad164 := (by injection e164)
       replace hx164_0 := (HB.out.cell (World.block_lt_of_cell? w _ hx164_0)).trans hx164_0
       replace p164 := eq_true p164
       replace q164 := eq_true q164
       go_wp2
       go_roundg k1
       case measure => have := HK1.out; omega
       case rel => exact ⟨(ji6), (wrap64 (x4_1 + 1)), (by first | rfl | (simp; done) | (simp only [← hji6] <;> (first | rfl | simp)) | (simp [*]; done)), (by first | rfl | (simp; done) | (simp [*]; done)), H', ⟨by have := HK1.out; omega⟩, ⟨by repeat (first | (with_reducible first | exact HB.out | apply pA | apply pN | apply pd_) | exact HB.out)⟩⟩
      ·rw [if_neg c5] at H
       exact absurd H (by simp)
     ·rw [if_neg c4] at H
      have c4b0 : decide (x4_1 < (l0.length : Int)) = false := decide_eq_false c4
      clear c4
      obtain rfl := Option.some.inj H
      go_wp2
      go_ret
      exact ⟨by first | rfl | (simp [*] <;> rfl), by repeat (first | (with_reducible first | exact HB.out | apply pA | apply pN | apply pd_) | exact HB.out)⟩
  ·rw [if_neg c3] at H
   exact absurd H (by simp)
def slices_Max_int_int.l0 : Nat → List Int → Int → Int → Option (Int)
 | 0, _, _, _ => none
 | k + 1, x0, x3, x4 => if x4 < (x0.length : Int) then (if 0 ≤ x4 then (slices_Max_int_int.l0 k x0 (mx x3 (rd x0 x4)) (wrap64 (x4 + 1))) else (none)) else (some x3)
def slices_Max_int_int.f (k : Nat) (l0 : List Int) : Option (Int) := if (l0.length : Int) < 1 then (none) else (if 0 < (l0.length : Int) then (slices_Max_int_int.l0 k l0 (rd l0 0) 1) else (none))
set_option maxHeartbeats 8000000 in
set_option maxRecDepth 100000 in
theorem slices_Max_int_int.calls (k : Nat) (A0 : Option Addr) (c0 : Nat) (l0 : List Int) (r : Int) (w : World) (hr0 : Kd.C (Kd.int .i64) w A0 l0.length l0) (hc0 : l0.length ≤ c0) (h : slices_Max_int_int.f k l0 = some r) :
  Calls Tryd.prog 45 #[.slice A0 l0.length c0] w fun e w' => e = .returned (.int .i64 r) ∧ Below w.heap.size w w' := by
 have HR0 := Aside0.mk hr0
 have HC0 := Aside0.mk hc0
 clear hr0 hc0
 have HB := q_ (Below.refl w.heap.size w)
 have H : (if (l0.length : Int) < 1 then (none) else (if 0 < (l0.length : Int) then (slices_Max_int_int.l0 k l0 (rd l0 0) 1) else (none))) = some r := h
 clear h
 by_cases c2 : (l0.length : Int) < 1
 ·rw [if_pos c2] at H
  exact absurd H (by simp)
 ·rw [if_neg c2] at H
  have c2b0 : decide ((l0.length : Int) < 1) = false := decide_eq_false c2
  have c2b1 : decide (l0.length < 1) = false := decide_eq_false (by omega)
  clear c2
  by_cases c3 : 0 < (l0.length : Int)
  ·rw [if_pos c3] at H
   have c3b0 : decide (0 < (l0.length : Int)) = true := decide_eq_true c3
   have c3b1 : decide (0 < l0.length) = true := decide_eq_true (by omega)
   clear c3
   have H' := Aside0.mk H
   clear H
   have p165 : 0 ≤ (0 : Int) := (by omega)
   have q165 : 0 < (l0.length : Int) := of_decide_eq_true (by first | (with_reducible assumption) | assumption)
   obtain ⟨ad165, e165, hx165_0⟩ := Kd.at_int HR0.out 0 p165 q165
   cases e165
   have qi165 : (0 < l0.length) = True := eq_true (by omega)
   (try rw [show ((0 : Int)).toNat = 0 from rfl] at hx165_0)
   (try rw [Addr.add_zero'] at hx165_0)
   replace p165 := eq_true p165
   replace q165 := eq_true q165
   go_enter Tryd.func45, Tryd.ntmps45
   go_wp2
   go_loopg [3, 4] k (fun kq v3 v4 w' => ∃ (x3_1 : Int) (x4_1 : Int), v3 = .int .i64 x3_1 ∧ v4 = .int .i64 x4_1 ∧ Aside0 (slices_Max_int_int.l0 kq l0 x3_1 x4_1 = some r) ∧ Aside0 (kq ≤ k) ∧ Aside0 (Below w.heap.size w w'))
   case atStart => exact ⟨(rd l0 0), (1), (by first | rfl | (simp; done) | (simp [*]; done)), (by first | rfl | (simp; done) | (simp [*]; done)), H', ⟨Nat.le_refl _⟩, ⟨by repeat (first | (with_reducible first | exact HB.out | apply pA | apply pN | apply pd_) | exact HB.out)⟩⟩
   case round =>
    clear H'
    try clear p1
    try clear q1
    try clear hx1
    try clear qi1
    try clear c2
    try clear c2b0
    try clear c2b1
    try clear p2
    try clear c3
    try clear c3b0
    try clear c3b1
    try clear hx165_0
    try clear p165
    try clear q165
    obtain ⟨x3_1, x4_1, rfl, rfl, HA, HK1, HB⟩ := hrel
    cases gk with
    | zero => exact absurd HA.out (by simp [slices_Max_int_int.l0])
    | succ k1 =>
     have H := HA.out
     clear HA
     simp only [slices_Max_int_int.l0] at H
     by_cases c4 : x4_1 < (l0.length : Int)
     ·rw [if_pos c4] at H
      have c4b0 : decide (x4_1 < (l0.length : Int)) = true := decide_eq_true c4
      clear c4
      by_cases c5 : 0 ≤ x4_1
      ·rw [if_pos c5] at H
       have c5b0 : decide (0 ≤ x4_1) = true := decide_eq_true c5
       clear c5
       obtain ⟨ji6, hji6⟩ : ∃ j_ : Int, (mx x3_1 (rd l0 x4_1)) = j_ := ⟨_, rfl⟩
       replace H : (slices_Max_int_int.l0 k1 l0 ji6 (wrap64 (x4_1 + 1))) = some r := by first | (rw [hji6] at H; exact H) | (simp only [hji6] at H ⊢; exact H)
       have hji6_ : (if x3_1 < (rd l0 x4_1) then (rd l0 x4_1) else x3_1) = ji6 := hji6
       have H' := Aside0.mk H
       clear H
       have p166 : 0 ≤ (x4_1 : Int) := of_decide_eq_true (by first | (with_reducible assumption) | assumption)
       have q166 : x4_1 < (l0.length : Int) := of_decide_eq_true (by first | (with_reducible assumption) | assumption)
       obtain ⟨ad166, e166, hx166_0⟩ := Kd.at_int HR0.out x4_1 p166 q166
       obtain rfl : ad165 = ad166 := (by injection e166)
       replace hx166_0 := (HB.out.cell (World.block_lt_of_cell? w _ hx166_0)).trans hx166_0
       replace p166 := eq_true p166
       replace q166 := eq_true q166
       go_wp2
       go_roundg k1
       case measure => have := HK1.out; omega
       case rel => exact ⟨(ji6), (wrap64 (x4_1 + 1)), (by first | rfl | (simp; done) | (simp only [← hji6] <;> (first | rfl | simp)) | (simp [*]; done)), (by first | rfl | (simp; done) | (simp [*]; done)), H', ⟨by have := HK1.out; omega⟩, ⟨by repeat (first | (with_reducible first | exact HB.out | apply pA | apply pN | apply pd_) | exact HB.out)⟩⟩
      ·rw [if_neg c5] at H
       exact absurd H (by simp)
     ·rw [if_neg c4] at H
      have c4b0 : decide (x4_1 < (l0.length : Int)) = false := decide_eq_false c4
      clear c4
      obtain rfl := Option.some.inj H
      go_wp2
      go_ret
      exact ⟨by first | rfl | (simp [*] <;> rfl), by repeat (first | (with_reducible first | exact HB.out | apply pA | apply pN | apply pd_) | exact HB.out)⟩
  ·rw [if_neg c3] at H
   exact absurd H (by simp)
def wire_put.l0 : Nat → List Int → Int → Option (List Int)
 | 0, _, _ => none
 | k + 1, x0, x1 => if x1 ≥ 128 then (if x0.length < 140737488355328 then (wire_put.l0 k (x0 ++ [Go.bits .or .u8 ((x1) % 256) 128]) (x1 / 128)) else (none)) else (if x0.length < 140737488355328 then (some (x0 ++ [(x1) % 256])) else (none))
def wire_put.f (k : Nat) (l0 : List Int) (a1 : Int) : Option (List Int) := wire_put.l0 k l0 a1
set_option maxHeartbeats 8000000 in
set_option maxRecDepth 100000 in
theorem wire_put.calls (k : Nat) (P0_ : Nat → Prop) (u9000_ : Value) (l0 : List Int) (a1 : Int) (r : List Int) (w0 w : World) (hB : Below w0.heap.size w0 w) (ho0 : Kd.R (Kd.int .u8) 5 w w0.heap.size P0_ u9000_ l0) (h : wire_put.f k l0 a1 = some r) :
  Calls Tryd.prog 75 #[u9000_, .int .u64 a1] w fun e w' => ∃ v0_ : Value, e = .returned (v0_) ∧ Kd.R (Kd.int .u8) 5 w' w0.heap.size (fun k_ => (P0_ k_ ∨ w.heap.size ≤ k_)) v0_ r ∧ Below w0.heap.size w0 w' ∧ Kept w w' (fun k_ => P0_ k_) := by
 have HO0 := q_ (show Kd.R (Kd.int .u8) 5 w w0.heap.size (fun k_ => (P0_ k_ ∨ w.heap.size ≤ k_)) u9000_ l0 from Kd.R_mono ho0 (fun k_ hk => (.inl hk)))
 have HK := q_ (Kept.refl w (fun k_ => P0_ k_))
 have HW0 := Aside0.mk hB.size
 have HB := Aside0.mk hB
 clear hB
 have H : (wire_put.l0 k l0 a1) = some r := h
 clear h
 have H' := Aside0.mk H
 clear H
 go_enter Tryd.func75, Tryd.ntmps75
 go_wp2
 go_loopg [0, 1] k (fun kq v0 v1 w' => ∃ (x0_1 : List Int) (x1_1 : Int), v1 = .int .u64 x1_1 ∧ Aside0 (wire_put.l0 kq x0_1 x1_1 = some r) ∧ Aside0 (kq ≤ k) ∧ Aside0 (Kd.R (Kd.int .u8) 5 w' w0.heap.size (fun k_ => (P0_ k_ ∨ w.heap.size ≤ k_)) v0 x0_1) ∧ Aside0 (Kept w w' (fun k_ => P0_ k_)) ∧ Aside0 (Below w0.heap.size w0 w'))
 case atStart => exact ⟨(l0), (a1), (by first | rfl | (simp; done) | (simp [*]; done)), H', ⟨Nat.le_refl _⟩, ⟨by (with_reducible repeat (first | apply Kd.R_alloc | apply Kd.R_drewN | apply Kd.R_drew)); exact HO0.out⟩, ⟨by repeat (first | (with_reducible first | exact HK.out | apply Kept.alloc | apply Kept.drewN | apply Kept.drew) | exact HK.out)⟩, ⟨by repeat (first | (with_reducible first | exact HB.out | apply pA | apply pN | apply pd_) | exact HB.out)⟩⟩
 case round =>
  clear H'
  try clear p2
  obtain ⟨x0_1, x1_1, rfl, HA, HK1, HO_0, HK, HB⟩ := hrel
  cases gk with
  | zero => exact absurd HA.out (by simp [wire_put.l0])
  | succ k1 =>
   have H := HA.out
   clear HA
   simp only [wire_put.l0] at H
   by_cases c3 : x1_1 ≥ 128
   ·rw [if_pos c3] at H
    have c3b0 : decide (128 ≤ x1_1) = true := decide_eq_true c3
    clear c3
    by_cases c4 : x0_1.length < 140737488355328
    ·rw [if_pos c4] at H
     have LMc4 := Aside0.mk c4
     clear c4
     obtain ⟨y167, hy167⟩ : ∃ y_ : List Int, y_ = (x0_1 ++ [Go.bits .or .u8 ((x1_1) % 256) 128]) := ⟨_, rfl⟩
     replace H : (wire_put.l0 k1 y167 (x1_1 / 128)) = some r := by first | (rw [hy167]; with_reducible exact H) | (have H2_ := (Option.bind_some _ _).symm.trans H; rw [hy167]; with_reducible exact H2_) | (have H2_ := (Option.bind_some _ _).symm.trans H; with_reducible exact H2_) | with_reducible exact H | (rw [hy167]; exact H) | exact H
     have Ny167 := Aside0.mk hy167
     clear hy167
     have H' := Aside0.mk H
     clear H
     go_wp2_with (first | ((with_reducible refine gate_builtin (b := .append) (xs := #[.tmp 9, .tmp 13]) rfl ?_); at_builtin; refine Kd.R_append (Kd.int .u8) (w0 := w0) w0.heap.size rfl (.tmp 9) (.tmp 13) 57 5 (.int .u8 0) 1 rfl Tryd.underlying57 info5 rfl (by decide) (by omega) u0 x0_1 (Go.bits .or .u8 ((x1_1) % 256) 128) [.int .u8 (Go.bits .or .u8 ((x1_1) % 256) 128)] (fun k_ => (P0_ k_ ∨ w.heap.size ≤ k_)) (fun _ => False) rfl rfl ?aP (fun _ hk => hk.elim) ?aF ?aO ?aB ?aS ?aL ?_; (case aP => exact rfl); (case aB => exact (by repeat (first | (with_reducible first | exact HB.out | apply pA | apply pN | apply pd_) | exact HB.out))); (case aF => exact (fun k_ hk => (.inr (Nat.le_trans (by first | exact HK.out.1 | exact (show Kept w _ (fun k_ => P0_ k_) from by repeat (first | (with_reducible first | exact HK.out | apply Kept.alloc | apply Kept.drewN | apply Kept.drew) | exact HK.out)).1) hk)))); (case aO => exact (by (with_reducible repeat (first | apply Kd.R_alloc | apply Kd.R_drewN | apply Kd.R_drew)); exact HO_0.out)); (case aS => exact (pZ (by repeat (first | (with_reducible first | exact HB.out | apply pA | apply pN | apply pd_) | exact HB.out)))); (case aL => have := LMc4.out; omega); intro v168 w5 ho hb hg hat; rw [← Ny167.out] at ho; have n0_ := q_ (hb); have n1_ := q_ (Kept.of_grown (S := (fun k_ => P0_ k_)) hg (by repeat (first | (with_reducible first | exact HK.out | apply Kept.alloc | apply Kept.drewN | apply Kept.drew) | exact HK.out)) (fun k_ e_ => (HO_0.out.1 k_ e_))); have n2_ := q_ (ho); clear HB; clear HK; clear HO_0; have HB := n0_; have HK := n1_; have HO169 := n2_; clear n0_ n1_ n2_; clear ho hb hg hat))
     go_roundg k1
     case measure => have := HK1.out; omega
     case rel => exact ⟨(y167), (x1_1 / 128), (by first | rfl | (simp; done) | (simp [*]; done)), H', ⟨by have := HK1.out; omega⟩, ⟨by (with_reducible repeat (first | apply Kd.R_alloc | apply Kd.R_drewN | apply Kd.R_drew)); exact HO169.out⟩, ⟨by repeat (first | (with_reducible first | exact HK.out | apply Kept.alloc | apply Kept.drewN | apply Kept.drew) | exact HK.out)⟩, ⟨by repeat (first | (with_reducible first | exact HB.out | apply pA | apply pN | apply pd_) | exact HB.out)⟩⟩
    ·rw [if_neg c4] at H
     exact absurd H (by simp)
   ·rw [if_neg c3] at H
    have c3b0 : decide (128 ≤ x1_1) = false := decide_eq_false c3
    clear c3
    by_cases c6 : x0_1.length < 140737488355328
    ·rw [if_pos c6] at H
     have LMc6 := Aside0.mk c6
     clear c6
     obtain ⟨y170, hy170⟩ : ∃ y_ : List Int, y_ = (x0_1 ++ [(x1_1) % 256]) := ⟨_, rfl⟩
     replace H : (some y170) = some r := by first | (rw [hy170]; with_reducible exact H) | (have H2_ := (Option.bind_some _ _).symm.trans H; rw [hy170]; with_reducible exact H2_) | (have H2_ := (Option.bind_some _ _).symm.trans H; with_reducible exact H2_) | with_reducible exact H | (rw [hy170]; exact H) | exact H
     have Ny170 := Aside0.mk hy170
     clear hy170
     obtain rfl := Option.some.inj H
     go_wp2_with (first | ((with_reducible refine gate_builtin (b := .append) (xs := #[.tmp 15, .tmp 18]) rfl ?_); at_builtin; refine Kd.R_append (Kd.int .u8) (w0 := w0) w0.heap.size rfl (.tmp 15) (.tmp 18) 57 5 (.int .u8 0) 1 rfl Tryd.underlying57 info5 rfl (by decide) (by omega) u0 x0_1 ((x1_1) % 256) [.int .u8 ((x1_1) % 256)] (fun k_ => (P0_ k_ ∨ w.heap.size ≤ k_)) (fun _ => False) rfl rfl ?aP (fun _ hk => hk.elim) ?aF ?aO ?aB ?aS ?aL ?_; (case aP => exact rfl); (case aB => exact (by repeat (first | (with_reducible first | exact HB.out | apply pA | apply pN | apply pd_) | exact HB.out))); (case aF => exact (fun k_ hk => (.inr (Nat.le_trans (by first | exact HK.out.1 | exact (show Kept w _ (fun k_ => P0_ k_) from by repeat (first | (with_reducible first | exact HK.out | apply Kept.alloc | apply Kept.drewN | apply Kept.drew) | exact HK.out)).1) hk)))); (case aO => exact (by (with_reducible repeat (first | apply Kd.R_alloc | apply Kd.R_drewN | apply Kd.R_drew)); exact HO_0.out)); (case aS => exact (pZ (by repeat (first | (with_reducible first | exact HB.out | apply pA | apply pN | apply pd_) | exact HB.out)))); (case aL => have := LMc6.out; omega); intro v171 w7 ho hb hg hat; rw [← Ny170.out] at ho; have n0_ := q_ (hb); have n1_ := q_ (Kept.of_grown (S := (fun k_ => P0_ k_)) hg (by repeat (first | (with_reducible first | exact HK.out | apply Kept.alloc | apply Kept.drewN | apply Kept.drew) | exact HK.out)) (fun k_ e_ => (HO_0.out.1 k_ e_))); have n2_ := q_ (ho); clear HB; clear HK; clear HO_0; have HB := n0_; have HK := n1_; have HO172 := n2_; clear n0_ n1_ n2_; clear ho hb hg hat))
     go_ret
     exact ⟨_, by first | rfl | (simp [*] <;> rfl), by (with_reducible repeat (first | apply Kd.R_alloc | apply Kd.R_drewN | apply Kd.R_drew)); exact HO172.out, by repeat (first | (with_reducible first | exact HB.out | apply pA | apply pN | apply pd_) | exact HB.out), by repeat (first | (with_reducible first | exact HK.out | apply Kept.alloc | apply Kept.drewN | apply Kept.drew) | exact HK.out)⟩
    ·rw [if_neg c6] at H
     exact absurd H (by simp)
def wire_Text.f (k : Nat) (a0 : ByteArray) : Option (ByteArray) := (wire_put.f k ([] : List Int) (IntKind.u64.wrap ((a0.size : Int)))).bind fun t173 => (if t173.length + a0.size < 140737488355328 then (some (strOfNums (t173 ++ bytesOf a0))) else (none))
set_option maxHeartbeats 8000000 in
set_option maxRecDepth 100000 in
theorem wire_Text.calls (k : Nat) (a0 : ByteArray) (r : ByteArray) (w : World) (h : wire_Text.f k a0 = some r) :
  Calls Tryd.prog 46 #[.string a0] w fun e w' => e = .returned (.string r) ∧ Below w.heap.size w w' := by
 have HB := q_ (Below.refl w.heap.size w)
 have H : ((wire_put.f k ([] : List Int) (IntKind.u64.wrap ((a0.size : Int)))).bind fun t173 => (if t173.length + a0.size < 140737488355328 then (some (strOfNums (t173 ++ bytesOf a0))) else (none))) = some r := h
 clear h
 replace H := oB H
 obtain ⟨t173, A20, H⟩ := H
 replace H : (if t173.length + a0.size < 140737488355328 then (some (strOfNums (t173 ++ bytesOf a0))) else (none)) = some r := H
 have A2 := Aside0.mk A20
 clear A20
 by_cases c3 : t173.length + a0.size < 140737488355328
 ·rw [if_pos c3] at H
  have LMc3 := Aside0.mk c3
  clear c3
  obtain ⟨y176, hy176⟩ : ∃ y_ : List Int, y_ = (t173 ++ bytesOf a0) := ⟨_, rfl⟩
  replace H : (some (strOfNums y176)) = some r := by first | (rw [hy176]; with_reducible exact H) | (have H2_ := (Option.bind_some _ _).symm.trans H; rw [hy176]; with_reducible exact H2_) | (have H2_ := (Option.bind_some _ _).symm.trans H; with_reducible exact H2_) | with_reducible exact H | (rw [hy176]; exact H) | exact H
  have Ny176 := Aside0.mk hy176
  clear hy176
  obtain rfl := Option.some.inj H
  go_enter Tryd.func46, Tryd.ntmps46
  go_wp2_with (first | ((with_reducible refine gate_callee (f := 75) rfl ?_); refine goesL_ (some 6) rfl rfl Tryd.func75 (by kernel_rfl) rfl #[.slice none 0 0, .int .u64 (IntKind.u64.wrap ((a0.size : Int)))] rfl (by first | rfl | (simp only [List.map_toArray]; rfl)) ?_; (refine (wire_put.calls k (fun k_ => some k_ = (.slice none 0 0 : Value).ownBlock) (.slice none 0 0) ([] : List Int) (IntKind.u64.wrap ((a0.size : Int))) t173 w _ ?side1 ?side2 A2.out).mono ?_); (case side1 => repeat (first | (with_reducible first | exact HB.out | apply pA | apply pN | apply pd_) | exact HB.out)); (case side2 => exact Kd.R_nil _ _ _ _ _); rintro e w4 ⟨v174, rfl, ho0, hb, hkp⟩; refine ⟨_, rfl, ?_⟩; have n0_ := q_ (Kd.R_mono (ok' := fun k_ => True) ho0 (fun k_ hk_ => trivial)); have n1_ := q_ (hb); clear HB; have HO175 := n0_; have HB := n1_; clear n0_ n1_; (try clear hb); (try clear hkp); (try clear ho0)) | (at_builtin; refine print_append_str (w0 := w) w.heap.size rfl (.tmp 6) _ 57 9 5 rfl Tryd.underlying57 Tryd.underlying9 info5 v174 t173 a0 rfl rfl ?aO ?aB ?aS ?aL ?_; (case aB => exact (by repeat (first | (with_reducible first | exact HB.out | apply pA | apply pN | apply pd_) | exact HB.out))); (case aO => exact (Kd.own_of_R (by (with_reducible repeat (first | apply Kd.R_alloc | apply Kd.R_drewN | apply Kd.R_drew)); exact HO175.out))); (case aS => exact (pZ (by repeat (first | (with_reducible first | exact HB.out | apply pA | apply pN | apply pd_) | exact HB.out)))); (case aL => have := LMc3.out; omega); intro v177 w5 ho0 hb hg; have ho := Kd.R_of_own (h1 := fun _ => rfl) (ok := fun _ => True) ho0 (fun _ _ => trivial); clear ho0; have hat := True.intro; rw [← Ny176.out] at ho; change Kd.R (Kd.int .u8) 5 w5 w.heap.size (fun _ => True) v177 y176 at ho; have n0_ := q_ (hb); have n1_ := q_ (ho); clear HB; clear HO175; have HB := n0_; have HO178 := n1_; clear n0_ n1_; clear ho hb hg hat; have hcv6 := own_string (P := Tryd.prog) Tryd.underlying57 Tryd.underlying5 Tryd.underlying9 (Kd.own_of_R HO178.out)))
  go_ret
  exact ⟨by first | rfl | (simp [*] <;> rfl), by repeat (first | (with_reducible first | exact HB.out | apply pA | apply pN | apply pd_) | exact HB.out)⟩
 ·rw [if_neg c3] at H
  exact absurd H (by simp)
def wire_zigzag.f (a0 : Int) : Option (Int) := some (Go.bits .xor .u64 (IntKind.u64.wrap ((IntKind.u64.wrap (a0)) * 2)) (IntKind.u64.wrap (a0 / 9223372036854775808)))
set_option maxHeartbeats 8000000 in
set_option maxRecDepth 100000 in
theorem wire_zigzag.calls (a0 : Int) (r : Int) (w : World) (h : wire_zigzag.f a0 = some r) :
  Calls Tryd.prog 76 #[.int .i64 a0] w fun e w' => e = .returned (.int .u64 r) ∧ Drawn0 w w' := by
 have H : (some (Go.bits .xor .u64 (IntKind.u64.wrap ((IntKind.u64.wrap (a0)) * 2)) (IntKind.u64.wrap (a0 / 9223372036854775808)))) = some r := h
 clear h
 obtain rfl := Option.some.inj H
 go_enter Tryd.func76, Tryd.ntmps76
 go_wp2
 go_ret
 exact ⟨by first | rfl | (simp; done) | (simp [*]; done), by repeat (first | exact Drawn0.refl _ | apply Drawn0.step)⟩
end Go.Proofs.YtblmgmhjlbkncaaDoor.PA
