/- The plain laws: numbers, strings and lists. -/
import Derived.Test.YtblmgmhjlbkncaaDoorCOrderCounts5
import Derived.ChangeArms
import Derived.ChangeSame
import Derived.DataElems
import Derived.DataReads
import Derived.WideShapes
namespace Go.Proofs.YtblmgmhjlbkncaaDoorW.PrintWords
open Go.RowKit
def Opens (P : Program) (t : TypeId) {α : Type} (d : Kd α) (B : α → Prop) : Prop :=
  ∀ (H : Type) (enc : TypeId × Value → H) (W : World) (fuel : Nat) (cs : List Value) (x : DataW H × List MemPlace), DataW.trod enc P W 0 (fun _ => true) true fuel t cs = some x → ∃ a, d.K W a cs ∧ B a
theorem choose_list {α : Type} {p : Nat → α → Prop} : ∀ n : Nat, (∀ i, i < n → ∃ a, p i a) → ∃ l : List α, l.length = n ∧ ∀ i a, l[i]? = some a → p i a
  | 0, _ => ⟨[], rfl, fun i a h => by simp at h⟩
  | n + 1, h => by
    obtain ⟨l, hl, hp⟩ := choose_list n (fun i hi => h i (by omega))
    obtain ⟨a, ha⟩ := h n (by omega)
    refine ⟨l ++ [a], by simp [hl], fun i b hb => ?_⟩
    by_cases hi : i < l.length
    · rw [List.getElem?_append_left hi] at hb
      exact hp i b hb
    · rw [List.getElem?_append_right (by omega)] at hb
      obtain rfl : i = n := by
        have := (List.getElem?_eq_some_iff.1 hb).1
        simp at this
        omega
      rw [hl, Nat.sub_self] at hb
      simp at hb
      subst hb
      exact ha
section
variable {P : Program} {t : TypeId}
theorem opens_int {k : IntKind} (ht : P.underlying t = some (.int k)) : Opens P t (Kd.int k) (fun a => (Lit.int k a).wf = true) := by
  intro H enc W fuel cs x h
  obtain ⟨n, rfl, -, hw⟩ := DataW.trod_int ht h
  exact ⟨n, rfl, hw⟩
theorem opens_bool (ht : P.underlying t = some .bool) : Opens P t Kd.bool (fun _ => True) := by
  intro H enc W fuel cs x h
  obtain ⟨b, rfl, -⟩ := DataW.trod_bool ht h
  exact ⟨b, rfl, trivial⟩
theorem opens_string (ht : P.underlying t = some .string) : Opens P t Kd.string (fun a => a.size ≤ maxLen) := by
  intro H enc W fuel cs x h
  obtain ⟨s, rfl, -, hs⟩ := DataW.trod_string ht h
  exact ⟨s, rfl, hs⟩
theorem opens_slice (e q : TypeId) {α : Type} {d : Kd α} {B : α → Prop} (ht : P.underlying t = some (.slice e)) (hc : P.cellsOf e = d.sz) (he : Opens P e d B) : Opens P t (Kd.slice q d) (fun l => l.length ≤ maxLen ∧ ∀ a ∈ l, B a) := by
  intro H enc W fuel cs x h
  rcases DataW.trod_slice ht h with ⟨rfl, -⟩ | ⟨ad, len, cap, elems, rest, n, -, rfl, -, -, hlen, hcap, hel, helem, -, -⟩
  · exact ⟨[], ⟨none, 0, rfl, Nat.le_refl _, rfl, Nat.zero_le _, fun h => absurd h (Nat.lt_irrefl 0)⟩, Nat.zero_le _, fun a ha => by simp at ha⟩
  · have key : ∀ i, i < len → ∃ a, B a ∧ ∃ c, c.length = d.sz ∧ d.K W a c ∧ ∀ j u, c[j]? = some u → W.cell? (ad.add (i * d.sz + j)) = some u := by
      intro i hi
      have h1 := helem i hi
      rw [List.getElem?_eq_getElem (by omega)] at h1
      obtain ⟨c, hcs, htr⟩ := Option.bind_eq_some_iff.mp h1
      obtain ⟨a, hK, hB⟩ := he H enc W n c _ htr
      refine ⟨a, hB, c, d.K_len hK, hK, fun j u hj => ?_⟩
      obtain ⟨-, -, hs⟩ := World.cells?_some hcs
      have hjl : j < P.cellsOf e := by rw [hc, ← d.K_len hK]; exact (List.getElem?_eq_some_iff.1 hj).1
      rw [← hc, ← Addr.add_add, hs j hjl, hj]
    obtain ⟨l, hl, hp⟩ := choose_list len key
    have hle : l.length ≤ maxLen := by omega
    refine ⟨l, ⟨some ad, cap, by rw [hl], by omega, rfl, hle, fun _ => ⟨ad, rfl, fun j p hj => ?_⟩⟩, hle, fun a ha => ?_⟩
    · obtain ⟨-, c, h1, h2, h3⟩ := hp j p hj
      exact ⟨c, h1, h2, h3⟩
    · obtain ⟨i, hi, rfl⟩ := List.getElem_of_mem ha
      exact (hp i _ (List.getElem?_eq_getElem hi)).1
def FOpens (P : Program) (fs : List Field) (off : Nat) {α : Type} (d : Kd α) (B : α → Prop) : Prop :=
  ∀ (H : Type) (enc : TypeId × Value → H) (W : World) (n : Nat) (cs : List Value), off + d.sz = cs.length →
    (∀ (i : Nat) (f : Field), fs[i]? = some f → ∃ y, DataW.trod enc P W 0 (fun _ => true) true n f.type ((cs.drop f.offset).take (P.cellsOf f.type)) = some y) → ∃ a, d.K W a (cs.drop off) ∧ B a
theorem fo_last {f : Field} {off : Nat} {α : Type} {d : Kd α} {B : α → Prop} (ho : f.offset = off) (hc : P.cellsOf f.type = d.sz) (h : Opens P f.type d B) : FOpens P [f] off d B := by
  intro H enc W n cs hl hf
  obtain ⟨y, hy⟩ := hf 0 f rfl
  rw [ho, hc, List.take_of_length_le (by rw [List.length_drop]; omega)] at hy
  exact h H enc W n _ _ hy
theorem fo_cons {f : Field} {fs : List Field} {off : Nat} {α β : Type} {d : Kd α} {d' : Kd β} {B : α → Prop} {B' : β → Prop} (ho : f.offset = off) (hc : P.cellsOf f.type = d.sz) (h : Opens P f.type d B) (hr : FOpens P fs (off + d.sz) d' B') :
    FOpens P (f :: fs) off (Kd.pair d d') (fun a => B a.1 ∧ B' a.2) := by
  intro H enc W n cs hl hf
  have hl' : off + (d.sz + d'.sz) = cs.length := hl
  obtain ⟨y, hy⟩ := hf 0 f rfl
  rw [ho, hc] at hy
  obtain ⟨a, hK, hB⟩ := h H enc W n _ _ hy
  obtain ⟨b, hK', hB'⟩ := hr H enc W n cs (by omega) (fun i g hg => hf (i + 1) g (by simpa using hg))
  refine ⟨(a, b), ⟨(cs.drop off).take d.sz, cs.drop (off + d.sz), ?_, hK, hK'⟩, hB, hB'⟩
  rw [← List.drop_drop]
  exact (List.take_append_drop _ _).symm
theorem opens_struct {fs : Array Field} {l : List Field} {α β : Type} {d : Kd α} {B : α → Prop} (ht : P.underlying t = some (.struct fs)) (hl : fs.toList = l) (hc : P.cellsOf t = d.sz) (h : FOpens P l 0 d B) (g : β → α) (inv : α → β) (hg : ∀ a, g (inv a) = a) :
    Opens P t (Kd.iso d g) (fun b => B (g b)) := by
  subst hl
  intro H enc W fuel cs x hx
  obtain ⟨xs, n, -, -, hlen, hxs, hf⟩ := DataW.trod_struct ht hx
  obtain ⟨a, hK, hB⟩ := h H enc W n cs (by rw [hlen, hc, Nat.zero_add]) (fun i f hif => by
    have hif' : fs[i]? = some f := by simpa using hif
    have hi : i < xs.length := by rw [hxs]; exact (Array.getElem?_eq_some_iff.1 hif').1
    exact ⟨xs[i], (hf i f hif').trans (List.getElem?_eq_getElem hi)⟩)
  exact ⟨inv a, by show d.K W (g (inv a)) cs; rw [hg]; exact hK, by show B (g (inv a)); rw [hg]; exact hB⟩
end
end Go.Proofs.YtblmgmhjlbkncaaDoorW.PrintWords
namespace Go.Proofs.YtblmgmhjlbkncaaDoor.PA
open Go.RowKit Go.Proofs.YtblmgmhjlbkncaaDoorW.PrintWords
set_option linter.unusedVariables false
def B23 (x : S23) : Prop := x.f0.size ≤ maxLen ∧ x.f1.size ≤ maxLen ∧ (Lit.int .i64 x.f2).wf = true ∧ (Lit.int .i64 x.f3).wf = true ∧ (Lit.int .i64 x.f4).wf = true ∧ (Lit.int .i64 x.f5).wf = true ∧ (Lit.int .i64 x.f6).wf = true ∧ (Lit.int .i64 x.f7).wf = true ∧ (Lit.int .i64 x.f8).wf = true ∧ (Lit.int .i64 x.f9).wf = true ∧ (Lit.int .i64 x.f10).wf = true
theorem opens23 : Opens Tryd.prog 23 k23 B23 := by
  have h := opens_struct Tryd.underlying23 rfl (by kernel_rfl) (fo_cons rfl (by kernel_rfl) (opens_string Tryd.underlying9) (fo_cons rfl (by kernel_rfl) (opens_string Tryd.underlying9) (fo_cons rfl (by kernel_rfl) (opens_int Tryd.underlying3) (fo_cons rfl (by kernel_rfl) (opens_int Tryd.underlying3) (fo_cons rfl (by kernel_rfl) (opens_int Tryd.underlying3) (fo_cons rfl (by kernel_rfl) (opens_int Tryd.underlying3) (fo_cons rfl (by kernel_rfl) (opens_int Tryd.underlying3) (fo_cons rfl (by kernel_rfl) (opens_int Tryd.underlying3) (fo_cons rfl (by kernel_rfl) (opens_int Tryd.underlying3) (fo_cons rfl (by kernel_rfl) (opens_int Tryd.underlying3) (fo_last rfl (by kernel_rfl) (opens_int Tryd.underlying3)))))))))))) (fun x : S23 => (x.f0, x.f1, x.f2, x.f3, x.f4, x.f5, x.f6, x.f7, x.f8, x.f9, x.f10)) (fun y => ⟨y.1, y.2.1, y.2.2.1, y.2.2.2.1, y.2.2.2.2.1, y.2.2.2.2.2.1, y.2.2.2.2.2.2.1, y.2.2.2.2.2.2.2.1, y.2.2.2.2.2.2.2.2.1, y.2.2.2.2.2.2.2.2.2.1, y.2.2.2.2.2.2.2.2.2.2⟩) (fun _ => rfl)
  exact h
def B31 (x : S31) : Prop := (Lit.int .i64 x.f0).wf = true ∧ (Lit.int .i64 x.f1).wf = true
theorem opens31 : Opens Tryd.prog 31 k31 B31 := by
  have h := opens_struct Tryd.underlying31 rfl (by kernel_rfl) (fo_cons rfl (by kernel_rfl) (opens_int Tryd.underlying3) (fo_last rfl (by kernel_rfl) (opens_int Tryd.underlying3))) (fun x : S31 => (x.f0, x.f1)) (fun y => ⟨y.1, y.2⟩) (fun _ => rfl)
  exact h
def B33 (x : S33) : Prop := B31 x.f0 ∧ B31 x.f1 ∧ B31 x.f2
theorem opens33 : Opens Tryd.prog 33 k33 B33 := by
  have h := opens_struct Tryd.underlying33 rfl (by kernel_rfl) (fo_cons rfl (by kernel_rfl) opens31 (fo_cons rfl (by kernel_rfl) opens31 (fo_last rfl (by kernel_rfl) opens31))) (fun x : S33 => (x.f0, x.f1, x.f2)) (fun y => ⟨y.1, y.2.1, y.2.2⟩) (fun _ => rfl)
  exact h
def B176 (x : S176) : Prop := (Lit.int .i64 x.f0).wf = true ∧ B33 x.f1
theorem opens176 : Opens Tryd.prog 176 k176 B176 := by
  have h := opens_struct Tryd.underlying176 rfl (by kernel_rfl) (fo_cons rfl (by kernel_rfl) (opens_int Tryd.underlying3) (fo_last rfl (by kernel_rfl) opens33)) (fun x : S176 => (x.f0, x.f1)) (fun y => ⟨y.1, y.2⟩) (fun _ => rfl)
  exact h
def B36 (x : S36) : Prop := (Lit.int .i64 x.f0).wf = true ∧ (Lit.int .i64 x.f1).wf = true ∧ (Lit.int .i64 x.f2).wf = true
theorem opens36 : Opens Tryd.prog 36 k36 B36 := by
  have h := opens_struct Tryd.underlying36 rfl (by kernel_rfl) (fo_cons rfl (by kernel_rfl) (opens_int Tryd.underlying3) (fo_cons rfl (by kernel_rfl) (opens_int Tryd.underlying3) (fo_last rfl (by kernel_rfl) (opens_int Tryd.underlying3)))) (fun x : S36 => (x.f0, x.f1, x.f2)) (fun y => ⟨y.1, y.2.1, y.2.2⟩) (fun _ => rfl)
  exact h
def B38 (x : S38) : Prop := x.f0.size ≤ maxLen ∧ x.f1.size ≤ maxLen ∧ x.f2.size ≤ maxLen ∧ (Lit.int .i64 x.f3).wf = true ∧ B33 x.f4 ∧ (Lit.int .i64 x.f5).wf = true ∧ (x.f6.length ≤ maxLen ∧ ∀ a ∈ x.f6, B176 a) ∧ (Lit.int .i64 x.f7).wf = true ∧ B36 x.f8 ∧ True ∧ (Lit.int .i64 x.f10).wf = true
theorem opens38 : Opens Tryd.prog 38 k38 B38 := by
  have h := opens_struct Tryd.underlying38 rfl (by kernel_rfl) (fo_cons rfl (by kernel_rfl) (opens_string Tryd.underlying9) (fo_cons rfl (by kernel_rfl) (opens_string Tryd.underlying9) (fo_cons rfl (by kernel_rfl) (opens_string Tryd.underlying9) (fo_cons rfl (by kernel_rfl) (opens_int Tryd.underlying3) (fo_cons rfl (by kernel_rfl) opens33 (fo_cons rfl (by kernel_rfl) (opens_int Tryd.underlying3) (fo_cons rfl (by kernel_rfl) (opens_slice 176 176 Tryd.underlying34 (by kernel_rfl) opens176) (fo_cons rfl (by kernel_rfl) (opens_int Tryd.underlying3) (fo_cons rfl (by kernel_rfl) opens36 (fo_cons rfl (by kernel_rfl) (opens_bool Tryd.underlying4) (fo_last rfl (by kernel_rfl) (opens_int Tryd.underlying3)))))))))))) (fun x : S38 => (x.f0, x.f1, x.f2, x.f3, x.f4, x.f5, x.f6, x.f7, x.f8, x.f9, x.f10)) (fun y => ⟨y.1, y.2.1, y.2.2.1, y.2.2.2.1, y.2.2.2.2.1, y.2.2.2.2.2.1, y.2.2.2.2.2.2.1, y.2.2.2.2.2.2.2.1, y.2.2.2.2.2.2.2.2.1, y.2.2.2.2.2.2.2.2.2.1, y.2.2.2.2.2.2.2.2.2.2⟩) (fun _ => rfl)
  exact h
def sawmilllaw46_OrderCounts.Pure : Prop := ∀ (a0_0 : ByteArray) (a0_1 : ByteArray) (a0_2 : Int) (a0_3 : Int) (a0_4 : Int) (a0_5 : Int) (a0_6 : Int) (a0_7 : Int) (a0_8 : Int) (a0_9 : Int) (a0_10 : Int) (l1 : List (S38)) (a2 : Int), B23 (⟨a0_0, a0_1, a0_2, a0_3, a0_4, a0_5, a0_6, a0_7, a0_8, a0_9, a0_10⟩ : S23) → l1.length ≤ maxLen → (∀ a ∈ l1, B38 a) → (Lit.int .i64 a2).wf = true → ∃ k, sawmilllaw46_OrderCounts.f k a0_0 a0_1 a0_2 a0_3 a0_4 a0_5 a0_6 a0_7 a0_8 a0_9 a0_10 l1 a2 = some true
end Go.Proofs.YtblmgmhjlbkncaaDoor.PA
namespace Go.Proofs.YtblmgmhjlbkncaaDoor.PA
open Go.RowKit Go.Proofs.YtblmgmhjlbkncaaDoorW.PrintWords
set_option linter.unusedVariables false
theorem ow64 {n : Int} (h0 : -9223372036854775808 ≤ n) (h1 : n ≤ 9223372036854775807) : wrap64 n = n := by unfold wrap64; omega
theorem snd_both (a0 a1 : ByteArray) (a2 a3 a4 a5 a6 a7 a8 a9 a10 : Int) : ∃ b, order_sound.f a0 a1 a2 a3 a4 a5 a6 a7 a8 a9 a10 = some b ∧ sawmillref46_Sound.f a0 a1 a2 a3 a4 a5 a6 a7 a8 a9 a10 = some b := by
  unfold order_sound.f sawmillref46_Sound.f
  by_cases h1 : a6 < 1
  · rw [if_pos h1, if_neg (by omega)]; exact ⟨_, rfl, rfl⟩
  rw [if_neg h1, if_pos (show a6 ≥ 1 by omega)]
  by_cases h2 : a6 > 200
  · rw [if_pos h2, if_neg (by omega)]; exact ⟨_, rfl, rfl⟩
  rw [if_neg h2, if_pos (show a6 ≤ 200 by omega)]
  by_cases h3 : a7 ≥ 0
  · rw [if_pos h3]
    by_cases h4 : a7 < a6
    · rw [if_pos h4]
      by_cases h5 : a8 ≥ 0
      · rw [if_pos h5]; exact ⟨_, rfl, rfl⟩
      · rw [if_neg h5]; exact ⟨_, rfl, rfl⟩
    · rw [if_neg h4]; exact ⟨_, rfl, rfl⟩
  · rw [if_neg h3]; exact ⟨_, rfl, rfl⟩
theorem len_both (b0 b1 b2 : ByteArray) (b3 b4 b5 b6 b7 b8 b9 b10 : Int) (l : List S176) (b12 b13 b14 b15 : Int) (b16 : Bool) (b17 : Int) : ∃ n, board_Length.f b0 b1 b2 b3 b4 b5 b6 b7 b8 b9 b10 l b12 b13 b14 b15 b16 b17 = some n ∧ sawmillref30_Length.f b0 b1 b2 b3 b4 b5 b6 b7 b8 b9 b10 l b12 b13 b14 b15 b16 b17 = some n := by
  unfold board_Length.f sawmillref30_Length.f sawmillref30_within.f sawmillref30_length.f board_size.f
  by_cases h1 : b8 < 0
  · rw [if_pos h1, if_neg (show ¬ b8 ≥ 0 by omega), Option.bind_some, if_neg (by simp)]
    exact ⟨_, rfl, rfl⟩
  rw [if_neg h1, if_pos (show b8 ≥ 0 by omega)]
  by_cases h2 : b8 ≥ b9
  · rw [if_pos h2]
    refine ⟨0, rfl, ?_⟩
    by_cases h3 : b8 ≤ 20000
    · rw [if_pos h3]
      by_cases h4 : b9 ≥ 0
      · rw [if_pos h4, Option.bind_some, decide_eq_true (show b9 ≤ 20000 by omega), if_pos rfl, Option.bind_some, ow64 (by omega) (by omega)]
        unfold mx
        rw [if_neg (by omega)]
      · rw [if_neg h4, Option.bind_some, if_neg (by simp)]
    · rw [if_neg h3, Option.bind_some, if_neg (by simp)]
  rw [if_neg h2]
  by_cases h3 : b9 > 20000
  · rw [if_pos h3]
    refine ⟨0, rfl, ?_⟩
    by_cases h4 : b8 ≤ 20000
    · rw [if_pos h4, if_pos (show b9 ≥ 0 by omega), Option.bind_some, decide_eq_false (show ¬ b9 ≤ 20000 by omega), if_neg (by simp)]
    · rw [if_neg h4, Option.bind_some, if_neg (by simp)]
  · rw [if_neg h3, if_pos (show b8 ≤ 20000 by omega), if_pos (show b9 ≥ 0 by omega), Option.bind_some, decide_eq_true (show b9 ≤ 20000 by omega), Option.bind_some, if_pos rfl, Option.bind_some, ow64 (by omega) (by omega)]
    refine ⟨b9 - b8, rfl, ?_⟩
    unfold mx
    rw [if_pos (by omega)]
theorem moi_both (s c st : Int) {k : Nat} (hk : 1 ≤ k) : ∃ n, moist_Check.f k s c st = some n ∧ sawmillref36_Check.f k s c st = some n := by
  obtain ⟨k, rfl⟩ : ∃ j, k = j + 1 := ⟨k - 1, by omega⟩
  have e : ∀ b, moist_Check.j0 (k + 1) b s c st = sawmillref36_Check.j0 (k + 1) b s c st := fun b => rfl
  have ht : ∀ b, ∃ n, sawmillref36_Check.j0 (k + 1) b s c st = some n := fun b => by
    simp only [sawmillref36_Check.j0]
    by_cases h1 : b = true
    · rw [if_pos h1]; exact ⟨_, rfl⟩
    · rw [if_neg h1]
      by_cases h2 : st < 0
      · rw [if_pos h2]; exact ⟨_, rfl⟩
      · rw [if_neg h2]
        by_cases h3 : st > 1099511627776
        · rw [if_pos h3]; exact ⟨_, rfl⟩
        · rw [if_neg h3]; exact ⟨_, rfl⟩
  unfold moist_Check.f sawmillref36_Check.f
  rw [e, e]
  by_cases h1 : s < 0
  · rw [if_pos h1, if_pos (by unfold mn; split <;> omega)]
    obtain ⟨n, hn⟩ := ht true
    exact ⟨n, hn, hn⟩
  rw [if_neg h1]
  by_cases h2 : c < 0
  · rw [if_pos h2, if_pos (show mn s c < 0 by unfold mn; split <;> omega)]
    obtain ⟨n, hn⟩ := ht true
    refine ⟨n, hn, ?_⟩
    by_cases h3 : s > 20000
    · rw [if_pos h3, hn]
    · rw [if_neg h3, hn]
  rw [if_neg h2, if_neg (show ¬ mn s c < 0 by unfold mn; split <;> omega)]
  by_cases h3 : s > 20000
  · rw [if_pos h3, decide_eq_true (show mx s c > 20000 by unfold mx; split <;> omega)]
    obtain ⟨n, hn⟩ := ht true
    exact ⟨n, hn, hn⟩
  · rw [if_neg h3, show decide (mx s c > 20000) = decide (c > 20000) from by rw [decide_eq_decide]; unfold mx; split <;> omega]
    obtain ⟨n, hn⟩ := ht (decide (c > 20000))
    exact ⟨n, hn, hn⟩
theorem mean_both (s c st : Int) {k : Nat} (hk : 1 ≤ k) : ∃ n, moist_Mean.f k s c st = some n ∧ sawmillref36_Mean.f k s c st = some n := by
  obtain ⟨n, h1, h2⟩ := moi_both s c st hk
  unfold moist_Mean.f sawmillref36_Mean.f
  rw [h1, h2, Option.bind_some]
  by_cases h : n = 0
  · rw [if_pos h]; exact ⟨_, rfl, rfl⟩
  · rw [if_neg h]; exact ⟨_, rfl, rfl⟩
theorem fits_both (a0 a1 : ByteArray) (a2 a3 a4 a5 a6 a7 a8 a9 a10 : Int) (b0 b1 b2 : ByteArray) (b3 b4 b5 b6 b7 b8 b9 b10 : Int) (l : List S176) (b12 b13 b14 b15 : Int) (b16 : Bool) (b17 : Int) {k : Nat} (hk : 1 ≤ k) : ∃ n, order_Fits.f k a0 a1 a2 a3 a4 a5 a6 a7 a8 a9 a10 b0 b1 b2 b3 b4 b5 b6 b7 b8 b9 b10 l b12 b13 b14 b15 b16 b17 = some n ∧ sawmillref46_Fits.f k a0 a1 a2 a3 a4 a5 a6 a7 a8 a9 a10 b0 b1 b2 b3 b4 b5 b6 b7 b8 b9 b10 l b12 b13 b14 b15 b16 b17 = some n := by
  obtain ⟨n, h1, h2⟩ := len_both b0 b1 b2 b3 b4 b5 b6 b7 b8 b9 b10 l b12 b13 b14 b15 b16 b17
  obtain ⟨m, h3, h4⟩ := mean_both b13 b14 b15 hk
  have e : order_Fits.f k a0 a1 a2 a3 a4 a5 a6 a7 a8 a9 a10 b0 b1 b2 b3 b4 b5 b6 b7 b8 b9 b10 l b12 b13 b14 b15 b16 b17 = sawmillref46_Fits.f k a0 a1 a2 a3 a4 a5 a6 a7 a8 a9 a10 b0 b1 b2 b3 b4 b5 b6 b7 b8 b9 b10 l b12 b13 b14 b15 b16 b17 := by
    unfold order_Fits.f sawmillref46_Fits.f
    rw [h1, h2, h3, h4]
  rw [e]
  suffices h : ∃ n, sawmillref46_Fits.f k a0 a1 a2 a3 a4 a5 a6 a7 a8 a9 a10 b0 b1 b2 b3 b4 b5 b6 b7 b8 b9 b10 l b12 b13 b14 b15 b16 b17 = some n from h.imp fun _ hn => ⟨hn, hn⟩
  unfold sawmillref46_Fits.f
  rw [h2, h4, Option.bind_some, Option.bind_some]
  by_cases c1 : b2.toList = a1.toList
  · rw [if_pos c1]
    by_cases c2 : b3 = a2
    · rw [if_pos c2]
      by_cases c3 : n = a3
      · rw [if_pos c3]
        by_cases c4 : b16 = true
        · rw [if_pos c4]
          by_cases c5 : m > a5
          · rw [if_pos c5]; exact ⟨_, rfl⟩
          · rw [if_neg c5]
            by_cases c6 : b17 < 1
            · rw [if_pos c6]; exact ⟨_, rfl⟩
            · rw [if_neg c6]
              by_cases c7 : b17 > a4
              · rw [if_pos c7]; exact ⟨_, rfl⟩
              · rw [if_neg c7]; exact ⟨_, rfl⟩
        · rw [if_neg c4]; exact ⟨_, rfl⟩
      · rw [if_neg c3]; exact ⟨_, rfl⟩
    · rw [if_neg c2]; exact ⟨_, rfl⟩
  · rw [if_neg c1]; exact ⟨_, rfl⟩
end Go.Proofs.YtblmgmhjlbkncaaDoor.PA
namespace Go.Proofs.YtblmgmhjlbkncaaDoor.PA
open Go.RowKit Go.Proofs.YtblmgmhjlbkncaaDoorW.PrintWords
set_option linter.unusedVariables false
section
variable {a0 a1 : ByteArray} {a2 a3 a4 a5 a6 a7 a8 a9 a10 : Int}
def fillV (F : S38 → Int) : List S38 → List (List UInt8) → Bool
  | [], _ => true
  | x :: r, seen => if F x = 0 then (if x.f0.data.toList ∈ seen then false else fillV F r (x.f0.data.toList :: seen)) else false
theorem fit_ex (k : Nat) (hk : 1 ≤ k) : ∃ F : S38 → Int, ∀ (j : Nat) x, k ≤ j → fitOf j a0 a1 a2 a3 a4 a5 a6 a7 a8 a9 a10 x = some (F x) ∧ sawmillref46_Fits.f j a0 a1 a2 a3 a4 a5 a6 a7 a8 a9 a10 x.f0 x.f1 x.f2 x.f3 x.f4.f0.f0 x.f4.f0.f1 x.f4.f1.f0 x.f4.f1.f1 x.f4.f2.f0 x.f4.f2.f1 x.f5 x.f6 x.f7 x.f8.f0 x.f8.f1 x.f8.f2 x.f9 x.f10 = some (F x) := by
  have h : ∀ x : S38, ∃ n, ∀ j : Nat, k ≤ j → fitOf j a0 a1 a2 a3 a4 a5 a6 a7 a8 a9 a10 x = some n ∧ sawmillref46_Fits.f j a0 a1 a2 a3 a4 a5 a6 a7 a8 a9 a10 x.f0 x.f1 x.f2 x.f3 x.f4.f0.f0 x.f4.f0.f1 x.f4.f1.f0 x.f4.f1.f1 x.f4.f2.f0 x.f4.f2.f1 x.f5 x.f6 x.f7 x.f8.f0 x.f8.f1 x.f8.f2 x.f9 x.f10 = some n := fun x => by
    obtain ⟨n, h1, h2⟩ := fits_both a0 a1 a2 a3 a4 a5 a6 a7 a8 a9 a10 x.f0 x.f1 x.f2 x.f3 x.f4.f0.f0 x.f4.f0.f1 x.f4.f1.f0 x.f4.f1.f1 x.f4.f2.f0 x.f4.f2.f1 x.f5 x.f6 x.f7 x.f8.f0 x.f8.f1 x.f8.f2 x.f9 x.f10 (k := k) hk
    refine ⟨n, fun j hj => ?_⟩
    exact ⟨at_rounds (order_Fits.mono _ _ _ _ _ _ _ _ _ _ _ _ _ _ _ _ _ _ _ _ _ _ _ _ _ _ _ _ _) hj h1, at_rounds (sawmillref46_Fits.mono _ _ _ _ _ _ _ _ _ _ _ _ _ _ _ _ _ _ _ _ _ _ _ _ _ _ _ _ _) hj h2⟩
  exact ⟨fun x => (h x).choose, fun j x hj => (h x).choose_spec j hj⟩
theorem p_fill (F : S38 → Int) {k : Nat} (hF : ∀ x, fitOf k a0 a1 a2 a3 a4 a5 a6 a7 a8 a9 a10 x = some (F x)) : ∀ (l : List S38) (seen : List (List UInt8)), (∀ x ∈ l, x.f0.size ≤ maxLen) → order_Filled.g k a0 a1 a2 a3 a4 a5 a6 a7 a8 a9 a10 l seen = some (fillV F l seen)
  | [], seen, hs => rfl
  | x :: r, seen, hs => by
    unfold order_Filled.g fillV
    rw [if_pos (hs x (by simp)), hF x, Option.bind_some]
    by_cases h1 : F x = 0
    · rw [if_pos h1, if_pos h1]
      by_cases h2 : x.f0.data.toList ∈ seen
      · rw [if_pos h2, if_pos h2]
      · rw [if_neg h2, if_neg h2]
        exact p_fill F hF r _ (fun y hy => hs y (by simp [hy]))
    · rw [if_neg h1]
      by_cases h2 : x.f0.data.toList ∈ seen
      · rw [if_pos h2, if_neg h1]
      · rw [if_neg h2, if_neg h1]
end
end Go.Proofs.YtblmgmhjlbkncaaDoor.PA
namespace Go.Proofs.YtblmgmhjlbkncaaDoor.PA
open Go.RowKit Go.Proofs.YtblmgmhjlbkncaaDoorW.PrintWords
set_option linter.unusedVariables false
theorem fillV_iff (F : S38 → Int) : ∀ (l : List S38) (seen : List (List UInt8)), fillV F l seen = true ↔ (∀ x ∈ l, F x = 0) ∧ (l.map fun x => x.f0.data.toList).Nodup ∧ ∀ x ∈ l, x.f0.data.toList ∉ seen
  | [], seen => by simp [fillV]
  | x :: l, seen => by
    unfold fillV
    by_cases h1 : F x = 0
    · rw [if_pos h1]
      by_cases h2 : x.f0.data.toList ∈ seen
      · rw [if_pos h2]
        simp [h2]
      · rw [if_neg h2, fillV_iff F l]
        constructor
        · rintro ⟨a, b, c⟩
          refine ⟨?_, ?_, ?_⟩
          · intro y hy
            rcases List.mem_cons.1 hy with rfl | hy
            · exact h1
            · exact a y hy
          · rw [List.map_cons, List.nodup_cons]
            refine ⟨?_, b⟩
            intro hm
            obtain ⟨y, hy, e⟩ := List.mem_map.1 hm
            exact c y hy (by simp [e])
          · intro y hy
            rcases List.mem_cons.1 hy with rfl | hy
            · exact h2
            · exact fun hs => c y hy (by simp [hs])
        · rintro ⟨a, b, c⟩
          rw [List.map_cons, List.nodup_cons] at b
          refine ⟨fun y hy => a y (by simp [hy]), b.2, fun y hy hs => ?_⟩
          rcases List.mem_cons.1 hs with e | hs
          · exact b.1 (List.mem_map.2 ⟨y, hy, e⟩)
          · exact c y (by simp [hy]) hs
    · rw [if_neg h1]
      constructor
      · intro h; simp at h
      · rintro ⟨a, -, -⟩; exact absurd (a x (by simp)) h1
theorem fillV_perm (F : S38 → Int) {l m : List S38} (h : l.Perm m) : fillV F l [] = fillV F m [] := by
  rw [Bool.eq_iff_iff, fillV_iff, fillV_iff]
  constructor
  · rintro ⟨a, b, -⟩
    exact ⟨fun x hx => a x (h.mem_iff.2 hx), (h.map _).nodup_iff.1 b, by simp⟩
  · rintro ⟨a, b, -⟩
    exact ⟨fun x hx => a x (h.mem_iff.1 hx), (h.map _).nodup_iff.2 b, by simp⟩
theorem fillV_take (F : S38 → Int) {l : List S38} (h : fillV F l [] = true) (n : Nat) : fillV F (l.take n) [] = true := by
  rw [fillV_iff] at h ⊢
  refine ⟨fun x hx => h.1 x (List.mem_of_mem_take hx), ?_, by simp⟩
  rw [List.map_take]
  exact List.Nodup.sublist (List.take_sublist _ _) h.2.1
section
variable {a0 a1 : ByteArray} {a2 a3 a4 a5 a6 a7 a8 a9 a10 : Int}
theorem sound_of {b : Bool} (h : order_sound.f a0 a1 a2 a3 a4 a5 a6 a7 a8 a9 a10 = some b) : b = true ↔ (1 ≤ a6 ∧ a6 ≤ 200 ∧ 0 ≤ a7 ∧ a7 < a6 ∧ 0 ≤ a8 ∧ a8 ≤ 200 - a6) := by
  unfold order_sound.f at h
  by_cases h1 : a6 < 1
  · rw [if_pos h1] at h; obtain rfl := Option.some.inj h; constructor <;> intro e <;> first | omega | simp at e
  rw [if_neg h1] at h
  by_cases h2 : a6 > 200
  · rw [if_pos h2] at h; obtain rfl := Option.some.inj h; constructor <;> intro e <;> first | omega | simp at e
  rw [if_neg h2] at h
  by_cases h3 : a7 ≥ 0
  case neg => rw [if_neg h3] at h; obtain rfl := Option.some.inj h; constructor <;> intro e <;> first | omega | simp at e
  rw [if_pos h3] at h
  by_cases h4 : a7 < a6
  case neg => rw [if_neg h4] at h; obtain rfl := Option.some.inj h; constructor <;> intro e <;> first | omega | simp at e
  rw [if_pos h4] at h
  by_cases h5 : a8 ≥ 0
  case neg => rw [if_neg h5] at h; obtain rfl := Option.some.inj h; constructor <;> intro e <;> first | omega | simp at e
  rw [if_pos h5, ow64 (by omega) (by omega)] at h
  obtain rfl := Option.some.inj h
  rw [decide_eq_true_eq]
  constructor <;> intro e <;> omega
def filledV (s : Bool) (m p : Int) (F : S38 → Int) (l : List S38) : Bool := if s = true then (if (l.length : Int) < m then false else if (l.length : Int) > p then false else fillV F l []) else false
theorem p_filledV {s : Bool} {m p : Int} (h1 : order_sound.f a0 a1 a2 a3 a4 a5 a6 a7 a8 a9 a10 = some s) (h3 : order_Least.f a0 a1 a2 a3 a4 a5 a6 a7 a8 a9 a10 = some m) (h5 : order_Most.f a0 a1 a2 a3 a4 a5 a6 a7 a8 a9 a10 = some p) {F : S38 → Int} {k : Nat}
    (hF : ∀ x, fitOf k a0 a1 a2 a3 a4 a5 a6 a7 a8 a9 a10 x = some (F x)) (l : List S38) (hl : l.length ≤ 1000) (hs : ∀ x ∈ l, x.f0.size ≤ maxLen) : order_Filled.f k a0 a1 a2 a3 a4 a5 a6 a7 a8 a9 a10 l = some (filledV s m p F l) := by
  unfold order_Filled.f filledV
  rw [if_pos (by omega), h1, Option.bind_some]
  by_cases hs1 : s = true
  · rw [if_pos hs1, if_pos hs1, h3, Option.bind_some]
    by_cases c1 : (l.length : Int) < m
    · rw [if_pos c1, if_pos c1]
    · rw [if_neg c1, if_neg c1, h5, Option.bind_some]
      by_cases c2 : (l.length : Int) > p
      · rw [if_pos c2, if_pos c2]
      · rw [if_neg c2, if_neg c2, p_fill F hF l [] hs]
  · rw [if_neg hs1, if_neg hs1]
theorem sawmilllaw46_OrderCounts.pure : sawmilllaw46_OrderCounts.Pure := by
  intro a0 a1 a2 a3 a4 a5 a6 a7 a8 a9 a10 l at_ hA hl hB hw
  refine ⟨300000, ?_⟩
  unfold sawmilllaw46_OrderCounts.f
  by_cases h250 : (l.length : Int) > 250
  · rw [if_pos h250]
  rw [if_neg h250]
  obtain ⟨s, h1, -⟩ := snd_both a0 a1 a2 a3 a4 a5 a6 a7 a8 a9 a10
  have hsd := sound_of h1
  obtain ⟨F, hF⟩ := fit_ex (a0 := a0) (a1 := a1) (a2 := a2) (a3 := a3) (a4 := a4) (a5 := a5) (a6 := a6) (a7 := a7) (a8 := a8) (a9 := a9) (a10 := a10) 1 (Nat.le_refl _)
  have h3 : order_Least.f a0 a1 a2 a3 a4 a5 a6 a7 a8 a9 a10 = some (if s = true then a6 - a7 else 0) := by
    unfold order_Least.f
    rw [h1, Option.bind_some]
    by_cases c : s = true
    · have := hsd.1 c
      rw [if_pos c, if_pos c, ow64 (by omega) (by omega)]
    · rw [if_neg c, if_neg c]
  have h5 : order_Most.f a0 a1 a2 a3 a4 a5 a6 a7 a8 a9 a10 = some (if s = true then a6 + a8 else 0) := by
    unfold order_Most.f
    rw [h1, Option.bind_some]
    by_cases c : s = true
    · have := hsd.1 c
      rw [if_pos c, if_pos c, ow64 (by omega) (by omega)]
    · rw [if_neg c, if_neg c]
  have hV := fun (q : List S38) (h1_ : q.length ≤ 1000) (h2_ : ∀ x ∈ q, x.f0.size ≤ maxLen) => p_filledV h1 h3 h5 (k := 300000) (fun x => (hF 300000 x (by omega)).1) q h1_ h2_
  have hsz : ∀ x ∈ l, x.f0.size ≤ maxLen := fun x hx => (hB x hx).1
  rw [h3, h5, Option.bind_some, Option.bind_some]
  by_cases c : s = true
  · have hc := hsd.1 c
    simp only [c, if_true] at hV ⊢
    rw [if_pos (Or.inr (by omega)), hV l (by omega) hsz, Option.bind_some]
    by_cases c3 : filledV true (a6 - a7) (a6 + a8) F l = false ∨ at_ < 0 ∨ at_ > (l.length : Int)
    · rw [if_pos c3]
    · rw [if_neg c3, if_neg (by omega)]
      have c4 : filledV true (a6 - a7) (a6 + a8) F l = true := by
        cases hq : filledV true (a6 - a7) (a6 + a8) F l with
        | false => exact absurd (Or.inl hq) c3
        | true => rfl
      have c5 : 0 ≤ at_ ∧ at_ ≤ (l.length : Int) := by
        constructor
        · exact Int.not_lt.1 fun e => c3 (Or.inr (Or.inl e))
        · exact Int.not_lt.1 fun e => c3 (Or.inr (Or.inr e))
      unfold filledV at c4
      rw [if_pos rfl] at c4
      by_cases d1 : (l.length : Int) < a6 - a7
      · rw [if_pos d1] at c4; simp at c4
      rw [if_neg d1] at c4
      by_cases d2 : (l.length : Int) > a6 + a8
      · rw [if_pos d2] at c4; simp at c4
      rw [if_neg d2] at c4
      have hperm : (l.drop at_.toNat ++ l.take at_.toNat).Perm l := by
        have := List.perm_append_comm (l₁ := l.drop at_.toNat) (l₂ := l.take at_.toNat)
        rwa [List.take_append_drop] at this
      have hplen : (l.drop at_.toNat ++ l.take at_.toNat).length = l.length := hperm.length_eq
      rw [hV (l.drop at_.toNat ++ l.take at_.toNat) (by omega) (fun x hx => hsz x (hperm.mem_iff.1 hx)), Option.bind_some]
      have e1 : filledV true (a6 - a7) (a6 + a8) F (l.drop at_.toNat ++ l.take at_.toNat) = true := by
        unfold filledV
        rw [if_pos rfl, hplen, if_neg d1, if_neg d2, fillV_perm F hperm, c4]
      rw [if_pos ⟨e1, by omega, by omega⟩]
      have hlen1 : (l.take (l.length - 1)).length = l.length - 1 := by rw [List.length_take]; omega
      rw [hV (l.take (l.length - 1)) (by omega) (fun x hx => hsz x (List.mem_of_mem_take hx)), Option.bind_some, if_pos]
      unfold filledV
      rw [if_pos rfl, hlen1]
      by_cases d3 : ((l.length - 1 : Nat) : Int) < a6 - a7
      · rw [if_pos d3, decide_eq_false (by omega)]
      · rw [if_neg d3, if_neg (by omega), fillV_take F c4, decide_eq_true (by omega)]
  · have c' : s = false := by simpa using c
    simp only [c', Bool.false_eq_true, if_false] at hV ⊢
    rw [if_pos (Or.inl ⟨trivial, trivial⟩), hV l (by omega) hsz, Option.bind_some, if_pos (Or.inl (by unfold filledV; rw [if_neg (by simp)]))]
end
end Go.Proofs.YtblmgmhjlbkncaaDoor.PA
