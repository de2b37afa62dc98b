/- The plain laws: numbers, strings and lists. -/
import Derived.Test.YtblmgmhjlbkncaaDoorCOrderChecks6
import Derived.ChangeArms
import Derived.ChangeSame
import Derived.DataElems
import Derived.DataReads
import Derived.WideShapes
namespace Go.Proofs.YtblmgmhjlbkncaaDoorW.PrintWords
open Go.RowKit
def Opens (P : Program) (t : TypeId) {α : Type} (d : Kd α) (B : α → Prop) : Prop :=
  ∀ (H : Type) (enc : TypeId × Value → H) (W : World) (fuel : Nat) (cs : List Value) (x : DataW H × List MemPlace), DataW.trod enc P W 0 (fun _ => true) true fuel t cs = some x → ∃ a, d.K W a cs ∧ B a
theorem choose_list {α : Type} {p : Nat → α → Prop} : ∀ n : Nat, (∀ i, i < n → ∃ a, p i a) → ∃ l : List α, l.length = n ∧ ∀ i a, l[i]? = some a → p i a
  | 0, _ => ⟨[], rfl, fun i a h => by simp at h⟩
  | n + 1, h => by
    obtain ⟨l, hl, hp⟩ := choose_list n (fun i hi => h i (by omega))
    obtain ⟨a, ha⟩ := h n (by omega)
    refine ⟨l ++ [a], by simp [hl], fun i b hb => ?_⟩
    by_cases hi : i < l.length
    · rw [List.getElem?_append_left hi] at hb
      exact hp i b hb
    · rw [List.getElem?_append_right (by omega)] at hb
      obtain rfl : i = n := by
        have := (List.getElem?_eq_some_iff.1 hb).1
        simp at this
        omega
      rw [hl, Nat.sub_self] at hb
      simp at hb
      subst hb
      exact ha
section
variable {P : Program} {t : TypeId}
theorem opens_int {k : IntKind} (ht : P.underlying t = some (.int k)) : Opens P t (Kd.int k) (fun a => (Lit.int k a).wf = true) := by
  intro H enc W fuel cs x h
  obtain ⟨n, rfl, -, hw⟩ := DataW.trod_int ht h
  exact ⟨n, rfl, hw⟩
theorem opens_string (ht : P.underlying t = some .string) : Opens P t Kd.string (fun a => a.size ≤ maxLen) := by
  intro H enc W fuel cs x h
  obtain ⟨s, rfl, -, hs⟩ := DataW.trod_string ht h
  exact ⟨s, rfl, hs⟩
theorem opens_slice (e q : TypeId) {α : Type} {d : Kd α} {B : α → Prop} (ht : P.underlying t = some (.slice e)) (hc : P.cellsOf e = d.sz) (he : Opens P e d B) : Opens P t (Kd.slice q d) (fun l => l.length ≤ maxLen ∧ ∀ a ∈ l, B a) := by
  intro H enc W fuel cs x h
  rcases DataW.trod_slice ht h with ⟨rfl, -⟩ | ⟨ad, len, cap, elems, rest, n, -, rfl, -, -, hlen, hcap, hel, helem, -, -⟩
  · exact ⟨[], ⟨none, 0, rfl, Nat.le_refl _, rfl, Nat.zero_le _, fun h => absurd h (Nat.lt_irrefl 0)⟩, Nat.zero_le _, fun a ha => by simp at ha⟩
  · have key : ∀ i, i < len → ∃ a, B a ∧ ∃ c, c.length = d.sz ∧ d.K W a c ∧ ∀ j u, c[j]? = some u → W.cell? (ad.add (i * d.sz + j)) = some u := by
      intro i hi
      have h1 := helem i hi
      rw [List.getElem?_eq_getElem (by omega)] at h1
      obtain ⟨c, hcs, htr⟩ := Option.bind_eq_some_iff.mp h1
      obtain ⟨a, hK, hB⟩ := he H enc W n c _ htr
      refine ⟨a, hB, c, d.K_len hK, hK, fun j u hj => ?_⟩
      obtain ⟨-, -, hs⟩ := World.cells?_some hcs
      have hjl : j < P.cellsOf e := by rw [hc, ← d.K_len hK]; exact (List.getElem?_eq_some_iff.1 hj).1
      rw [← hc, ← Addr.add_add, hs j hjl, hj]
    obtain ⟨l, hl, hp⟩ := choose_list len key
    have hle : l.length ≤ maxLen := by omega
    refine ⟨l, ⟨some ad, cap, by rw [hl], by omega, rfl, hle, fun _ => ⟨ad, rfl, fun j p hj => ?_⟩⟩, hle, fun a ha => ?_⟩
    · obtain ⟨-, c, h1, h2, h3⟩ := hp j p hj
      exact ⟨c, h1, h2, h3⟩
    · obtain ⟨i, hi, rfl⟩ := List.getElem_of_mem ha
      exact (hp i _ (List.getElem?_eq_getElem hi)).1
def FOpens (P : Program) (fs : List Field) (off : Nat) {α : Type} (d : Kd α) (B : α → Prop) : Prop :=
  ∀ (H : Type) (enc : TypeId × Value → H) (W : World) (n : Nat) (cs : List Value), off + d.sz = cs.length →
    (∀ (i : Nat) (f : Field), fs[i]? = some f → ∃ y, DataW.trod enc P W 0 (fun _ => true) true n f.type ((cs.drop f.offset).take (P.cellsOf f.type)) = some y) → ∃ a, d.K W a (cs.drop off) ∧ B a
theorem fo_last {f : Field} {off : Nat} {α : Type} {d : Kd α} {B : α → Prop} (ho : f.offset = off) (hc : P.cellsOf f.type = d.sz) (h : Opens P f.type d B) : FOpens P [f] off d B := by
  intro H enc W n cs hl hf
  obtain ⟨y, hy⟩ := hf 0 f rfl
  rw [ho, hc, List.take_of_length_le (by rw [List.length_drop]; omega)] at hy
  exact h H enc W n _ _ hy
theorem fo_cons {f : Field} {fs : List Field} {off : Nat} {α β : Type} {d : Kd α} {d' : Kd β} {B : α → Prop} {B' : β → Prop} (ho : f.offset = off) (hc : P.cellsOf f.type = d.sz) (h : Opens P f.type d B) (hr : FOpens P fs (off + d.sz) d' B') :
    FOpens P (f :: fs) off (Kd.pair d d') (fun a => B a.1 ∧ B' a.2) := by
  intro H enc W n cs hl hf
  have hl' : off + (d.sz + d'.sz) = cs.length := hl
  obtain ⟨y, hy⟩ := hf 0 f rfl
  rw [ho, hc] at hy
  obtain ⟨a, hK, hB⟩ := h H enc W n _ _ hy
  obtain ⟨b, hK', hB'⟩ := hr H enc W n cs (by omega) (fun i g hg => hf (i + 1) g (by simpa using hg))
  refine ⟨(a, b), ⟨(cs.drop off).take d.sz, cs.drop (off + d.sz), ?_, hK, hK'⟩, hB, hB'⟩
  rw [← List.drop_drop]
  exact (List.take_append_drop _ _).symm
theorem opens_struct {fs : Array Field} {l : List Field} {α β : Type} {d : Kd α} {B : α → Prop} (ht : P.underlying t = some (.struct fs)) (hl : fs.toList = l) (hc : P.cellsOf t = d.sz) (h : FOpens P l 0 d B) (g : β → α) (inv : α → β) (hg : ∀ a, g (inv a) = a) :
    Opens P t (Kd.iso d g) (fun b => B (g b)) := by
  subst hl
  intro H enc W fuel cs x hx
  obtain ⟨xs, n, -, -, hlen, hxs, hf⟩ := DataW.trod_struct ht hx
  obtain ⟨a, hK, hB⟩ := h H enc W n cs (by rw [hlen, hc, Nat.zero_add]) (fun i f hif => by
    have hif' : fs[i]? = some f := by simpa using hif
    have hi : i < xs.length := by rw [hxs]; exact (Array.getElem?_eq_some_iff.1 hif').1
    exact ⟨xs[i], (hf i f hif').trans (List.getElem?_eq_getElem hi)⟩)
  exact ⟨inv a, by show d.K W (g (inv a)) cs; rw [hg]; exact hK, by show B (g (inv a)); rw [hg]; exact hB⟩
end
end Go.Proofs.YtblmgmhjlbkncaaDoorW.PrintWords
namespace Go.Proofs.YtblmgmhjlbkncaaDoor.PA
open Go.RowKit Go.Proofs.YtblmgmhjlbkncaaDoorW.PrintWords
set_option linter.unusedVariables false
def B23 (x : S23) : Prop := x.f0.size ≤ maxLen ∧ x.f1.size ≤ maxLen ∧ (Lit.int .i64 x.f2).wf = true ∧ (Lit.int .i64 x.f3).wf = true ∧ (Lit.int .i64 x.f4).wf = true ∧ (Lit.int .i64 x.f5).wf = true ∧ (Lit.int .i64 x.f6).wf = true ∧ (Lit.int .i64 x.f7).wf = true ∧ (Lit.int .i64 x.f8).wf = true ∧ (Lit.int .i64 x.f9).wf = true ∧ (Lit.int .i64 x.f10).wf = true
theorem opens23 : Opens Tryd.prog 23 k23 B23 := by
  have h := opens_struct Tryd.underlying23 rfl (by kernel_rfl) (fo_cons rfl (by kernel_rfl) (opens_string Tryd.underlying9) (fo_cons rfl (by kernel_rfl) (opens_string Tryd.underlying9) (fo_cons rfl (by kernel_rfl) (opens_int Tryd.underlying3) (fo_cons rfl (by kernel_rfl) (opens_int Tryd.underlying3) (fo_cons rfl (by kernel_rfl) (opens_int Tryd.underlying3) (fo_cons rfl (by kernel_rfl) (opens_int Tryd.underlying3) (fo_cons rfl (by kernel_rfl) (opens_int Tryd.underlying3) (fo_cons rfl (by kernel_rfl) (opens_int Tryd.underlying3) (fo_cons rfl (by kernel_rfl) (opens_int Tryd.underlying3) (fo_cons rfl (by kernel_rfl) (opens_int Tryd.underlying3) (fo_last rfl (by kernel_rfl) (opens_int Tryd.underlying3)))))))))))) (fun x : S23 => (x.f0, x.f1, x.f2, x.f3, x.f4, x.f5, x.f6, x.f7, x.f8, x.f9, x.f10)) (fun y => ⟨y.1, y.2.1, y.2.2.1, y.2.2.2.1, y.2.2.2.2.1, y.2.2.2.2.2.1, y.2.2.2.2.2.2.1, y.2.2.2.2.2.2.2.1, y.2.2.2.2.2.2.2.2.1, y.2.2.2.2.2.2.2.2.2.1, y.2.2.2.2.2.2.2.2.2.2⟩) (fun _ => rfl)
  exact h
def B54 (x : S54) : Prop := x.f0.size ≤ maxLen ∧ (Lit.int .i64 x.f1).wf = true ∧ (Lit.int .i64 x.f2).wf = true ∧ (Lit.int .i64 x.f3).wf = true ∧ (Lit.int .i64 x.f4).wf = true ∧ (x.f5.length ≤ maxLen ∧ ∀ a ∈ x.f5, (Lit.int .i64 a).wf = true) ∧ x.f6.length ≤ maxLen ∧ ∀ a ∈ x.f6, (Lit.int .i64 a).wf = true
theorem opens54 : Opens Tryd.prog 54 k54 B54 := by
  have h := opens_struct Tryd.underlying54 rfl (by kernel_rfl) (fo_cons rfl (by kernel_rfl) (opens_string Tryd.underlying9) (fo_cons rfl (by kernel_rfl) (opens_int Tryd.underlying3) (fo_cons rfl (by kernel_rfl) (opens_int Tryd.underlying3) (fo_cons rfl (by kernel_rfl) (opens_int Tryd.underlying3) (fo_cons rfl (by kernel_rfl) (opens_int Tryd.underlying3) (fo_cons rfl (by kernel_rfl) (opens_slice 3 3 Tryd.underlying52 (by kernel_rfl) (opens_int Tryd.underlying3)) (fo_last rfl (by kernel_rfl) (opens_slice 3 3 Tryd.underlying52 (by kernel_rfl) (opens_int Tryd.underlying3))))))))) (fun x : S54 => (x.f0, x.f1, x.f2, x.f3, x.f4, x.f5, x.f6)) (fun y => ⟨y.1, y.2.1, y.2.2.1, y.2.2.2.1, y.2.2.2.2.1, y.2.2.2.2.2.1, y.2.2.2.2.2.2⟩) (fun _ => rfl)
  exact h
def sawmilllaw46_OrderChecks.Pure : Prop := ∀ (a0_0 : ByteArray) (a0_1 : ByteArray) (a0_2 : Int) (a0_3 : Int) (a0_4 : Int) (a0_5 : Int) (a0_6 : Int) (a0_7 : Int) (a0_8 : Int) (a0_9 : Int) (a0_10 : Int) (l1 : List (S54)), B23 (⟨a0_0, a0_1, a0_2, a0_3, a0_4, a0_5, a0_6, a0_7, a0_8, a0_9, a0_10⟩ : S23) → l1.length ≤ maxLen → (∀ a ∈ l1, B54 a) → ∃ k, sawmilllaw46_OrderChecks.f k a0_0 a0_1 a0_2 a0_3 a0_4 a0_5 a0_6 a0_7 a0_8 a0_9 a0_10 l1 = some true
end Go.Proofs.YtblmgmhjlbkncaaDoor.PA
namespace Go.Proofs.YtblmgmhjlbkncaaDoor.PA
open Go.RowKit Go.Proofs.YtblmgmhjlbkncaaDoorW.PrintWords
set_option linter.unusedVariables false
theorem w64 {n : Int} (h0 : -9223372036854775808 ≤ n) (h1 : n ≤ 9223372036854775807) : wrap64 n = n := by unfold wrap64; omega
theorem tmod_pos {a b : Int} (h : 0 ≤ a) : Int.tmod a b = a % b := Int.tmod_eq_emod_of_nonneg h
def letSum (s : ByteArray) : Nat → Int
  | 0 => 0
  | n + 1 => (letSum s n + ((n : Int) + 1) * bt s n) % 23
theorem letSum_range (s : ByteArray) (n : Nat) : 0 ≤ letSum s n ∧ letSum s n < 23 := by
  cases n with
  | zero => simp [letSum]
  | succ n => unfold letSum; omega
theorem mod_mul (i b : Int) : ((i % 23 + 1) * b) % 23 = ((i + 1) * b) % 23 := by
  rw [Int.mul_emod, Int.add_emod, Int.emod_emod_of_dvd _ (Int.dvd_refl 23), ← Int.add_emod, ← Int.mul_emod]
theorem mod_mul' (i b : Int) : (((i + 1) % 23) * b) % 23 = ((i + 1) * b) % 23 := by
  rw [Int.mul_emod, Int.emod_emod_of_dvd _ (Int.dvd_refl 23), ← Int.mul_emod]
theorem bounded_mul {c b : Int} (hc : 0 ≤ c) (hc' : c ≤ 23) (hb : 0 ≤ b) (hb' : b ≤ 255) : 0 ≤ c * b ∧ c * b ≤ 5865 := by
  constructor
  · exact Int.mul_nonneg hc hb
  · calc c * b ≤ 23 * b := Int.mul_le_mul_of_nonneg_right hc' hb
      _ ≤ 23 * 255 := Int.mul_le_mul_of_nonneg_left hb' (by omega)
theorem id_letter_l (s : ByteArray) (hs : s.size ≤ 1000000) (d : Nat) : ∀ (n k : Nat), n + d = s.size → d < k → ident_Letter.l0 k s (letSum s n) (s.size : Int) n = some (65 + letSum s s.size) := by
  induction d with
  | zero =>
    intro n k hn hk
    obtain ⟨k, rfl⟩ : ∃ m, k = m + 1 := ⟨k - 1, by omega⟩
    simp only [ident_Letter.l0]
    rw [if_neg (by omega)]
    have h := letSum_range s n
    obtain rfl : n = s.size := by omega
    congr 1
    omega
  | succ d ih =>
    intro n k hn hk
    obtain ⟨k, rfl⟩ : ∃ m, k = m + 1 := ⟨k - 1, by omega⟩
    have h := letSum_range s n
    have hb := bt_range s n
    have hm := bounded_mul (c := (n : Int) % 23 + 1) (b := bt s n) (by omega) (by omega) hb.1 hb.2
    simp only [ident_Letter.l0]
    rw [if_pos (by omega), if_pos (by omega), if_pos (by omega), tmod_pos (a := (n : Int)) (by omega), w64 (n := (n : Int) % 23 + 1) (by omega) (by omega), w64 (n := bt s n) (by omega) (by omega), w64 (n := ((n : Int) % 23 + 1) * bt s n) (by omega) (by omega), w64 (n := letSum s n + _) (by omega) (by omega), tmod_pos (by omega), w64 (n := (n : Int) + 1) (by omega) (by omega)]
    have e : (letSum s n + ((n : Int) % 23 + 1) * bt s n) % 23 = letSum s (n + 1) := by
      show _ = (letSum s n + ((n : Int) + 1) * bt s n) % 23
      rw [Int.add_emod, mod_mul, ← Int.add_emod]
    rw [e]
    exact ih (n + 1) k (by omega) (by omega)
theorem id_letter (s : ByteArray) (hs : s.size ≤ 1000000) {k : Nat} (hk : s.size < k) : ident_Letter.f k s = some (65 + letSum s s.size) :=
  id_letter_l s hs s.size 0 k (by omega) hk
theorem r_letter_l (s : ByteArray) (hs : s.size ≤ 1000000) (d : Nat) : ∀ (n k : Nat), n + d = s.size → d < k → sawmillref02_Letter.l0 k s (letSum s n) n = some (65 + letSum s s.size) := by
  induction d with
  | zero =>
    intro n k hn hk
    obtain ⟨k, rfl⟩ : ∃ m, k = m + 1 := ⟨k - 1, by omega⟩
    simp only [sawmillref02_Letter.l0]
    have h := letSum_range s n
    obtain rfl : n = s.size := by omega
    rw [if_neg (by omega), w64 (by omega) (by omega)]
    congr 1
    omega
  | succ d ih =>
    intro n k hn hk
    obtain ⟨k, rfl⟩ : ∃ m, k = m + 1 := ⟨k - 1, by omega⟩
    have h := letSum_range s n
    have hb := bt_range s n
    have hm := bounded_mul (c := ((n : Int) + 1) % 23) (b := bt s n) (by omega) (by omega) hb.1 hb.2
    simp only [sawmillref02_Letter.l0]
    rw [if_pos (by omega), if_pos (by omega), w64 (n := (n : Int) + 1) (by omega) (by omega), tmod_pos (a := (n : Int) + 1) (by omega), w64 (n := bt s n) (by omega) (by omega), w64 (n := ((n : Int) + 1) % 23 * bt s n) (by omega) (by omega), w64 (n := letSum s n + _) (by omega) (by omega), tmod_pos (by omega)]
    have e : (letSum s n + (((n : Int) + 1) % 23) * bt s n) % 23 = letSum s (n + 1) := by
      show _ = (letSum s n + ((n : Int) + 1) * bt s n) % 23
      rw [Int.add_emod, mod_mul', ← Int.add_emod]
    rw [e]
    exact ih (n + 1) k (by omega) (by omega)
theorem r_letter (s : ByteArray) (hs : s.size ≤ 1000000) {k : Nat} (hk : s.size < k) : sawmillref02_Letter.f k s = some (65 + letSum s s.size) :=
  r_letter_l s hs s.size 0 k (by omega) hk
def splitV (s : ByteArray) : Int × Int × Int :=
  if s.size = 8 then (if capB (bt s 0) = true then splitRes s (65 + letSum (s.extract 0 7) 7) else (0, 0, 10)) else (0, 0, 3)
def isV (s : ByteArray) (c : Int) : Bool := if (splitV s).2.2 = 0 then (splitV s).1 == c else false
theorem size7 {s : ByteArray} (h : s.size = 8) : (s.extract 0 7).size = 7 := by rw [ByteArray.size_extract, h]; rfl
theorem id_split (s : ByteArray) {k : Nat} (hk : 7 < k) : ident_Split.f k s = some (splitV s) := by
  unfold ident_Split.f splitV
  by_cases h8 : s.size = 8
  · rw [if_pos (by omega), if_pos h8]
    by_cases hc : capB (bt s 0) = true
    · rw [if_pos hc, if_pos hc, id_letter _ (by rw [size7 h8]; decide) (by rw [size7 h8]; exact hk), size7 h8]
      unfold splitRes
      by_cases hd : allDig s = true
      · simp only [if_pos hd, Option.bind_some]
      · rw [if_neg hd, if_neg hd]
    · rw [if_neg hc, if_neg hc]
  · rw [if_neg (by omega), if_neg h8]
theorem id_is (s : ByteArray) (c : Int) {k : Nat} (hk : 7 < k) : ident_Is.f k s c = some (isV s c) := by
  unfold ident_Is.f isV
  rw [id_split s hk, Option.bind_some]
  split <;> rfl
def numTo (s : ByteArray) : Nat → Int
  | 0 => 0
  | n + 1 => 10 * numTo s n + (bt s ((n : Int) + 1) - 48)
theorem r_digit (c : Int) : sawmillref02_digit.f c = some (digB c) := by unfold sawmillref02_digit.f digB; split <;> simp [*]
theorem r_capital (c : Int) : sawmillref02_capital.f c = some (capB c) := by unfold sawmillref02_capital.f capB; split <;> simp [*]
theorem numTo_six (s : ByteArray) : numTo s 6 = codeNum s := by simp [numTo, codeNum]; omega
theorem pow_le6 {n : Nat} (h : n ≤ 6) : ((10 ^ n : Nat) : Int) ≤ 1000000 := by
  have : 10 ^ n ≤ 10 ^ 6 := Nat.pow_le_pow_right (by decide) h
  omega
theorem r_split_l (s : ByteArray) (h8 : s.size = 8) (d : Nat) : ∀ (n k : Nat), n + d = 6 → d + 8 < k → (∀ j : Nat, 1 ≤ j → j ≤ n → digB (bt s j) = true) → 0 ≤ numTo s n → numTo s n < ((10 ^ n : Nat) : Int) →
    sawmillref02_Split.l0 k s (numTo s n) ((n : Int) + 1) = some (splitRes s (65 + letSum (s.extract 0 7) 7)) := by
  induction d with
  | zero =>
    intro n k hn hk hd h0 h1
    obtain ⟨k, rfl⟩ : ∃ m, k = m + 1 := ⟨k - 1, by omega⟩
    obtain rfl : n = 6 := by omega
    have hall : allDig s = true := allDig_true s (fun j hj hj' => hd j hj (by omega))
    simp only [sawmillref02_Split.l0]
    rw [if_neg (by omega), if_pos (by omega), if_pos (by omega), r_letter _ (by rw [size7 h8]; decide) (by rw [size7 h8]; omega), size7 h8, Option.bind_some]
    unfold splitRes
    rw [if_pos hall]
    by_cases e : 65 + letSum (s.extract 0 7) 7 = bt s 7
    · rw [if_pos e.symm, if_pos e, if_pos (by omega), numTo_six]
    · rw [if_neg (fun h => e h.symm), if_neg e]
  | succ d ih =>
    intro n k hn hk hd h0 h1
    obtain ⟨k, rfl⟩ : ∃ m, k = m + 1 := ⟨k - 1, by omega⟩
    simp only [sawmillref02_Split.l0]
    rw [if_pos (by omega), if_pos (by omega), if_pos (by omega), r_digit, Option.bind_some]
    by_cases hg : digB (bt s ((n : Int) + 1)) = true
    · have hg' : 48 ≤ bt s ((n : Int) + 1) ∧ bt s ((n : Int) + 1) ≤ 57 := by simpa [digB] using hg
      have hp := pow_le6 (n := n) (by omega)
      have hp1 : ((10 ^ (n + 1) : Nat) : Int) = 10 * ((10 ^ n : Nat) : Int) := by rw [Nat.pow_succ]; omega
      have e : wrap64 (wrap64 (10 * numTo s n) + (bt s ((n : Int) + 1) - 48) % 256) = numTo s (n + 1) := by
        show _ = 10 * numTo s n + (bt s ((n : Int) + 1) - 48)
        rw [w64 (n := 10 * numTo s n) (by omega) (by omega), w64 (by omega) (by omega)]
        omega
      have e2 : numTo s (n + 1) = 10 * numTo s n + (bt s ((n : Int) + 1) - 48) := rfl
      rw [if_pos hg, e, w64 (n := (n : Int) + 1 + 1) (by omega) (by omega)]
      have := ih (n + 1) k (by omega) (by omega) (fun j hj hj' => by
        by_cases hjn : j ≤ n
        · exact hd j hj hjn
        · obtain rfl : j = n + 1 := by omega
          have : ((n + 1 : Nat) : Int) = (n : Int) + 1 := by omega
          rw [this]
          exact hg) (by omega) (by omega)
      rw [show ((n + 1 : Nat) : Int) = (n : Int) + 1 by omega] at this
      exact this
    · rw [if_neg hg]
      have hf : allDig s = false := allDig_false s (n + 1) (by omega) (by omega) (by rw [show ((n + 1 : Nat) : Int) = (n : Int) + 1 by omega]; simpa using hg)
      unfold splitRes
      rw [hf]
      rfl
theorem r_split (s : ByteArray) {k : Nat} (hk : 14 < k) : sawmillref02_Split.f k s = some (splitV s) := by
  unfold sawmillref02_Split.f splitV
  by_cases h8 : s.size = 8
  · rw [if_pos (by omega), if_pos h8, if_pos (by omega), r_capital, Option.bind_some]
    by_cases hc : capB (bt s 0) = true
    · rw [if_pos hc, if_pos hc]
      exact r_split_l s h8 6 0 k (by omega) (by omega) (fun j hj hj' => by omega) (Int.le_refl 0) (by show (0 : Int) < ((10 ^ 0 : Nat) : Int); decide)
    · rw [if_neg hc, if_neg hc]
  · rw [if_neg (by omega), if_neg h8]
theorem r_is (s : ByteArray) (c : Int) {k : Nat} (hk : 14 < k) : sawmillref02_Is.f k s c = some (isV s c) := by
  unfold sawmillref02_Is.f isV
  rw [r_split s hk, Option.bind_some]
  split <;> rfl
end Go.Proofs.YtblmgmhjlbkncaaDoor.PA
namespace Go.Proofs.YtblmgmhjlbkncaaDoor.PA
open Go.RowKit Go.Proofs.YtblmgmhjlbkncaaDoorW.PrintWords
set_option linter.unusedVariables false
theorem p_digit (c : Int) : ident_digit.f c = some (digB c) := by unfold ident_digit.f digB; split <;> simp [*]
def letB (c : Int) : Bool := decide (97 ≤ c ∧ c ≤ 122)
def okB (c : Int) : Bool := letB c || (decide (c = 95) || digB c)
def tailV (s : ByteArray) : Nat → Nat → Bool
  | 0, _ => true
  | d + 1, i => okB (bt s i) && tailV s d (i + 1)
theorem tailV_succ (s : ByteArray) (d i : Nat) : tailV s (d + 1) i = (okB (bt s i) && tailV s d (i + 1)) := rfl
def nameV (s : ByteArray) : Bool := decide (1 ≤ s.size ∧ s.size ≤ 16) && (letB (bt s 0) && tailV s (s.size - 1) 1)
theorem p_tail (s : ByteArray) (hs : s.size ≤ 1000000) : ∀ (d i k : Nat) (x : Int), x = i → i + d = s.size → d < k → ident_IsName.l0 k s (s.size : Int) x = some (tailV s d i)
  | 0, i, k, x, hx, hi, hk => by
    obtain ⟨k, rfl⟩ : ∃ q, k = q + 1 := ⟨k - 1, by omega⟩
    simp only [ident_IsName.l0]
    rw [if_neg (by omega)]
    rfl
  | d + 1, i, k, x, hx, hi, hk => by
    obtain ⟨k, rfl⟩ : ∃ q, k = q + 1 := ⟨k - 1, by omega⟩
    subst hx
    simp only [ident_IsName.l0]
    rw [if_pos (by omega), if_pos (by omega), if_pos (by omega), p_digit, Option.bind_some, w64 (by omega) (by omega), p_tail s hs d (i + 1) k _ (by omega) (by omega) (by omega)]
    rw [tailV_succ]
    unfold okB
    by_cases h1 : digB (bt s i) = true
    · rw [if_pos h1, h1, Bool.or_true, Bool.or_true, Bool.true_and]
    · have h1' : digB (bt s i) = false := by simpa using h1
      rw [if_neg h1, h1', Bool.or_false]
      by_cases h2 : bt s i = 95
      · rw [if_pos h2, decide_eq_true h2, Bool.or_true, Bool.true_and]
      · rw [if_neg h2, decide_eq_false h2, Bool.or_false]
        unfold letB
        by_cases h3 : bt s i < 97
        · rw [if_pos h3, decide_eq_false (by omega), Bool.false_and]
        · rw [if_neg h3]
          by_cases h4 : bt s i > 122
          · rw [if_pos h4, decide_eq_false (by omega), Bool.false_and]
          · rw [if_neg h4, decide_eq_true (by omega), Bool.true_and]
theorem r_tail (s : ByteArray) (hs : s.size ≤ 1000000) : ∀ (d i k : Nat) (x : Int), x = i → 1 ≤ i → i + d = s.size → d < k → sawmillref02_IsName.l0 k s x = some (tailV s d i)
  | 0, i, k, x, hx, h1, hi, hk => by
    obtain ⟨k, rfl⟩ : ∃ q, k = q + 1 := ⟨k - 1, by omega⟩
    simp only [sawmillref02_IsName.l0]
    rw [if_neg (by omega)]
    rfl
  | d + 1, i, k, x, hx, h1, hi, hk => by
    obtain ⟨k, rfl⟩ : ∃ q, k = q + 1 := ⟨k - 1, by omega⟩
    subst hx
    have hT : ∀ b : Bool, (if (i : Int) = 0 then some false else if bt s i = 95 then some b else (sawmillref02_digit.f (bt s i)).bind fun t => if t = true then some b else some false) = some ((decide (bt s i = 95) || digB (bt s i)) && b) := fun b => by
      rw [if_neg (by omega), r_digit, Option.bind_some]
      by_cases h2 : bt s i = 95
      · rw [if_pos h2, decide_eq_true h2, Bool.true_or, Bool.true_and]
      · rw [if_neg h2, decide_eq_false h2, Bool.false_or]
        by_cases h3 : digB (bt s i) = true
        · rw [if_pos h3, h3, Bool.true_and]
        · have h3' : digB (bt s i) = false := by simpa using h3
          rw [if_neg h3, h3', Bool.false_and]
    simp only [sawmillref02_IsName.l0]
    rw [if_pos (by omega), if_pos (by omega), w64 (by omega) (by omega), r_tail s hs d (i + 1) k _ (by omega) (by omega) (by omega) (by omega)]
    rw [tailV_succ]
    unfold okB
    by_cases h5 : bt s i ≥ 97
    · rw [if_pos h5]
      by_cases h6 : bt s i ≤ 122
      · rw [if_pos h6, show letB (bt s i) = true from decide_eq_true ⟨h5, h6⟩, Bool.true_or, Bool.true_and]
      · rw [if_neg h6, show letB (bt s i) = false from decide_eq_false (by omega), Bool.false_or]
        exact hT _
    · rw [if_neg h5, show letB (bt s i) = false from decide_eq_false (by omega), Bool.false_or]
      exact hT _
theorem toList_nil (s : ByteArray) : s.toList = ([] : List UInt8) ↔ s.size = 0 := by
  rw [ByteArray.toList_eq]
  have e : s.size = s.data.toList.length := by rw [Array.length_toList]; rfl
  rw [e]
  exact List.length_eq_zero_iff.symm
theorem p_name (s : ByteArray) {k : Nat} (hk : 30 ≤ k) : ident_IsName.f k s = some (nameV s) := by
  obtain ⟨k, rfl⟩ : ∃ q, k = q + 1 := ⟨k - 1, by omega⟩
  have bad : ident_IsName.j0 (k + 1) s true = some false := by
    simp only [ident_IsName.j0]
    rw [if_pos trivial]
  unfold ident_IsName.f nameV
  by_cases h0 : s.size = 0
  · rw [if_pos ((toList_nil s).2 h0), bad, decide_eq_false (by omega), Bool.false_and]
  · rw [if_neg (fun e => h0 ((toList_nil s).1 e))]
    by_cases h1 : (s.size : Int) > 16
    · rw [if_pos h1, bad, decide_eq_false (by omega), Bool.false_and]
    · rw [if_neg h1, if_pos (by omega), decide_eq_true (by omega), Bool.true_and, p_digit, Option.bind_some]
      by_cases h2 : digB (bt s 0) = true
      · rw [if_pos h2, bad]
        have hd : 48 ≤ bt s 0 ∧ bt s 0 ≤ 57 := of_decide_eq_true h2
        rw [show letB (bt s 0) = false from decide_eq_false (by omega), Bool.false_and]
      · rw [if_neg h2]
        have h2' : digB (bt s 0) = false := by simpa using h2
        by_cases h3 : bt s 0 = 95
        · rw [h3, show ((95 : Int) == 95) = true from rfl, bad, show letB 95 = false from rfl, Bool.false_and]
        · rw [show (bt s 0 == 95) = false from beq_eq_false_iff_ne.mpr h3]
          simp only [ident_IsName.j0]
          obtain ⟨n, hn⟩ : ∃ n, s.size = n + 1 := ⟨s.size - 1, by omega⟩
          rw [if_neg (by simp), p_tail s (by omega) s.size 0 k 0 rfl (by omega) (by omega), hn]
          show some (okB (bt s 0) && tailV s n 1) = _
          unfold okB
          rw [h2', decide_eq_false h3, Bool.or_false, Bool.or_false]
          rfl
theorem r_name (s : ByteArray) {k : Nat} (hk : 30 ≤ k) : sawmillref02_IsName.f k s = some (nameV s) := by
  obtain ⟨k, rfl⟩ : ∃ q, k = q + 2 := ⟨k - 2, by omega⟩
  have bad : sawmillref02_IsName.j0 (k + 2) s true = some false := by
    simp only [sawmillref02_IsName.j0]
    rw [if_pos trivial]
  unfold sawmillref02_IsName.f nameV
  by_cases h0 : s.size = 0
  · rw [if_pos (by omega), bad, decide_eq_false (by omega), Bool.false_and]
  · rw [if_neg (by omega)]
    by_cases h1 : (s.size : Int) > 16
    · rw [decide_eq_true h1, bad, decide_eq_false (by omega), Bool.false_and]
    · rw [decide_eq_false h1, decide_eq_true (by omega), Bool.true_and]
      simp only [sawmillref02_IsName.j0, sawmillref02_IsName.l0]
      rw [if_neg (by simp), if_pos (by omega), if_pos (by omega), w64 (by omega) (by omega), r_tail s (by omega) (s.size - 1) 1 k _ (by omega) (by omega) (by omega) (by omega)]
      by_cases h5 : bt s 0 ≥ 97
      · rw [if_pos h5]
        by_cases h6 : bt s 0 ≤ 122
        · rw [if_pos h6, show letB (bt s 0) = true from decide_eq_true ⟨h5, h6⟩, Bool.true_and]
        · rw [if_neg h6, if_pos trivial, show letB (bt s 0) = false from decide_eq_false (by omega), Bool.false_and]
      · rw [if_neg h5, if_pos trivial, show letB (bt s 0) = false from decide_eq_false (by omega), Bool.false_and]
end Go.Proofs.YtblmgmhjlbkncaaDoor.PA
namespace Go.Proofs.YtblmgmhjlbkncaaDoor.PA
open Go.RowKit Go.Proofs.YtblmgmhjlbkncaaDoorW.PrintWords
set_option linter.unusedVariables false
def lenV (l : List Int) : Nat → Nat → Int
  | 0, _ => 0
  | d + 1, i => if rd l i < 100 ∨ 20000 < rd l i then 9 else if 0 < i ∧ rd l i ≤ rd l ((i : Int) - 1) then 11 else lenV l d (i + 1)
def priceV (l : List Int) : Nat → Nat → Int
  | 0, _ => 0
  | d + 1, i => if rd l i < 0 ∨ 1000000 < rd l i then 9 else priceV l d (i + 1)
theorem lenV_succ (l : List Int) (d i : Nat) : lenV l (d + 1) i = if rd l i < 100 ∨ 20000 < rd l i then 9 else if 0 < i ∧ rd l i ≤ rd l ((i : Int) - 1) then 11 else lenV l d (i + 1) := rfl
theorem priceV_succ (l : List Int) (d i : Nat) : priceV l (d + 1) i = if rd l i < 0 ∨ 1000000 < rd l i then 9 else priceV l d (i + 1) := rfl
def lensV (l m : List Int) : Int := if l.length = 0 then 3 else if 8 < l.length then 4 else if l.length = m.length then (if lenV l l.length 0 = 0 then priceV m m.length 0 else lenV l l.length 0) else 19
theorem p_price (l : List Int) (hl : l.length ≤ 1000) : ∀ (d i k : Nat) (x : Int), x = i → i + d = l.length → d < k → product_checkLengths.l1 k l (l.length : Int) x = some (priceV l d i)
  | 0, i, k, x, hx, hi, hk => by
    obtain ⟨k, rfl⟩ : ∃ q, k = q + 1 := ⟨k - 1, by omega⟩
    simp only [product_checkLengths.l1]
    rw [if_neg (by omega)]
    rfl
  | d + 1, i, k, x, hx, hi, hk => by
    obtain ⟨k, rfl⟩ : ∃ q, k = q + 1 := ⟨k - 1, by omega⟩
    subst hx
    simp only [product_checkLengths.l1]
    rw [if_pos (by omega), if_pos (by omega), if_pos (by omega), w64 (by omega) (by omega), p_price l hl d (i + 1) k _ (by omega) (by omega) (by omega)]
    rw [priceV_succ]
    by_cases h1 : rd l i < 0
    · rw [if_pos h1, if_pos (Or.inl h1)]
    · rw [if_neg h1]
      by_cases h2 : rd l i > 1000000
      · rw [if_pos h2, if_pos (Or.inr h2)]
      · rw [if_neg h2, if_neg (by omega)]
theorem r_price (a0 : ByteArray) (a1 a2 a3 a4 : Int) (l5 l : List Int) (hl : l.length ≤ 1000) : ∀ (d i k : Nat) (x : Int), x = i → i + d = l.length → d < k → sawmillref19_checkLengths.l1 k x a0 a1 a2 a3 a4 l5 l = some (priceV l d i)
  | 0, i, k, x, hx, hi, hk => by
    obtain ⟨k, rfl⟩ : ∃ q, k = q + 1 := ⟨k - 1, by omega⟩
    simp only [sawmillref19_checkLengths.l1]
    rw [if_neg (by omega)]
    rfl
  | d + 1, i, k, x, hx, hi, hk => by
    obtain ⟨k, rfl⟩ : ∃ q, k = q + 1 := ⟨k - 1, by omega⟩
    subst hx
    simp only [sawmillref19_checkLengths.l1]
    rw [if_pos (by omega), if_pos (by omega), w64 (by omega) (by omega), r_price a0 a1 a2 a3 a4 l5 l hl d (i + 1) k _ (by omega) (by omega) (by omega)]
    rw [priceV_succ]
    by_cases h1 : rd l i < 0
    · rw [if_pos h1, if_pos (Or.inl h1)]
    · rw [if_neg h1]
      by_cases h2 : rd l i > 1000000
      · rw [if_pos h2, if_pos (Or.inr h2)]
      · rw [if_neg h2, if_neg (by omega)]
theorem p_len (a0 : ByteArray) (a1 a2 a3 a4 : Int) (l m : List Int) (hl : l.length ≤ 1000) (hm : m.length ≤ 1000) : ∀ (d i k : Nat) (x : Int), x = i → i + d = l.length → 2 * d + m.length + 1 < k →
    product_checkLengths.l0 k l (l.length : Int) x a0 a1 a2 a3 a4 l m = some (if lenV l d i = 0 then priceV m m.length 0 else lenV l d i)
  | 0, i, k, x, hx, hi, hk => by
    obtain ⟨k, rfl⟩ : ∃ q, k = q + 1 := ⟨k - 1, by omega⟩
    simp only [product_checkLengths.l0]
    rw [if_neg (by omega), p_price m hm m.length 0 k 0 rfl (by omega) (by omega)]
    rfl
  | d + 1, i, k, x, hx, hi, hk => by
    obtain ⟨k, rfl⟩ : ∃ q, k = q + 2 := ⟨k - 2, by omega⟩
    subst hx
    have bad : product_checkLengths.j1 (k + 1) i (rd l i) l (l.length : Int) i true a0 a1 a2 a3 a4 l m = some 9 := by
      simp only [product_checkLengths.j1]
      rw [if_pos trivial]
    simp only [product_checkLengths.l0]
    rw [if_pos (by omega), if_pos (by omega), if_pos (by omega)]
    by_cases h1 : rd l i < 100
    · have e : lenV l (d + 1) i = 9 := by rw [lenV_succ, if_pos (Or.inl h1)]
      rw [if_pos h1, bad, e, if_neg (by decide)]
    · rw [if_neg h1]
      by_cases h2 : rd l i > 20000
      · have e : lenV l (d + 1) i = 9 := by rw [lenV_succ, if_pos (Or.inr h2)]
        rw [decide_eq_true h2, bad, e, if_neg (by decide)]
      · rw [decide_eq_false h2]
        have e : lenV l (d + 1) i = if 0 < i ∧ rd l i ≤ rd l ((i : Int) - 1) then 11 else lenV l d (i + 1) := by rw [lenV_succ, if_neg (by omega)]
        simp only [product_checkLengths.j1]
        rw [if_neg (by simp), w64 (n := (i : Int) + 1) (by omega) (by omega), p_len a0 a1 a2 a3 a4 l m hl hm d (i + 1) k _ (by omega) (by omega) (by omega)]
        by_cases h3 : 0 < i
        · rw [if_pos (by omega), w64 (n := (i : Int) - 1) (by omega) (by omega), if_pos (by omega), if_pos (by omega)]
          by_cases h4 : rd l i ≤ rd l ((i : Int) - 1)
          · rw [if_pos ⟨h3, h4⟩] at e
            rw [if_pos h4, e, if_neg (by decide)]
          · rw [if_neg (fun q => h4 q.2)] at e
            rw [if_neg h4, e]
        · rw [if_neg (fun q => h3 q.1)] at e
          rw [if_neg (by omega), e]
theorem r_len (a0 : ByteArray) (a1 a2 a3 a4 : Int) (l m : List Int) (hl : l.length ≤ 1000) (hm : m.length ≤ 1000) : ∀ (d i k : Nat) (x : Int), x = i → i + d = l.length → 2 * d + m.length + 1 < k →
    sawmillref19_checkLengths.l0 k x a0 a1 a2 a3 a4 l m = some (if lenV l d i = 0 then priceV m m.length 0 else lenV l d i)
  | 0, i, k, x, hx, hi, hk => by
    obtain ⟨k, rfl⟩ : ∃ q, k = q + 1 := ⟨k - 1, by omega⟩
    simp only [sawmillref19_checkLengths.l0]
    rw [if_neg (by omega), r_price a0 a1 a2 a3 a4 l m hm m.length 0 k 0 rfl (by omega) (by omega)]
    rfl
  | d + 1, i, k, x, hx, hi, hk => by
    obtain ⟨k, rfl⟩ : ∃ q, k = q + 2 := ⟨k - 2, by omega⟩
    subst hx
    have bad : sawmillref19_checkLengths.j1 (k + 1) i true a0 a1 a2 a3 a4 l m = some 9 := by
      simp only [sawmillref19_checkLengths.j1]
      rw [if_pos trivial]
    simp only [sawmillref19_checkLengths.l0]
    rw [if_pos (by omega), if_pos (by omega)]
    by_cases h1 : rd l i < 100
    · have e : lenV l (d + 1) i = 9 := by rw [lenV_succ, if_pos (Or.inl h1)]
      rw [if_pos h1, bad, e, if_neg (by decide)]
    · rw [if_neg h1]
      by_cases h2 : rd l i > 20000
      · have e : lenV l (d + 1) i = 9 := by rw [lenV_succ, if_pos (Or.inr h2)]
        rw [decide_eq_true h2, bad, e, if_neg (by decide)]
      · rw [decide_eq_false h2]
        have e : lenV l (d + 1) i = if 0 < i ∧ rd l i ≤ rd l ((i : Int) - 1) then 11 else lenV l d (i + 1) := by rw [lenV_succ, if_neg (by omega)]
        simp only [sawmillref19_checkLengths.j1]
        rw [if_neg (by simp), w64 (n := (i : Int) + 1) (by omega) (by omega), r_len a0 a1 a2 a3 a4 l m hl hm d (i + 1) k _ (by omega) (by omega) (by omega)]
        by_cases h3 : 0 < i
        · rw [if_pos (by omega), if_pos (by omega), if_pos (by omega), w64 (n := (i : Int) - 1) (by omega) (by omega), if_pos (by omega), if_pos (by omega)]
          by_cases h4 : rd l i ≤ rd l ((i : Int) - 1)
          · rw [if_pos ⟨h3, h4⟩] at e
            rw [if_pos h4, e, if_neg (by decide)]
          · rw [if_neg (fun q => h4 q.2)] at e
            rw [if_neg h4, e]
        · rw [if_neg (fun q => h3 q.1)] at e
          rw [if_neg (by omega), e]
theorem p_lens (a0 : ByteArray) (a1 a2 a3 a4 : Int) (l m : List Int) {k : Nat} (hk : 100 ≤ k) : product_checkLengths.f k a0 a1 a2 a3 a4 l m = some (lensV l m) := by
  unfold product_checkLengths.f lensV
  by_cases h1 : l.length = 0
  · rw [if_pos (by omega), if_pos h1]
  · rw [if_neg (by omega), if_neg h1]
    by_cases h2 : 8 < l.length
    · rw [if_pos (by omega), if_pos h2]
    · rw [if_neg (by omega), if_neg h2]
      by_cases h3 : l.length = m.length
      · rw [if_pos (by omega), if_pos h3, p_len a0 a1 a2 a3 a4 l m (by omega) (by omega) l.length 0 k 0 rfl (by omega) (by omega)]
      · rw [if_neg (by omega), if_neg h3]
theorem r_lens (a0 : ByteArray) (a1 a2 a3 a4 : Int) (l m : List Int) {k : Nat} (hk : 100 ≤ k) : sawmillref19_checkLengths.f k a0 a1 a2 a3 a4 l m = some (lensV l m) := by
  unfold sawmillref19_checkLengths.f lensV
  by_cases h1 : l.length = 0
  · rw [if_pos (by omega), if_pos h1]
  · rw [if_neg (by omega), if_neg h1]
    by_cases h2 : 8 < l.length
    · rw [if_pos (by omega), if_pos h2]
    · rw [if_neg (by omega), if_neg h2]
      by_cases h3 : l.length = m.length
      · rw [if_pos (by omega), if_pos h3, r_len a0 a1 a2 a3 a4 l m (by omega) (by omega) l.length 0 k 0 rfl (by omega) (by omega)]
      · rw [if_neg (by omega), if_neg h3]
def inSz (a1 a2 a3 a4 : Int) : Prop := 5 ≤ a1 ∧ a1 ≤ 300 ∧ a1 ≤ a2 ∧ a2 ≤ 600 ∧ 0 ≤ a3 ∧ a3 ≤ 200 ∧ 0 ≤ a4 ∧ a4 ≤ 1000
instance (a1 a2 a3 a4 : Int) : Decidable (inSz a1 a2 a3 a4) := by unfold inSz; infer_instance
def sizedV (a1 a2 a3 a4 : Int) : Bool := decide (inSz a1 a2 a3 a4) && decide ((a2 * (1000 + a3) + 999) / 1000 ≤ 600)
theorem p_green {a1 a2 a3 a4 : Int} (h : inSz a1 a2 a3 a4) (a0 : ByteArray) (l m : List Int) {k : Nat} (hk : 1 ≤ k) : product_Green.f k a0 a1 a2 a3 a4 l m = some ((a1 * (1000 + a3) + 999) / 1000, (a2 * (1000 + a3) + 999) / 1000) := by
  obtain ⟨k, rfl⟩ : ∃ q, k = q + 1 := ⟨k - 1, by omega⟩
  obtain ⟨h1, h2, h3, h4, h5, h6, h7, h8⟩ := h
  have b1 : 0 ≤ a1 * (1000 + a3) ∧ a1 * (1000 + a3) ≤ 300 * 1200 := ⟨Int.mul_nonneg (by omega) (by omega), Int.mul_le_mul (by omega) (by omega) (by omega) (by omega)⟩
  have b2 : 0 ≤ a2 * (1000 + a3) ∧ a2 * (1000 + a3) ≤ 600 * 1200 := ⟨Int.mul_nonneg (by omega) (by omega), Int.mul_le_mul (by omega) (by omega) (by omega) (by omega)⟩
  unfold product_Green.f
  rw [if_neg (by unfold mn; split <;> omega), if_neg (by unfold mx; split <;> omega), if_neg (by omega), decide_eq_false (by omega)]
  simp only [product_Green.j0]
  rw [if_neg (by simp), w64 (n := 1000 + a3) (by omega) (by omega), w64 (n := a1 * (1000 + a3)) (by omega) (by omega), w64 (n := a2 * (1000 + a3)) (by omega) (by omega), w64 (n := a1 * (1000 + a3) + 1000) (by omega) (by omega), w64 (n := a2 * (1000 + a3) + 1000) (by omega) (by omega),
    w64 (n := a1 * (1000 + a3) + 1000 - 1) (by omega) (by omega), w64 (n := a2 * (1000 + a3) + 1000 - 1) (by omega) (by omega)]
  unfold units_Floor.f
  rw [if_pos (by omega), if_pos (by omega), Option.bind_some, Option.bind_some, show a1 * (1000 + a3) + 1000 - 1 = a1 * (1000 + a3) + 999 by omega, show a2 * (1000 + a3) + 1000 - 1 = a2 * (1000 + a3) + 999 by omega]
theorem r_green {a1 a2 a3 a4 : Int} (h : inSz a1 a2 a3 a4) (a0 : ByteArray) (l m : List Int) : sawmillref19_Green.f a0 a1 a2 a3 a4 l m = some ((a1 * (1000 + a3) + 999) / 1000, (a2 * (1000 + a3) + 999) / 1000) := by
  obtain ⟨h1, h2, h3, h4, h5, h6, h7, h8⟩ := h
  have b1 : 0 ≤ a1 * (1000 + a3) ∧ a1 * (1000 + a3) ≤ 300 * 1200 := ⟨Int.mul_nonneg (by omega) (by omega), Int.mul_le_mul (by omega) (by omega) (by omega) (by omega)⟩
  have b2 : 0 ≤ a2 * (1000 + a3) ∧ a2 * (1000 + a3) ≤ 600 * 1200 := ⟨Int.mul_nonneg (by omega) (by omega), Int.mul_le_mul (by omega) (by omega) (by omega) (by omega)⟩
  unfold sawmillref19_Green.f sawmillref19_sized.f
  rw [if_pos (by omega), if_pos (by omega), if_pos (by omega), Option.bind_some, decide_eq_true (by omega), if_pos rfl, if_neg (by omega), if_neg (by omega)]
  rw [w64 (n := 1000 + a3) (by omega) (by omega), w64 (n := a1 * (1000 + a3)) (by omega) (by omega), w64 (n := a2 * (1000 + a3)) (by omega) (by omega), w64 (n := a1 * (1000 + a3) + 999) (by omega) (by omega), w64 (n := a2 * (1000 + a3) + 999) (by omega) (by omega),
    Int.tdiv_eq_ediv_of_nonneg (by omega), Int.tdiv_eq_ediv_of_nonneg (by omega), w64 (by omega) (by omega), w64 (by omega) (by omega)]
theorem p_sized (a0 : ByteArray) (a1 a2 a3 a4 : Int) (l m : List Int) {k : Nat} (hk : 3 ≤ k) : product_sized.f k a0 a1 a2 a3 a4 l m = some (sizedV a1 a2 a3 a4) := by
  obtain ⟨k, rfl⟩ : ∃ q, k = q + 2 := ⟨k - 2, by omega⟩
  have bad : product_sized.j0 (k + 2) true a0 a1 a2 a3 a4 l m = some false := by
    simp only [product_sized.j0]
    rw [if_pos trivial]
  unfold product_sized.f sizedV
  by_cases h : inSz a1 a2 a3 a4
  · rw [decide_eq_true h, Bool.true_and]
    have h' := h
    obtain ⟨h1, h2, h3, h4, h5, h6, h7, h8⟩ := h
    rw [if_neg (by omega), if_neg (by omega), if_neg (by omega), decide_eq_false (by omega)]
    simp only [product_sized.j0]
    rw [if_neg (by simp), if_neg (by omega), if_neg (by omega), if_neg (by omega), if_neg (by omega), p_green h' a0 l m (by omega), Option.bind_some]
  · rw [decide_eq_false h, Bool.false_and]
    unfold inSz at h
    by_cases h1 : a1 < 5
    · rw [if_pos h1, bad]
    rw [if_neg h1]
    by_cases h2 : a1 > 300
    · rw [if_pos h2, bad]
    rw [if_neg h2]
    by_cases h3 : a2 < a1
    · rw [if_pos h3, bad]
    rw [if_neg h3]
    by_cases h4 : a2 > 600
    · rw [decide_eq_true h4, bad]
    rw [decide_eq_false h4]
    simp only [product_sized.j0]
    rw [if_neg (by simp)]
    by_cases h5 : a3 < 0
    · rw [if_pos h5]
    rw [if_neg h5]
    by_cases h6 : a3 > 200
    · rw [if_pos h6]
    rw [if_neg h6]
    by_cases h7 : a4 < 0
    · rw [if_pos h7]
    rw [if_neg h7]
    by_cases h8 : a4 > 1000
    · rw [if_pos h8]
    · exact absurd ⟨by omega, by omega, by omega, by omega, by omega, by omega, by omega, by omega⟩ h
def hasN (l : List S54) (nm : ByteArray) : Nat → Nat → Bool
  | 0, _ => false
  | d + 1, j => decide ((rd_T54 l j).f0.toList = nm.toList) || hasN l nm d (j + 1)
theorem hasN_succ (l : List S54) (nm : ByteArray) (d j : Nat) : hasN l nm (d + 1) j = (decide ((rd_T54 l j).f0.toList = nm.toList) || hasN l nm d (j + 1)) := rfl
theorem rd_take (l : List S54) {i j : Nat} (h : j < i) : rd_T54 (l.take i) (j : Int) = rd_T54 l (j : Int) := by
  unfold rd_T54
  simp [List.getD_eq_getElem?_getD, List.getElem?_take, h]
theorem p_find (l : List S54) (nm : ByteArray) (i : Nat) (hi : i ≤ l.length) (hl : l.length ≤ 1000) : ∀ (d j k : Nat) (x : Int), x = j → j + d = i → d < k → ∃ y, product_Find.l0 k nm (l.take i) (i : Int) x = some (y, hasN l nm d j)
  | 0, j, k, x, hx, hj, hk => by
    obtain ⟨k, rfl⟩ : ∃ q, k = q + 1 := ⟨k - 1, by omega⟩
    simp only [product_Find.l0]
    rw [if_neg (by omega)]
    exact ⟨0, rfl⟩
  | d + 1, j, k, x, hx, hj, hk => by
    obtain ⟨k, rfl⟩ : ∃ q, k = q + 1 := ⟨k - 1, by omega⟩
    subst hx
    simp only [product_Find.l0]
    have hlen : ((l.take i).length : Int) = i := by rw [List.length_take]; omega
    rw [if_pos (by omega), if_pos (by omega), if_pos (by omega), rd_take l (by omega), w64 (by omega) (by omega)]
    obtain ⟨y, hy⟩ := p_find l nm i hi hl d (j + 1) k ((j : Int) + 1) (by omega) (by omega) (by omega)
    rw [hy]
    rw [hasN_succ]
    by_cases h : (rd_T54 l (j : Int)).f0.toList = nm.toList
    · rw [if_pos h, decide_eq_true h, Bool.true_or]
      exact ⟨_, rfl⟩
    · rw [if_neg h, decide_eq_false h, Bool.false_or]
      exact ⟨_, rfl⟩
def checkP (l : List S54) : Nat → Nat → Int
  | 0, _ => 0
  | d + 1, i => if nameV (rd_T54 l (i : Int)).f0 = true then
      (if hasN l (rd_T54 l (i : Int)).f0 i 0 = true then 7
      else if sizedV (rd_T54 l (i : Int)).f1 (rd_T54 l (i : Int)).f2 (rd_T54 l (i : Int)).f3 (rd_T54 l (i : Int)).f4 = true then
        (if lensV (rd_T54 l (i : Int)).f5 (rd_T54 l (i : Int)).f6 = 0 then checkP l d (i + 1) else lensV (rd_T54 l (i : Int)).f5 (rd_T54 l (i : Int)).f6)
      else 9)
    else 6
theorem checkP_succ (l : List S54) (d i : Nat) : checkP l (d + 1) i = if nameV (rd_T54 l (i : Int)).f0 = true then
      (if hasN l (rd_T54 l (i : Int)).f0 i 0 = true then 7
      else if sizedV (rd_T54 l (i : Int)).f1 (rd_T54 l (i : Int)).f2 (rd_T54 l (i : Int)).f3 (rd_T54 l (i : Int)).f4 = true then
        (if lensV (rd_T54 l (i : Int)).f5 (rd_T54 l (i : Int)).f6 = 0 then checkP l d (i + 1) else lensV (rd_T54 l (i : Int)).f5 (rd_T54 l (i : Int)).f6)
      else 9)
    else 6 := rfl
theorem p_cat (l : List S54) (hl : l.length ≤ 16) : ∀ (d i k : Nat) (x : Int), x = i → i + d = l.length → d + 200 < k → product_Check.l0 k l l (l.length : Int) x = some (checkP l d i)
  | 0, i, k, x, hx, hi, hk => by
    obtain ⟨k, rfl⟩ : ∃ q, k = q + 1 := ⟨k - 1, by omega⟩
    simp only [product_Check.l0]
    rw [if_neg (by omega)]
    rfl
  | d + 1, i, k, x, hx, hi, hk => by
    obtain ⟨k, rfl⟩ : ∃ q, k = q + 1 := ⟨k - 1, by omega⟩
    subst hx
    simp only [product_Check.l0]
    rw [if_pos (by omega), if_pos (by omega), if_pos (by omega), p_name _ (by omega), Option.bind_some, w64 (by omega) (by omega), p_cat l hl d (i + 1) k _ (by omega) (by omega) (by omega)]
    rw [checkP_succ]
    by_cases h1 : nameV (rd_T54 l (i : Int)).f0 = true
    · rw [if_pos h1, if_pos h1, if_pos (by omega), Int.toNat_natCast]
      have hlen : ((l.take i).length : Int) = i := by rw [List.length_take]; omega
      obtain ⟨y, hy⟩ := p_find l (rd_T54 l (i : Int)).f0 i (by omega) (by omega) i 0 k 0 rfl (by omega) (by omega)
      have hf : product_Find.f k (l.take i) (rd_T54 l (i : Int)).f0 = some (y, hasN l (rd_T54 l (i : Int)).f0 i 0) := by
        unfold product_Find.f
        rw [hlen]
        exact hy
      rw [hf, Option.bind_some]
      dsimp only
      by_cases h2 : hasN l (rd_T54 l (i : Int)).f0 i 0 = true
      · rw [if_pos h2, if_pos h2]
      · rw [if_neg h2, if_neg h2, p_sized _ _ _ _ _ _ _ (by omega), Option.bind_some]
        by_cases h3 : sizedV (rd_T54 l (i : Int)).f1 (rd_T54 l (i : Int)).f2 (rd_T54 l (i : Int)).f3 (rd_T54 l (i : Int)).f4 = true
        · rw [if_pos h3, if_pos h3, p_lens _ _ _ _ _ _ _ (by omega), Option.bind_some]
          by_cases h4 : lensV (rd_T54 l (i : Int)).f5 (rd_T54 l (i : Int)).f6 = 0
          · rw [if_pos h4, if_pos h4]
          · rw [if_neg h4, if_neg h4]
        · rw [if_neg h3, if_neg h3]
    · rw [if_neg h1, if_neg h1]
theorem r_j2 (l : List S54) (x : Int) (a0 : ByteArray) (a1 a2 a3 a4 : Int) (m n : List Int) {k : Nat} (hk : 100 < k) (R : Int) (hR : ∀ q, q + 1 = k → sawmillref19_Check.l0 q l (wrap64 (x + 1)) = some R) :
    (if a1 < 5 then sawmillref19_Check.j2 k l x true a0 a1 a2 a3 a4 m n else if a1 > 300 then sawmillref19_Check.j2 k l x true a0 a1 a2 a3 a4 m n else if a2 < a1 then sawmillref19_Check.j2 k l x true a0 a1 a2 a3 a4 m n else if a2 > 600 then sawmillref19_Check.j2 k l x true a0 a1 a2 a3 a4 m n else
      if a3 < 0 then sawmillref19_Check.j2 k l x true a0 a1 a2 a3 a4 m n else if a3 > 200 then sawmillref19_Check.j2 k l x true a0 a1 a2 a3 a4 m n else if a4 < 0 then sawmillref19_Check.j2 k l x true a0 a1 a2 a3 a4 m n else sawmillref19_Check.j2 k l x (decide (a4 > 1000)) a0 a1 a2 a3 a4 m n) =
    some (if sizedV a1 a2 a3 a4 = true then (if lensV m n = 0 then R else lensV m n) else 9) := by
  obtain ⟨k, rfl⟩ : ∃ q, k = q + 1 := ⟨k - 1, by omega⟩
  have bad : sawmillref19_Check.j2 (k + 1) l x true a0 a1 a2 a3 a4 m n = some 9 := by
    simp only [sawmillref19_Check.j2]
    rw [if_pos trivial]
  rw [bad]
  unfold sizedV
  by_cases h : inSz a1 a2 a3 a4
  · rw [decide_eq_true h, Bool.true_and]
    have h' := h
    obtain ⟨h1, h2, h3, h4, h5, h6, h7, h8⟩ := h
    rw [if_neg (by omega), if_neg (by omega), if_neg (by omega), if_neg (by omega), if_neg (by omega), if_neg (by omega), if_neg (by omega), decide_eq_false (by omega)]
    simp only [sawmillref19_Check.j2]
    rw [if_neg (by simp), r_green h' a0 m n, Option.bind_some]
    dsimp only
    by_cases h9 : (a2 * (1000 + a3) + 999) / 1000 > 600
    · rw [if_pos h9, decide_eq_false (by omega), if_neg (by simp)]
    · rw [if_neg h9, decide_eq_true (by omega), if_pos rfl, r_lens _ _ _ _ _ _ _ (by omega), Option.bind_some]
      by_cases h10 : lensV m n = 0
      · rw [if_pos h10, if_pos h10]
        exact hR k rfl
      · rw [if_neg h10, if_neg h10]
  · have e9 : (if (false : Bool) = true then (if lensV m n = 0 then R else lensV m n) else (9 : Int)) = 9 := if_neg (by simp)
    rw [decide_eq_false h, Bool.false_and, e9]
    unfold inSz at h
    by_cases h1 : a1 < 5
    · rw [if_pos h1]
    rw [if_neg h1]
    by_cases h2 : a1 > 300
    · rw [if_pos h2]
    rw [if_neg h2]
    by_cases h3 : a2 < a1
    · rw [if_pos h3]
    rw [if_neg h3]
    by_cases h4 : a2 > 600
    · rw [if_pos h4]
    rw [if_neg h4]
    by_cases h5 : a3 < 0
    · rw [if_pos h5]
    rw [if_neg h5]
    by_cases h6 : a3 > 200
    · rw [if_pos h6]
    rw [if_neg h6]
    by_cases h7 : a4 < 0
    · rw [if_pos h7]
    rw [if_neg h7]
    by_cases h8 : a4 > 1000
    · rw [decide_eq_true h8, bad]
    · exact absurd ⟨by omega, by omega, by omega, by omega, by omega, by omega, by omega, by omega⟩ h
theorem r_names (l : List S54) (hl : l.length ≤ 16) (i : Nat) (hi : i < l.length) (a0 : ByteArray) (a1 a2 a3 a4 : Int) (m n : List Int) (R : Int) : ∀ (d j k : Nat) (x : Int), x = j → j + d = i → d + 110 < k → (∀ q, q + d + 2 = k → sawmillref19_Check.l0 q l (wrap64 ((i : Int) + 1)) = some R) →
    sawmillref19_Check.l1 k l (i : Int) x a0 a1 a2 a3 a4 m n = some (if hasN l a0 d j = true then 7 else if sizedV a1 a2 a3 a4 = true then (if lensV m n = 0 then R else lensV m n) else 9)
  | 0, j, k, x, hx, hj, hk, hR => by
    obtain ⟨k, rfl⟩ : ∃ q, k = q + 1 := ⟨k - 1, by omega⟩
    simp only [sawmillref19_Check.l1]
    rw [if_neg (by omega), r_j2 l (i : Int) a0 a1 a2 a3 a4 m n (by omega) R (fun q hq => hR q (by omega))]
    rfl
  | d + 1, j, k, x, hx, hj, hk, hR => by
    obtain ⟨k, rfl⟩ : ∃ q, k = q + 1 := ⟨k - 1, by omega⟩
    subst hx
    simp only [sawmillref19_Check.l1]
    rw [if_pos (by omega), if_pos (by omega), if_pos (by omega), w64 (n := (j : Int) + 1) (by omega) (by omega), r_names l hl i hi a0 a1 a2 a3 a4 m n R d (j + 1) k _ (by omega) (by omega) (by omega) (fun q hq => hR q (by omega))]
    by_cases h : (rd_T54 l (j : Int)).f0.toList = a0.toList
    · rw [if_pos h, show hasN l a0 (d + 1) j = true by rw [hasN_succ, decide_eq_true h, Bool.true_or], if_pos rfl]
    · rw [if_neg h, show hasN l a0 (d + 1) j = hasN l a0 d (j + 1) by rw [hasN_succ, decide_eq_false h, Bool.false_or]]
theorem r_cat (l : List S54) (hl : l.length ≤ 16) : ∀ (d i k : Nat) (x : Int), x = i → i + d = l.length → d * 20 + 200 < k → sawmillref19_Check.l0 k l x = some (checkP l d i)
  | 0, i, k, x, hx, hi, hk => by
    obtain ⟨k, rfl⟩ : ∃ q, k = q + 1 := ⟨k - 1, by omega⟩
    simp only [sawmillref19_Check.l0]
    rw [if_neg (by omega)]
    rfl
  | d + 1, i, k, x, hx, hi, hk => by
    obtain ⟨k, rfl⟩ : ∃ q, k = q + 1 := ⟨k - 1, by omega⟩
    subst hx
    simp only [sawmillref19_Check.l0]
    rw [if_pos (by omega), if_pos (by omega), r_name _ (by omega), Option.bind_some]
    rw [checkP_succ]
    by_cases h1 : nameV (rd_T54 l (i : Int)).f0 = true
    · rw [if_pos h1, if_pos h1]
      exact r_names l hl i (by omega) _ _ _ _ _ _ _ (checkP l d (i + 1)) i 0 k 0 rfl (by omega) (by omega) (fun q hq => by
        rw [w64 (by omega) (by omega)]
        exact r_cat l hl d (i + 1) q _ (by omega) (by omega) (by omega))
    · rw [if_neg h1, if_neg h1]
def catV (l : List S54) : Int := if 16 < l.length then 4 else checkP l l.length 0
theorem p_catV (l : List S54) {k : Nat} (hk : 600 ≤ k) : product_Check.f k l = some (catV l) := by
  unfold product_Check.f catV
  by_cases h : 16 < l.length
  · rw [if_pos (by omega), if_pos h]
  · rw [if_neg (by omega), if_neg h, p_cat l (by omega) l.length 0 k 0 rfl (by omega) (by omega)]
theorem r_catV (l : List S54) {k : Nat} (hk : 600 ≤ k) : sawmillref19_Check.f k l = some (catV l) := by
  unfold sawmillref19_Check.f catV
  by_cases h : 16 < l.length
  · rw [if_pos (by omega), if_pos h]
  · rw [if_neg (by omega), if_neg h, r_cat l (by omega) l.length 0 k 0 rfl (by omega) (by omega)]
end Go.Proofs.YtblmgmhjlbkncaaDoor.PA
namespace Go.Proofs.YtblmgmhjlbkncaaDoor.PA
open Go.RowKit Go.Proofs.YtblmgmhjlbkncaaDoorW.PrintWords
set_option linter.unusedVariables false
theorem snd_both (a0 a1 : ByteArray) (a2 a3 a4 a5 a6 a7 a8 a9 a10 : Int) : ∃ b, order_sound.f a0 a1 a2 a3 a4 a5 a6 a7 a8 a9 a10 = some b ∧ sawmillref46_Sound.f a0 a1 a2 a3 a4 a5 a6 a7 a8 a9 a10 = some b := by
  unfold order_sound.f sawmillref46_Sound.f
  by_cases h1 : a6 < 1
  · rw [if_pos h1, if_neg (by omega)]; exact ⟨_, rfl, rfl⟩
  rw [if_neg h1, if_pos (show a6 ≥ 1 by omega)]
  by_cases h2 : a6 > 200
  · rw [if_pos h2, if_neg (by omega)]; exact ⟨_, rfl, rfl⟩
  rw [if_neg h2, if_pos (show a6 ≤ 200 by omega)]
  by_cases h3 : a7 ≥ 0
  · rw [if_pos h3]
    by_cases h4 : a7 < a6
    · rw [if_pos h4]
      by_cases h5 : a8 ≥ 0
      · rw [if_pos h5]; exact ⟨_, rfl, rfl⟩
      · rw [if_neg h5]; exact ⟨_, rfl, rfl⟩
    · rw [if_neg h4]; exact ⟨_, rfl, rfl⟩
  · rw [if_neg h3]; exact ⟨_, rfl, rfl⟩
end Go.Proofs.YtblmgmhjlbkncaaDoor.PA
namespace Go.Proofs.YtblmgmhjlbkncaaDoor.PA
open Go.RowKit Go.Proofs.YtblmgmhjlbkncaaDoorW.PrintWords
set_option linter.unusedVariables false
def anyI (l : List Int) (v : Int) : Nat → Nat → Bool
  | 0, _ => false
  | d + 1, i => decide (rd l i = v) || anyI l v d (i + 1)
theorem anyI_succ (l : List Int) (v : Int) (d i : Nat) : anyI l v (d + 1) i = (decide (rd l i = v) || anyI l v d (i + 1)) := rfl
theorem p_idx (l : List Int) (v : Int) (hl : l.length ≤ 1000) : ∀ (d i k : Nat) (x : Int), x = i → i + d = l.length → d < k → ∃ y, slices_Index_int_int.l0 k l v (l.length : Int) x = some y ∧ decide (y ≥ 0) = anyI l v d i
  | 0, i, k, x, hx, hi, hk => by
    obtain ⟨k, rfl⟩ : ∃ q, k = q + 1 := ⟨k - 1, by omega⟩
    simp only [slices_Index_int_int.l0]
    rw [if_neg (by omega)]
    exact ⟨_, rfl, rfl⟩
  | d + 1, i, k, x, hx, hi, hk => by
    obtain ⟨k, rfl⟩ : ∃ q, k = q + 1 := ⟨k - 1, by omega⟩
    subst hx
    simp only [slices_Index_int_int.l0]
    rw [if_pos (by omega), if_pos (by omega), if_pos (by omega), w64 (by omega) (by omega)]
    rw [anyI_succ]
    by_cases h : v = rd l i
    · rw [if_pos h, decide_eq_true h.symm, Bool.true_or]
      exact ⟨_, rfl, decide_eq_true (by omega)⟩
    · rw [if_neg h, decide_eq_false (fun e => h e.symm), Bool.false_or]
      exact p_idx l v hl d (i + 1) k _ (by omega) (by omega) (by omega)
theorem r_has (l : List Int) (v : Int) (hl : l.length ≤ 1000) : ∀ (d i k : Nat) (x : Int), x = i → i + d = l.length → d < k → sawmillref46_has.l0 k l v x = some (anyI l v d i)
  | 0, i, k, x, hx, hi, hk => by
    obtain ⟨k, rfl⟩ : ∃ q, k = q + 1 := ⟨k - 1, by omega⟩
    simp only [sawmillref46_has.l0]
    rw [if_neg (by omega)]
    rfl
  | d + 1, i, k, x, hx, hi, hk => by
    obtain ⟨k, rfl⟩ : ∃ q, k = q + 1 := ⟨k - 1, by omega⟩
    subst hx
    simp only [sawmillref46_has.l0]
    rw [if_pos (by omega), if_pos (by omega), w64 (by omega) (by omega)]
    rw [anyI_succ]
    by_cases h : rd l i = v
    · rw [if_pos h, decide_eq_true h, Bool.true_or]
    · rw [if_neg h, decide_eq_false h, Bool.false_or]
      exact r_has l v hl d (i + 1) k _ (by omega) (by omega) (by omega)
theorem lens_le {l m : List Int} (h : lensV l m = 0) : l.length ≤ 8 := by
  unfold lensV at h
  by_cases h1 : l.length = 0
  · omega
  · rw [if_neg h1] at h
    by_cases h2 : 8 < l.length
    · rw [if_pos h2] at h; simp at h
    · omega
theorem checkP_len (l : List S54) : ∀ (d i : Nat), checkP l d i = 0 → ∀ j : Nat, i ≤ j → j < i + d → (rd_T54 l (j : Int)).f5.length ≤ 8
  | 0, i, h, j, h1, h2 => by omega
  | d + 1, i, h, j, h1, h2 => by
    rw [checkP_succ] at h
    by_cases c1 : nameV (rd_T54 l (i : Int)).f0 = true
    case neg => rw [if_neg c1] at h; simp at h
    rw [if_pos c1] at h
    by_cases c2 : hasN l (rd_T54 l (i : Int)).f0 i 0 = true
    case pos => rw [if_pos c2] at h; simp at h
    rw [if_neg c2] at h
    by_cases c3 : sizedV (rd_T54 l (i : Int)).f1 (rd_T54 l (i : Int)).f2 (rd_T54 l (i : Int)).f3 (rd_T54 l (i : Int)).f4 = true
    case neg => rw [if_neg c3] at h; simp at h
    rw [if_pos c3] at h
    by_cases c4 : lensV (rd_T54 l (i : Int)).f5 (rd_T54 l (i : Int)).f6 = 0
    case neg => rw [if_neg c4] at h; exact absurd h c4
    rw [if_pos c4] at h
    by_cases e : j = i
    · subst e
      exact lens_le c4
    · exact checkP_len l d (i + 1) h j (by omega) (by omega)
theorem catV_len {l : List S54} (h : catV l = 0) {j : Nat} (hj : j < l.length) : (rd_T54 l (j : Int)).f5.length ≤ 8 := by
  unfold catV at h
  by_cases c : 16 < l.length
  · rw [if_pos c] at h; simp at h
  · rw [if_neg c] at h
    exact checkP_len l l.length 0 h j (Nat.zero_le _) (by omega)
theorem both {E : Option Int} (h : E.isSome = true) : ∃ V, E = some V ∧ E = some V := by
  obtain ⟨V, e⟩ := Option.isSome_iff_exists.1 h
  exact ⟨V, e, e⟩
section
variable (a0 a1 : ByteArray) (a2 a3 a4 a5 a6 a7 a8 a9 a10 : Int)
theorem j3_both (b : Bool) (k : Nat) : ∃ V, order_Check.j3 (k + 1) b a0 a1 a2 a3 a4 a5 a6 a7 a8 a9 a10 = some V ∧ sawmillref46_Check.j3 (k + 1) b a0 a1 a2 a3 a4 a5 a6 a7 a8 a9 a10 = some V := by
  obtain ⟨s, h1, h2⟩ := snd_both a0 a1 a2 a3 a4 a5 a6 a7 a8 a9 a10
  simp only [order_Check.j3, sawmillref46_Check.j3]
  rw [h1, h2]
  simp only [Option.bind_some]
  refine both ?_
  repeat' split
  all_goals rfl
theorem j2_both (b : Bool) (k : Nat) : ∃ V, order_Check.j2 (k + 2) b a0 a1 a2 a3 a4 a5 a6 a7 a8 a9 a10 = some V ∧ sawmillref46_Check.j2 (k + 2) b a0 a1 a2 a3 a4 a5 a6 a7 a8 a9 a10 = some V := by
  rw [order_Check.j2, sawmillref46_Check.j2]
  by_cases h : b = true
  · rw [if_pos h, if_pos h]
    exact ⟨_, rfl, rfl⟩
  · rw [if_neg h, if_neg h]
    by_cases h1 : a5 < 0
    · rw [if_pos h1, if_pos h1]
      exact j3_both a0 a1 a2 a3 a4 a5 a6 a7 a8 a9 a10 _ k
    · rw [if_neg h1, if_neg h1]
      exact j3_both a0 a1 a2 a3 a4 a5 a6 a7 a8 a9 a10 _ k
theorem j1_both (l : List S54) (hc : catV l = 0) (b : Bool) (hb : b = false → 0 ≤ a2 ∧ a2 < l.length) (k : Nat) : ∃ V, order_Check.j1 (k + 30) l b a0 a1 a2 a3 a4 a5 a6 a7 a8 a9 a10 = some V ∧ sawmillref46_Check.j1 (k + 30) l b a0 a1 a2 a3 a4 a5 a6 a7 a8 a9 a10 = some V := by
  rw [order_Check.j1, sawmillref46_Check.j1]
  by_cases h : b = true
  · rw [if_pos h, if_pos h]
    exact ⟨_, rfl, rfl⟩
  · rw [if_neg h, if_neg h]
    obtain ⟨h1, h2⟩ := hb (by simpa using h)
    obtain ⟨j, rfl⟩ : ∃ j : Nat, a2 = j := ⟨a2.toNat, by omega⟩
    have hlen := catV_len hc (j := j) (by omega)
    generalize hL : (rd_T54 l (j : Int)).f5 = L at hlen ⊢
    rw [if_pos h1, if_pos h1, if_pos h2, if_pos h2]
    obtain ⟨y, hy, hd⟩ := p_idx L a3 (by omega) L.length 0 (k + 29) 0 rfl (by omega) (by omega)
    have e1 : slices_Contains_int_int.f (k + 29) L a3 = some (anyI L a3 L.length 0) := by
      unfold slices_Contains_int_int.f slices_Index_int_int.f
      rw [hy, Option.bind_some, hd]
    have e2 : sawmillref46_has.f (k + 29) L a3 = some (anyI L a3 L.length 0) := by
      unfold sawmillref46_has.f
      exact r_has L a3 (by omega) L.length 0 (k + 29) 0 rfl (by omega) (by omega)
    rw [e1, e2, Option.bind_some, Option.bind_some]
    by_cases h3 : anyI L a3 L.length 0 = true
    · rw [if_pos h3, if_pos h3]
      by_cases h4 : a4 < 1
      · rw [if_pos h4, if_pos h4]
        exact j2_both a0 a1 j a3 a4 a5 a6 a7 a8 a9 a10 _ (k + 27)
      · rw [if_neg h4, if_neg h4]
        exact j2_both a0 a1 j a3 a4 a5 a6 a7 a8 a9 a10 _ (k + 27)
    · rw [if_neg h3, if_neg h3]
      exact ⟨_, rfl, rfl⟩
theorem j0_both (l : List S54) (hc : catV l = 0) (b : Bool) (k : Nat) : ∃ V, order_Check.j0 (k + 31) l b a0 a1 a2 a3 a4 a5 a6 a7 a8 a9 a10 = some V ∧ sawmillref46_Check.j0 (k + 31) l b a0 a1 a2 a3 a4 a5 a6 a7 a8 a9 a10 = some V := by
  rw [order_Check.j0, sawmillref46_Check.j0]
  by_cases h : b = true
  · rw [if_pos h, if_pos h]
    exact ⟨_, rfl, rfl⟩
  · rw [if_neg h, if_neg h]
    by_cases h1 : a2 < 0
    · rw [if_pos h1, if_pos h1]
      exact j1_both a0 a1 a2 a3 a4 a5 a6 a7 a8 a9 a10 l hc true (by simp) k
    · rw [if_neg h1, if_neg h1]
      exact j1_both a0 a1 a2 a3 a4 a5 a6 a7 a8 a9 a10 l hc _ (fun e => ⟨by omega, by have := of_decide_eq_false e; omega⟩) k
theorem check_both (l : List S54) : ∃ V, order_Check.f 700 a0 a1 a2 a3 a4 a5 a6 a7 a8 a9 a10 l = some V ∧ sawmillref46_Check.f 700 a0 a1 a2 a3 a4 a5 a6 a7 a8 a9 a10 l = some V := by
  unfold order_Check.f sawmillref46_Check.f
  rw [p_catV l (by omega), r_catV l (by omega), Option.bind_some, Option.bind_some]
  by_cases hc : catV l = 0
  · rw [if_pos hc, if_pos hc, id_is _ _ (by omega), r_is _ _ (by omega), Option.bind_some, Option.bind_some]
    by_cases h1 : isV a0 79 = true
    · rw [if_pos h1, if_pos h1, p_name _ (by omega), r_name _ (by omega), Option.bind_some, Option.bind_some]
      exact j0_both a0 a1 a2 a3 a4 a5 a6 a7 a8 a9 a10 l hc _ 669
    · rw [if_neg h1, if_neg h1]
      exact j0_both a0 a1 a2 a3 a4 a5 a6 a7 a8 a9 a10 l hc _ 669
  · rw [if_neg hc, if_neg hc]
    exact ⟨_, rfl, rfl⟩
end
theorem short_ex (l : List S54) : ∀ (d i k : Nat) (x : Int), x = i → i + d = 20 → d < k → ∃ b, sawmilllaw19_Short.l0 k l x = some b
  | d, i, 0, x, hx, hi, hk => by omega
  | 0, i, k + 1, x, hx, hi, hk => by
    simp only [sawmilllaw19_Short.l0]
    by_cases h : x < (l.length : Int)
    · rw [if_pos h, if_pos (by omega)]
      exact ⟨_, rfl⟩
    · rw [if_neg h]
      exact ⟨_, rfl⟩
  | d + 1, i, k + 1, x, hx, hi, hk => by
    simp only [sawmilllaw19_Short.l0]
    by_cases h : x < (l.length : Int)
    · rw [if_pos h, if_neg (by omega), if_pos (by omega)]
      split
      · exact ⟨_, rfl⟩
      · split
        · exact ⟨_, rfl⟩
        · split
          · exact ⟨_, rfl⟩
          · rw [w64 (by omega) (by omega)]
            exact short_ex l d (i + 1) k _ (by omega) (by omega) (by omega)
    · rw [if_neg h]
      exact ⟨_, rfl⟩
theorem sawmilllaw46_OrderChecks.pure : sawmilllaw46_OrderChecks.Pure := by
  intro a0 a1 a2 a3 a4 a5 a6 a7 a8 a9 a10 l hA hl hB
  refine ⟨701, ?_⟩
  have hT : sawmilllaw46_OrderChecks.j0 701 l true a0 a1 a2 a3 a4 a5 a6 a7 a8 a9 a10 = some true := by
    rw [show (701 : Nat) = 700 + 1 from rfl, sawmilllaw46_OrderChecks.j0, if_pos rfl]
    rfl
  have hF : sawmilllaw46_OrderChecks.j0 701 l false a0 a1 a2 a3 a4 a5 a6 a7 a8 a9 a10 = some true := by
    obtain ⟨V, h1, h2⟩ := check_both a0 a1 a2 a3 a4 a5 a6 a7 a8 a9 a10 l
    rw [show (701 : Nat) = 700 + 1 from rfl, sawmilllaw46_OrderChecks.j0, if_neg (by decide), h1, h2, Option.bind_some, Option.bind_some, if_pos rfl]
    rfl
  unfold sawmilllaw46_OrderChecks.f sawmilllaw19_Short.f
  obtain ⟨b, hb⟩ := short_ex l 20 0 701 0 rfl rfl (by omega)
  rw [hb, Option.bind_some]
  by_cases h : b = true
  · rw [if_pos h]
    by_cases h1 : (a0.size : Int) > 100
    · rw [if_pos h1]
      exact hT
    · rw [if_neg h1]
      by_cases h2 : (a1.size : Int) > 100
      · rw [decide_eq_true h2]
        exact hT
      · rw [decide_eq_false h2]
        exact hF
  · rw [if_neg h]
    exact hT
end Go.Proofs.YtblmgmhjlbkncaaDoor.PA
