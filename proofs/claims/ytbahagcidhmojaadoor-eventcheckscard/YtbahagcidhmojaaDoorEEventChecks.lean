/- The plain laws: numbers, strings and lists. -/
import Derived.Test.YtbahagcidhmojaaDoorCEventChecks5
import Derived.ChangeArms
import Derived.ChangeSame
import Derived.DataElems
import Derived.DataReads
import Derived.WideShapes
import Derived.KernelRfl
namespace Go.Proofs.YtbahagcidhmojaaDoorW.PrintWords
open Go.RowKit
def Opens (P : Program) (t : TypeId) {α : Type} (d : Kd α) (B : α → Prop) : Prop :=
  ∀ (H : Type) (enc : TypeId × Value → H) (W : World) (fuel : Nat) (cs : List Value) (x : DataW H × List MemPlace), DataW.trod enc P W 0 (fun _ => true) true fuel t cs = some x → ∃ a, d.K W a cs ∧ B a
theorem choose_list {α : Type} {p : Nat → α → Prop} : ∀ n : Nat, (∀ i, i < n → ∃ a, p i a) → ∃ l : List α, l.length = n ∧ ∀ i a, l[i]? = some a → p i a
  | 0, _ => ⟨[], rfl, fun i a h => by simp at h⟩
  | n + 1, h => by
    obtain ⟨l, hl, hp⟩ := choose_list n (fun i hi => h i (by omega))
    obtain ⟨a, ha⟩ := h n (by omega)
    refine ⟨l ++ [a], by simp [hl], fun i b hb => ?_⟩
    by_cases hi : i < l.length
    · rw [List.getElem?_append_left hi] at hb
      exact hp i b hb
    · rw [List.getElem?_append_right (by omega)] at hb
      obtain rfl : i = n := by
        have := (List.getElem?_eq_some_iff.1 hb).1
        simp at this
        omega
      rw [hl, Nat.sub_self] at hb
      simp at hb
      subst hb
      exact ha
section
variable {P : Program} {t : TypeId}
theorem opens_int {k : IntKind} (ht : P.underlying t = some (.int k)) : Opens P t (Kd.int k) (fun a => (Lit.int k a).wf = true) := by
  intro H enc W fuel cs x h
  obtain ⟨n, rfl, -, hw⟩ := DataW.trod_int ht h
  exact ⟨n, rfl, hw⟩
theorem opens_string (ht : P.underlying t = some .string) : Opens P t Kd.string (fun a => a.size ≤ maxLen) := by
  intro H enc W fuel cs x h
  obtain ⟨s, rfl, -, hs⟩ := DataW.trod_string ht h
  exact ⟨s, rfl, hs⟩
theorem opens_slice (e q : TypeId) {α : Type} {d : Kd α} {B : α → Prop} (ht : P.underlying t = some (.slice e)) (hc : P.cellsOf e = d.sz) (he : Opens P e d B) : Opens P t (Kd.slice q d) (fun l => l.length ≤ maxLen ∧ ∀ a ∈ l, B a) := by
  intro H enc W fuel cs x h
  rcases DataW.trod_slice ht h with ⟨rfl, -⟩ | ⟨ad, len, cap, elems, rest, n, -, rfl, -, -, hlen, hcap, hel, helem, -, -⟩
  · exact ⟨[], ⟨none, 0, rfl, Nat.le_refl _, rfl, Nat.zero_le _, fun h => absurd h (Nat.lt_irrefl 0)⟩, Nat.zero_le _, fun a ha => by simp at ha⟩
  · have key : ∀ i, i < len → ∃ a, B a ∧ ∃ c, c.length = d.sz ∧ d.K W a c ∧ ∀ j u, c[j]? = some u → W.cell? (ad.add (i * d.sz + j)) = some u := by
      intro i hi
      have h1 := helem i hi
      rw [List.getElem?_eq_getElem (by omega)] at h1
      obtain ⟨c, hcs, htr⟩ := Option.bind_eq_some_iff.mp h1
      obtain ⟨a, hK, hB⟩ := he H enc W n c _ htr
      refine ⟨a, hB, c, d.K_len hK, hK, fun j u hj => ?_⟩
      obtain ⟨-, -, hs⟩ := World.cells?_some hcs
      have hjl : j < P.cellsOf e := by rw [hc, ← d.K_len hK]; exact (List.getElem?_eq_some_iff.1 hj).1
      rw [← hc, ← Addr.add_add, hs j hjl, hj]
    obtain ⟨l, hl, hp⟩ := choose_list len key
    have hle : l.length ≤ maxLen := by omega
    refine ⟨l, ⟨some ad, cap, by rw [hl], by omega, rfl, hle, fun _ => ⟨ad, rfl, fun j p hj => ?_⟩⟩, hle, fun a ha => ?_⟩
    · obtain ⟨-, c, h1, h2, h3⟩ := hp j p hj
      exact ⟨c, h1, h2, h3⟩
    · obtain ⟨i, hi, rfl⟩ := List.getElem_of_mem ha
      exact (hp i _ (List.getElem?_eq_getElem hi)).1
def FOpens (P : Program) (fs : List Field) (off : Nat) {α : Type} (d : Kd α) (B : α → Prop) : Prop :=
  ∀ (H : Type) (enc : TypeId × Value → H) (W : World) (n : Nat) (cs : List Value), off + d.sz = cs.length →
    (∀ (i : Nat) (f : Field), fs[i]? = some f → ∃ y, DataW.trod enc P W 0 (fun _ => true) true n f.type ((cs.drop f.offset).take (P.cellsOf f.type)) = some y) → ∃ a, d.K W a (cs.drop off) ∧ B a
theorem fo_last {f : Field} {off : Nat} {α : Type} {d : Kd α} {B : α → Prop} (ho : f.offset = off) (hc : P.cellsOf f.type = d.sz) (h : Opens P f.type d B) : FOpens P [f] off d B := by
  intro H enc W n cs hl hf
  obtain ⟨y, hy⟩ := hf 0 f rfl
  rw [ho, hc, List.take_of_length_le (by rw [List.length_drop]; omega)] at hy
  exact h H enc W n _ _ hy
theorem fo_cons {f : Field} {fs : List Field} {off : Nat} {α β : Type} {d : Kd α} {d' : Kd β} {B : α → Prop} {B' : β → Prop} (ho : f.offset = off) (hc : P.cellsOf f.type = d.sz) (h : Opens P f.type d B) (hr : FOpens P fs (off + d.sz) d' B') :
    FOpens P (f :: fs) off (Kd.pair d d') (fun a => B a.1 ∧ B' a.2) := by
  intro H enc W n cs hl hf
  have hl' : off + (d.sz + d'.sz) = cs.length := hl
  obtain ⟨y, hy⟩ := hf 0 f rfl
  rw [ho, hc] at hy
  obtain ⟨a, hK, hB⟩ := h H enc W n _ _ hy
  obtain ⟨b, hK', hB'⟩ := hr H enc W n cs (by omega) (fun i g hg => hf (i + 1) g (by simpa using hg))
  refine ⟨(a, b), ⟨(cs.drop off).take d.sz, cs.drop (off + d.sz), ?_, hK, hK'⟩, hB, hB'⟩
  rw [← List.drop_drop]
  exact (List.take_append_drop _ _).symm
theorem opens_struct {fs : Array Field} {l : List Field} {α β : Type} {d : Kd α} {B : α → Prop} (ht : P.underlying t = some (.struct fs)) (hl : fs.toList = l) (hc : P.cellsOf t = d.sz) (h : FOpens P l 0 d B) (g : β → α) (inv : α → β) (hg : ∀ a, g (inv a) = a) :
    Opens P t (Kd.iso d g) (fun b => B (g b)) := by
  subst hl
  intro H enc W fuel cs x hx
  obtain ⟨xs, n, -, -, hlen, hxs, hf⟩ := DataW.trod_struct ht hx
  obtain ⟨a, hK, hB⟩ := h H enc W n cs (by rw [hlen, hc, Nat.zero_add]) (fun i f hif => by
    have hif' : fs[i]? = some f := by simpa using hif
    have hi : i < xs.length := by rw [hxs]; exact (Array.getElem?_eq_some_iff.1 hif').1
    exact ⟨xs[i], (hf i f hif').trans (List.getElem?_eq_getElem hi)⟩)
  exact ⟨inv a, by show d.K W (g (inv a)) cs; rw [hg]; exact hK, by show B (g (inv a)); rw [hg]; exact hB⟩
end
end Go.Proofs.YtbahagcidhmojaaDoorW.PrintWords
namespace Go.Proofs.YtbahagcidhmojaaDoor.PA
open Go.RowKit Go.Proofs.YtbahagcidhmojaaDoorW.PrintWords
set_option linter.unusedVariables false
def B24 (x : S24) : Prop := (Lit.int .i64 x.f0).wf = true ∧ (Lit.int .i64 x.f1).wf = true ∧ x.f2.size ≤ maxLen ∧ x.f3.size ≤ maxLen ∧ (x.f4.length ≤ maxLen ∧ ∀ a ∈ x.f4, (Lit.int .i64 a).wf = true) ∧ x.f5.size ≤ maxLen
theorem opens24 : Opens Tryd.prog 24 k24 B24 := by
  have h := opens_struct Tryd.underlying24 rfl (by kernel_rfl) (fo_cons rfl (by kernel_rfl) (opens_int Tryd.underlying3) (fo_cons rfl (by kernel_rfl) (opens_int Tryd.underlying3) (fo_cons rfl (by kernel_rfl) (opens_string Tryd.underlying9) (fo_cons rfl (by kernel_rfl) (opens_string Tryd.underlying9) (fo_cons rfl (by kernel_rfl) (opens_slice 3 3 Tryd.underlying22 (by kernel_rfl) (opens_int Tryd.underlying3)) (fo_last rfl (by kernel_rfl) (opens_string Tryd.underlying9))))))) (fun x : S24 => (x.f0, x.f1, x.f2, x.f3, x.f4, x.f5)) (fun y => ⟨y.1, y.2.1, y.2.2.1, y.2.2.2.1, y.2.2.2.2.1, y.2.2.2.2.2⟩) (fun _ => rfl)
  exact h
def sawmilllaw58_EventChecks.Pure : Prop := ∀ (a0_0 : Int) (a0_1 : Int) (a0_2 : ByteArray) (a0_3 : ByteArray) (l0_4 : List Int) (a0_5 : ByteArray) (a1 : Int), B24 (⟨a0_0, a0_1, a0_2, a0_3, l0_4, a0_5⟩ : S24) → (Lit.int .i64 a1).wf = true → ∃ k, sawmilllaw58_EventChecks.f k a0_0 a0_1 a0_2 a0_3 l0_4 a0_5 a1 = some true
end Go.Proofs.YtbahagcidhmojaaDoor.PA
namespace Go.Proofs.YtbahagcidhmojaaDoor.PA
open Go.RowKit Go.Proofs.YtbahagcidhmojaaDoorW.PrintWords
set_option linter.unusedVariables false
theorem w64 {n : Int} (h0 : -9223372036854775808 ≤ n) (h1 : n ≤ 9223372036854775807) : wrap64 n = n := by unfold wrap64; omega
theorem tmod_pos {a b : Int} (h : 0 ≤ a) : Int.tmod a b = a % b := Int.tmod_eq_emod_of_nonneg h
def letSum (s : ByteArray) : Nat → Int
  | 0 => 0
  | n + 1 => (letSum s n + ((n : Int) + 1) * bt s n) % 23
theorem letSum_range (s : ByteArray) (n : Nat) : 0 ≤ letSum s n ∧ letSum s n < 23 := by
  cases n with
  | zero => simp [letSum]
  | succ n => unfold letSum; omega
theorem mod_mul (i b : Int) : ((i % 23 + 1) * b) % 23 = ((i + 1) * b) % 23 := by
  rw [Int.mul_emod, Int.add_emod, Int.emod_emod_of_dvd _ (Int.dvd_refl 23), ← Int.add_emod, ← Int.mul_emod]
theorem mod_mul' (i b : Int) : (((i + 1) % 23) * b) % 23 = ((i + 1) * b) % 23 := by
  rw [Int.mul_emod, Int.emod_emod_of_dvd _ (Int.dvd_refl 23), ← Int.mul_emod]
theorem bounded_mul {c b : Int} (hc : 0 ≤ c) (hc' : c ≤ 23) (hb : 0 ≤ b) (hb' : b ≤ 255) : 0 ≤ c * b ∧ c * b ≤ 5865 := by
  constructor
  · exact Int.mul_nonneg hc hb
  · calc c * b ≤ 23 * b := Int.mul_le_mul_of_nonneg_right hc' hb
      _ ≤ 23 * 255 := Int.mul_le_mul_of_nonneg_left hb' (by omega)
theorem id_letter_l (s : ByteArray) (hs : s.size ≤ 1000000) (d : Nat) : ∀ (n k : Nat), n + d = s.size → d < k → ident_Letter.l0 k s (letSum s n) (s.size : Int) n = some (65 + letSum s s.size) := by
  induction d with
  | zero =>
    intro n k hn hk
    obtain ⟨k, rfl⟩ : ∃ m, k = m + 1 := ⟨k - 1, by omega⟩
    simp only [ident_Letter.l0]
    rw [if_neg (by omega)]
    have h := letSum_range s n
    obtain rfl : n = s.size := by omega
    congr 1
    omega
  | succ d ih =>
    intro n k hn hk
    obtain ⟨k, rfl⟩ : ∃ m, k = m + 1 := ⟨k - 1, by omega⟩
    have h := letSum_range s n
    have hb := bt_range s n
    have hm := bounded_mul (c := (n : Int) % 23 + 1) (b := bt s n) (by omega) (by omega) hb.1 hb.2
    simp only [ident_Letter.l0]
    rw [if_pos (by omega), if_pos (by omega), if_pos (by omega), tmod_pos (a := (n : Int)) (by omega), w64 (n := (n : Int) % 23 + 1) (by omega) (by omega), w64 (n := bt s n) (by omega) (by omega), w64 (n := ((n : Int) % 23 + 1) * bt s n) (by omega) (by omega), w64 (n := letSum s n + _) (by omega) (by omega), tmod_pos (by omega), w64 (n := (n : Int) + 1) (by omega) (by omega)]
    have e : (letSum s n + ((n : Int) % 23 + 1) * bt s n) % 23 = letSum s (n + 1) := by
      show _ = (letSum s n + ((n : Int) + 1) * bt s n) % 23
      rw [Int.add_emod, mod_mul, ← Int.add_emod]
    rw [e]
    exact ih (n + 1) k (by omega) (by omega)
theorem id_letter (s : ByteArray) (hs : s.size ≤ 1000000) {k : Nat} (hk : s.size < k) : ident_Letter.f k s = some (65 + letSum s s.size) :=
  id_letter_l s hs s.size 0 k (by omega) hk
theorem r_letter_l (s : ByteArray) (hs : s.size ≤ 1000000) (d : Nat) : ∀ (n k : Nat), n + d = s.size → d < k → sawmillref02_Letter.l0 k s (letSum s n) n = some (65 + letSum s s.size) := by
  induction d with
  | zero =>
    intro n k hn hk
    obtain ⟨k, rfl⟩ : ∃ m, k = m + 1 := ⟨k - 1, by omega⟩
    simp only [sawmillref02_Letter.l0]
    have h := letSum_range s n
    obtain rfl : n = s.size := by omega
    rw [if_neg (by omega), w64 (by omega) (by omega)]
    congr 1
    omega
  | succ d ih =>
    intro n k hn hk
    obtain ⟨k, rfl⟩ : ∃ m, k = m + 1 := ⟨k - 1, by omega⟩
    have h := letSum_range s n
    have hb := bt_range s n
    have hm := bounded_mul (c := ((n : Int) + 1) % 23) (b := bt s n) (by omega) (by omega) hb.1 hb.2
    simp only [sawmillref02_Letter.l0]
    rw [if_pos (by omega), if_pos (by omega), w64 (n := (n : Int) + 1) (by omega) (by omega), tmod_pos (a := (n : Int) + 1) (by omega), w64 (n := bt s n) (by omega) (by omega), w64 (n := ((n : Int) + 1) % 23 * bt s n) (by omega) (by omega), w64 (n := letSum s n + _) (by omega) (by omega), tmod_pos (by omega)]
    have e : (letSum s n + (((n : Int) + 1) % 23) * bt s n) % 23 = letSum s (n + 1) := by
      show _ = (letSum s n + ((n : Int) + 1) * bt s n) % 23
      rw [Int.add_emod, mod_mul', ← Int.add_emod]
    rw [e]
    exact ih (n + 1) k (by omega) (by omega)
theorem r_letter (s : ByteArray) (hs : s.size ≤ 1000000) {k : Nat} (hk : s.size < k) : sawmillref02_Letter.f k s = some (65 + letSum s s.size) :=
  r_letter_l s hs s.size 0 k (by omega) hk
def splitV (s : ByteArray) : Int × Int × Int :=
  if s.size = 8 then (if capB (bt s 0) = true then splitRes s (65 + letSum (s.extract 0 7) 7) else (0, 0, 10)) else (0, 0, 3)
def isV (s : ByteArray) (c : Int) : Bool := if (splitV s).2.2 = 0 then (splitV s).1 == c else false
theorem size7 {s : ByteArray} (h : s.size = 8) : (s.extract 0 7).size = 7 := by rw [ByteArray.size_extract, h]; rfl
theorem id_split (s : ByteArray) {k : Nat} (hk : 7 < k) : ident_Split.f k s = some (splitV s) := by
  unfold ident_Split.f splitV
  by_cases h8 : s.size = 8
  · rw [if_pos (by omega), if_pos h8]
    by_cases hc : capB (bt s 0) = true
    · rw [if_pos hc, if_pos hc, id_letter _ (by rw [size7 h8]; decide) (by rw [size7 h8]; exact hk), size7 h8]
      unfold splitRes
      by_cases hd : allDig s = true
      · simp only [if_pos hd, Option.bind_some]
      · rw [if_neg hd, if_neg hd]
    · rw [if_neg hc, if_neg hc]
  · rw [if_neg (by omega), if_neg h8]
theorem id_is (s : ByteArray) (c : Int) {k : Nat} (hk : 7 < k) : ident_Is.f k s c = some (isV s c) := by
  unfold ident_Is.f isV
  rw [id_split s hk, Option.bind_some]
  split <;> rfl
def numTo (s : ByteArray) : Nat → Int
  | 0 => 0
  | n + 1 => 10 * numTo s n + (bt s ((n : Int) + 1) - 48)
theorem r_digit (c : Int) : sawmillref02_digit.f c = some (digB c) := by unfold sawmillref02_digit.f digB; split <;> simp [*]
theorem r_capital (c : Int) : sawmillref02_capital.f c = some (capB c) := by unfold sawmillref02_capital.f capB; split <;> simp [*]
theorem numTo_six (s : ByteArray) : numTo s 6 = codeNum s := by simp [numTo, codeNum]; omega
theorem pow_le6 {n : Nat} (h : n ≤ 6) : ((10 ^ n : Nat) : Int) ≤ 1000000 := by
  have : 10 ^ n ≤ 10 ^ 6 := Nat.pow_le_pow_right (by decide) h
  omega
theorem r_split_l (s : ByteArray) (h8 : s.size = 8) (d : Nat) : ∀ (n k : Nat), n + d = 6 → d + 8 < k → (∀ j : Nat, 1 ≤ j → j ≤ n → digB (bt s j) = true) → 0 ≤ numTo s n → numTo s n < ((10 ^ n : Nat) : Int) →
    sawmillref02_Split.l0 k s (numTo s n) ((n : Int) + 1) = some (splitRes s (65 + letSum (s.extract 0 7) 7)) := by
  induction d with
  | zero =>
    intro n k hn hk hd h0 h1
    obtain ⟨k, rfl⟩ : ∃ m, k = m + 1 := ⟨k - 1, by omega⟩
    obtain rfl : n = 6 := by omega
    have hall : allDig s = true := allDig_true s (fun j hj hj' => hd j hj (by omega))
    simp only [sawmillref02_Split.l0]
    rw [if_neg (by omega), if_pos (by omega), if_pos (by omega), r_letter _ (by rw [size7 h8]; decide) (by rw [size7 h8]; omega), size7 h8, Option.bind_some]
    unfold splitRes
    rw [if_pos hall]
    by_cases e : 65 + letSum (s.extract 0 7) 7 = bt s 7
    · rw [if_pos e.symm, if_pos e, if_pos (by omega), numTo_six]
    · rw [if_neg (fun h => e h.symm), if_neg e]
  | succ d ih =>
    intro n k hn hk hd h0 h1
    obtain ⟨k, rfl⟩ : ∃ m, k = m + 1 := ⟨k - 1, by omega⟩
    simp only [sawmillref02_Split.l0]
    rw [if_pos (by omega), if_pos (by omega), if_pos (by omega), r_digit, Option.bind_some]
    by_cases hg : digB (bt s ((n : Int) + 1)) = true
    · have hg' : 48 ≤ bt s ((n : Int) + 1) ∧ bt s ((n : Int) + 1) ≤ 57 := by simpa [digB] using hg
      have hp := pow_le6 (n := n) (by omega)
      have hp1 : ((10 ^ (n + 1) : Nat) : Int) = 10 * ((10 ^ n : Nat) : Int) := by rw [Nat.pow_succ]; omega
      have e : wrap64 (wrap64 (10 * numTo s n) + (bt s ((n : Int) + 1) - 48) % 256) = numTo s (n + 1) := by
        show _ = 10 * numTo s n + (bt s ((n : Int) + 1) - 48)
        rw [w64 (n := 10 * numTo s n) (by omega) (by omega), w64 (by omega) (by omega)]
        omega
      have e2 : numTo s (n + 1) = 10 * numTo s n + (bt s ((n : Int) + 1) - 48) := rfl
      rw [if_pos hg, e, w64 (n := (n : Int) + 1 + 1) (by omega) (by omega)]
      have := ih (n + 1) k (by omega) (by omega) (fun j hj hj' => by
        by_cases hjn : j ≤ n
        · exact hd j hj hjn
        · obtain rfl : j = n + 1 := by omega
          have : ((n + 1 : Nat) : Int) = (n : Int) + 1 := by omega
          rw [this]
          exact hg) (by omega) (by omega)
      rw [show ((n + 1 : Nat) : Int) = (n : Int) + 1 by omega] at this
      exact this
    · rw [if_neg hg]
      have hf : allDig s = false := allDig_false s (n + 1) (by omega) (by omega) (by rw [show ((n + 1 : Nat) : Int) = (n : Int) + 1 by omega]; simpa using hg)
      unfold splitRes
      rw [hf]
      rfl
theorem r_split (s : ByteArray) {k : Nat} (hk : 14 < k) : sawmillref02_Split.f k s = some (splitV s) := by
  unfold sawmillref02_Split.f splitV
  by_cases h8 : s.size = 8
  · rw [if_pos (by omega), if_pos h8, if_pos (by omega), r_capital, Option.bind_some]
    by_cases hc : capB (bt s 0) = true
    · rw [if_pos hc, if_pos hc]
      exact r_split_l s h8 6 0 k (by omega) (by omega) (fun j hj hj' => by omega) (Int.le_refl 0) (by show (0 : Int) < ((10 ^ 0 : Nat) : Int); decide)
    · rw [if_neg hc, if_neg hc]
  · rw [if_neg (by omega), if_neg h8]
theorem r_is (s : ByteArray) (c : Int) {k : Nat} (hk : 14 < k) : sawmillref02_Is.f k s c = some (isV s c) := by
  unfold sawmillref02_Is.f isV
  rw [r_split s hk, Option.bind_some]
  split <;> rfl
end Go.Proofs.YtbahagcidhmojaaDoor.PA
namespace Go.Proofs.YtbahagcidhmojaaDoor.PA
open Go.RowKit Go.Proofs.YtbahagcidhmojaaDoorW.PrintWords
set_option linter.unusedVariables false
set_option maxRecDepth 100000 in
theorem awake_true : sawmilllaw58_awake.f 40 = some true := by kernel_rfl
theorem awake_ge {k : Nat} (hk : 40 ≤ k) : sawmilllaw58_awake.f k = some true := at_rounds sawmilllaw58_awake.mono hk awake_true
def codeB (a : ByteArray) (c : Int) : Bool := if c = 0 then a.toList == ([] : List UInt8) else isV a c
theorem id_code (a : ByteArray) (c : Int) {k : Nat} (hk : 7 < k) : event_isCode.f k a c = some (codeB a c) := by
  unfold event_isCode.f codeB
  by_cases h : c = 0
  · rw [if_pos h, if_pos h]
  · rw [if_neg h, if_neg h, id_is a c hk, Option.bind_some]
theorem r_code (a : ByteArray) (c : Int) {k : Nat} (hk : 14 < k) : sawmillref58_named.f k a c = some (codeB a c) := by
  unfold sawmillref58_named.f codeB
  by_cases h : c = 0
  · rw [if_pos h, if_pos h]
  · rw [if_neg h, if_neg h, r_is a c hk, Option.bind_some]
theorem r_codes (n : Int) (h1 : 1 ≤ n) (h2 : n ≤ 14) (k : Nat) : sawmillref58_codes.f (k + 2) n = some (kItem n, kOf n) := by
  rcases kind_cases n h1 h2 with rfl | rfl | rfl | rfl | rfl | rfl | rfl | rfl | rfl | rfl | rfl | rfl | rfl | rfl <;> rfl
theorem big_at {l : List Int} (h : l.all inBig = true) {i : Int} (h0 : 0 ≤ i) (h1 : i < l.length) : -1099511627776 ≤ rd l i ∧ rd l i ≤ 1099511627776 := by
  have hm : rd l i ∈ l := by
    unfold rd
    rw [List.getD_eq_getElem?_getD, List.getElem?_eq_getElem (by omega)]
    exact List.getElem_mem _
  have := List.all_eq_true.1 h _ hm
  simpa [inBig] using this
theorem beq_dec (a b : Int) : (a == b) = decide (a = b) := by
  by_cases h : a = b
  · simp [h]
  · simp [h]
theorem r_shaped (n a1 : Int) (a2 a3 : ByteArray) (l : List Int) (a5 : ByteArray) (h1 : 1 ≤ n) (h2 : n ≤ 14) (hl : (l.length : Int) ≤ 600) (hb : l.all inBig = true) : sawmillref58_shaped.f n a1 a2 a3 l a5 = some (kFits n l) := by
  have hn : (0 : Int) ≤ (l.length : Int) := by omega
  rcases kind_cases n h1 h2 with rfl | rfl | rfl | rfl | rfl | rfl | rfl | rfl | rfl | rfl | rfl | rfl | rfl | rfl
  case inr.inr.inr.inr.inr.inl =>
    show (if (l.length : Int) ≥ 2 then _ else _) = some (dryFits l)
    unfold dryFits
    by_cases h : (l.length : Int) ≥ 2
    · have hr := big_at hb (i := 1) (by omega) (by omega)
      rw [if_pos h, if_pos (show 1 < (l.length : Int) by omega), if_neg (show ¬ (l.length : Int) < 2 by omega), w64 (n := (l.length : Int) - 2) (by omega) (by omega)]
      by_cases h3 : rd l 1 ≥ 0
      · rw [if_pos h3]
        by_cases h4 : rd l 1 ≤ (l.length : Int) - 2
        · rw [if_pos h4, w64 (by omega) (by omega), tmod_pos (by omega), beq_dec, decide_eq_true (p := 0 ≤ rd l 1) (by omega), decide_eq_true h4]
          rfl
        · rw [if_neg h4, decide_eq_false h4]
          simp
      · rw [if_neg h3, decide_eq_false (p := 0 ≤ rd l 1) (by omega)]
        rfl
    · rw [if_neg h, if_pos (by omega)]
  all_goals (simp only [sawmillref58_shaped.f, kFits, Int.reduceEq, if_false, if_true]; first | done | rfl | (rw [Option.some.injEq, Bool.eq_iff_iff]; simp; done) | (rw [Option.some.injEq, Bool.eq_iff_iff]; simp; omega))
theorem r_name (n : Int) (hw : (Lit.int .i64 n).wf = true) : sawmillref58_Name.f n = some (kName n) := by
  by_cases h : n < 1 ∨ 14 < n
  · rw [(kind_none n h).1]
    unfold sawmillref58_Name.f
    simp only [Option.bind_some]
    by_cases h1 : n < 1
    · rw [if_pos h1]
    · rw [if_neg h1, if_pos (by simp; omega)]
  · rcases kind_cases n (by omega) (by omega) with rfl | rfl | rfl | rfl | rfl | rfl | rfl | rfl | rfl | rfl | rfl | rfl | rfl | rfl <;> kernel_rfl
def checkV (a0 a1 : Int) (a2 a3 : ByteArray) (l : List Int) (a5 : ByteArray) : Int :=
  if a0 < 1 ∨ 14 < a0 then 10 else if a1 < 0 ∨ 10000000 < a1 then 15 else if codeB a2 (kItem a0) = true ∧ codeB a3 (kOf a0) = true then (if 600 < (l.length : Int) ∨ 16384 < (a5.size : Int) then 4 else checkTail a0 l) else 6
theorem p_check (a0 a1 : Int) (a2 a3 : ByteArray) (l : List Int) (a5 : ByteArray) {k : Nat} (hk : 7 < k) : event_Check.f k a0 a1 a2 a3 l a5 = some (checkV a0 a1 a2 a3 l a5) := by
  unfold event_Check.f checkV
  by_cases h1 : a0 < 1 ∨ 14 < a0
  · rw [if_pos h1, if_pos h1]
  rw [if_neg h1, if_neg h1]
  by_cases h2 : a1 < 0
  · rw [if_pos h2, if_pos (show a1 < 0 ∨ 10000000 < a1 from .inl h2)]
  rw [if_neg h2]
  by_cases h3 : a1 > 10000000
  · rw [if_pos h3, if_pos (show a1 < 0 ∨ 10000000 < a1 from .inr h3)]
  rw [if_neg h3, if_neg (show ¬ (a1 < 0 ∨ 10000000 < a1) by omega), id_code _ _ hk, Option.bind_some]
  by_cases h4 : codeB a2 (kItem a0) = true
  · rw [if_pos h4, id_code _ _ hk, Option.bind_some]
    by_cases h5 : codeB a3 (kOf a0) = true
    · rw [if_pos h5, if_pos (And.intro h4 h5)]
      by_cases h6 : (l.length : Int) > 600
      · rw [if_pos h6, if_pos (show 600 < (l.length : Int) ∨ 16384 < (a5.size : Int) from .inl h6)]
      rw [if_neg h6]
      by_cases h7 : (a5.size : Int) > 16384
      · rw [if_pos h7, if_pos (show 600 < (l.length : Int) ∨ 16384 < (a5.size : Int) from .inr h7)]
      rw [if_neg h7, if_neg (show ¬ (600 < (l.length : Int) ∨ 16384 < (a5.size : Int)) by omega)]
    · rw [if_neg h5, if_neg (show ¬ (codeB a2 (kItem a0) = true ∧ codeB a3 (kOf a0) = true) from fun h => h5 h.2)]
  · rw [if_neg h4, if_neg (show ¬ (codeB a2 (kItem a0) = true ∧ codeB a3 (kOf a0) = true) from fun h => h4 h.1)]
theorem r_check_l (a0 a1 : Int) (a2 a3 : ByteArray) (l : List Int) (a5 : ByteArray) (h1 : 1 ≤ a0) (h2 : a0 ≤ 14) (hl : (l.length : Int) ≤ 600) (d : Nat) : ∀ (n k : Nat), n + d = l.length → d < k → AllTo l n →
    sawmillref58_Check.l0 k (n : Int) a0 a1 a2 a3 l a5 = some (checkTail a0 l) := by
  induction d with
  | zero =>
    intro n k hn hk hp
    obtain ⟨k, rfl⟩ : ∃ m, k = m + 1 := ⟨k - 1, by omega⟩
    have hall := hp.all (by omega)
    simp only [sawmillref58_Check.l0]
    rw [if_neg (by omega), r_shaped a0 a1 a2 a3 l a5 h1 h2 hl hall, Option.bind_some]
    unfold checkTail
    rw [if_pos hall]
    by_cases h : kFits a0 l = true
    · rw [if_pos h, if_pos h]
    · rw [if_neg h, if_neg h]
  | succ d ih =>
    intro n k hn hk hp
    obtain ⟨k, rfl⟩ : ∃ m, k = m + 1 := ⟨k - 1, by omega⟩
    simp only [sawmillref58_Check.l0]
    rw [if_pos (by omega), if_pos (by omega)]
    by_cases h3 : rd l n < -1099511627776
    · rw [if_pos h3]
      unfold checkTail
      rw [not_all (k := n) (by omega) rfl (.inl h3)]
      rfl
    rw [if_neg h3]
    by_cases h4 : rd l n > 1099511627776
    · rw [if_pos h4]
      unfold checkTail
      rw [not_all (k := n) (by omega) rfl (.inr h4)]
      rfl
    rw [if_neg h4, w64 (by omega) (by omega)]
    exact ih (n + 1) k (by omega) (by omega) (hp.succ (by omega) rfl h3 (by omega))
theorem r_check (a0 a1 : Int) (a2 a3 : ByteArray) (l : List Int) (a5 : ByteArray) {k : Nat} (hk : 620 < k) : sawmillref58_Check.f k a0 a1 a2 a3 l a5 = some (checkV a0 a1 a2 a3 l a5) := by
  obtain ⟨k, rfl⟩ : ∃ m, k = m + 1 := ⟨k - 1, by omega⟩
  unfold sawmillref58_Check.f checkV
  by_cases h1 : a0 < 1 ∨ 14 < a0
  · rw [if_pos h1]
    by_cases h : a0 < 1
    · rw [if_pos h]; rfl
    · rw [if_neg h, decide_eq_true (by omega)]; rfl
  rw [if_neg h1, if_neg (by omega), decide_eq_false (by omega)]
  obtain ⟨k, rfl⟩ : ∃ m, k = m + 1 := ⟨k - 1, by omega⟩
  simp only [sawmillref58_Check.j0]
  rw [if_neg (by simp)]
  have ht : sawmillref07_IsTime.f a1 = some (decide (0 ≤ a1 ∧ a1 ≤ 10000000)) := by unfold sawmillref07_IsTime.f; split <;> simp [*]
  rw [ht, Option.bind_some]
  by_cases h2 : a1 < 0 ∨ 10000000 < a1
  · rw [if_pos h2, if_neg (by simp; omega)]
  rw [if_neg h2, if_pos (by simp; omega), show k + 1 = (k - 1) + 2 by omega, r_codes a0 (by omega) (by omega), Option.bind_some]
  simp only []
  rw [r_code _ _ (by omega), Option.bind_some]
  have key : ∀ b : Bool, b = (codeB a2 (kItem a0) && codeB a3 (kOf a0)) → sawmillref58_Check.j1 ((k - 1) + 2) (!b) a0 a1 a2 a3 l a5 = some (if codeB a2 (kItem a0) = true ∧ codeB a3 (kOf a0) = true then (if 600 < (l.length : Int) ∨ 16384 < (a5.size : Int) then 4 else checkTail a0 l) else 6) := by
    intro b hb
    simp only [sawmillref58_Check.j1]
    cases b with
    | false => rw [if_pos (by rfl), if_neg (by intro h; rw [h.1, h.2] at hb; exact absurd hb (by decide))]
    | true =>
      have hh : codeB a2 (kItem a0) = true ∧ codeB a3 (kOf a0) = true := by simpa using hb.symm
      rw [if_neg (by simp), if_pos hh]
      by_cases h6 : 600 < (l.length : Int)
      · rw [if_pos (show (l.length : Int) > 600 from h6), if_pos (show 600 < (l.length : Int) ∨ 16384 < (a5.size : Int) from .inl h6)]; rfl
      · rw [if_neg (show ¬ (l.length : Int) > 600 from h6)]
        show sawmillref58_Check.j2 (k - 1 + 1) _ _ _ _ _ _ _ = _
        simp only [sawmillref58_Check.j2]
        by_cases h7 : 16384 < (a5.size : Int)
        · rw [if_pos (by simp; omega), if_pos (show 600 < (l.length : Int) ∨ 16384 < (a5.size : Int) from .inr h7)]
        · rw [if_neg (by simp; omega), if_neg (show ¬ (600 < (l.length : Int) ∨ 16384 < (a5.size : Int)) by omega)]
          exact r_check_l a0 a1 a2 a3 l a5 (by omega) (by omega) (by omega) l.length 0 (k - 1) (by omega) (by omega) (AllTo.zero l)
  by_cases h4 : codeB a2 (kItem a0) = true
  · rw [if_pos h4, r_code _ _ (by omega), Option.bind_some]
    exact key _ (by rw [h4]; rfl)
  · rw [if_neg h4]
    exact key false (by simp at h4; rw [h4]; rfl)
theorem few_some (a0 a1 : Int) (a2 a3 : ByteArray) (l : List Int) (a5 : ByteArray) : ∃ b, sawmilllaw58_few.f a0 a1 a2 a3 l a5 = some b ∧ (b = true → (l.length : Int) ≤ 700 ∧ (a2.size : Int) ≤ 100 ∧ (a3.size : Int) ≤ 100 ∧ (a5.size : Int) ≤ 16484) := by
  unfold sawmilllaw58_few.f
  by_cases h1 : (l.length : Int) ≤ 700
  · rw [if_pos h1]
    by_cases h2 : (a2.size : Int) ≤ 100
    · rw [if_pos h2]
      by_cases h3 : (a3.size : Int) ≤ 100
      · rw [if_pos h3]
        exact ⟨_, rfl, fun h => ⟨h1, h2, h3, of_decide_eq_true h⟩⟩
      · rw [if_neg h3]; exact ⟨_, rfl, fun h => absurd h (by decide)⟩
    · rw [if_neg h2]; exact ⟨_, rfl, fun h => absurd h (by decide)⟩
  · rw [if_neg h1]; exact ⟨_, rfl, fun h => absurd h (by decide)⟩
end Go.Proofs.YtbahagcidhmojaaDoor.PA
namespace Go.Proofs.YtbahagcidhmojaaDoor.PA
open Go.RowKit Go.Proofs.YtbahagcidhmojaaDoorW.PrintWords
theorem sawmilllaw58_EventChecks.pure : sawmilllaw58_EventChecks.Pure := by
  intro a0 a1 a2 a3 l a5 n hB hw
  obtain ⟨b, hf, -⟩ := few_some a0 a1 a2 a3 l a5
  refine ⟨800, ?_⟩
  unfold sawmilllaw58_EventChecks.f
  rw [hf, Option.bind_some]
  cases b with
  | false => rw [if_neg (by simp), awake_ge (by omega)]; rfl
  | true =>
    rw [if_pos rfl, p_check _ _ _ _ _ _ (by omega), Option.bind_some, r_check _ _ _ _ _ _ (by omega), Option.bind_some, if_pos rfl]
    unfold event_Name.f
    rw [Option.bind_some, r_name n hw, Option.bind_some, if_pos rfl, awake_ge (by omega)]
    rfl
end Go.Proofs.YtbahagcidhmojaaDoor.PA
