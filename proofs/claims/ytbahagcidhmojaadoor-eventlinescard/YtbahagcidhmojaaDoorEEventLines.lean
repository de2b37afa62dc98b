/- The plain laws: numbers, strings and lists. -/
import Derived.Test.YtbahagcidhmojaaDoorCEventLines6
import Derived.ChangeArms
import Derived.ChangeSame
import Derived.DataElems
import Derived.DataReads
import Derived.WideShapes
import Derived.Lib.ItoaNum
import Derived.Laws.BitsAllLaws
import Derived.Laws.BitsLemmas
import Derived.Laws.DeepNot64
import Derived.KernelRfl
import Derived.Laws.Strings
namespace Go.Proofs.YtbahagcidhmojaaDoorW.PrintWords
open Go.RowKit
def Opens (P : Program) (t : TypeId) {α : Type} (d : Kd α) (B : α → Prop) : Prop :=
  ∀ (H : Type) (enc : TypeId × Value → H) (W : World) (fuel : Nat) (cs : List Value) (x : DataW H × List MemPlace), DataW.trod enc P W 0 (fun _ => true) true fuel t cs = some x → ∃ a, d.K W a cs ∧ B a
theorem choose_list {α : Type} {p : Nat → α → Prop} : ∀ n : Nat, (∀ i, i < n → ∃ a, p i a) → ∃ l : List α, l.length = n ∧ ∀ i a, l[i]? = some a → p i a
  | 0, _ => ⟨[], rfl, fun i a h => by simp at h⟩
  | n + 1, h => by
    obtain ⟨l, hl, hp⟩ := choose_list n (fun i hi => h i (by omega))
    obtain ⟨a, ha⟩ := h n (by omega)
    refine ⟨l ++ [a], by simp [hl], fun i b hb => ?_⟩
    by_cases hi : i < l.length
    · rw [List.getElem?_append_left hi] at hb
      exact hp i b hb
    · rw [List.getElem?_append_right (by omega)] at hb
      obtain rfl : i = n := by
        have := (List.getElem?_eq_some_iff.1 hb).1
        simp at this
        omega
      rw [hl, Nat.sub_self] at hb
      simp at hb
      subst hb
      exact ha
section
variable {P : Program} {t : TypeId}
theorem opens_int {k : IntKind} (ht : P.underlying t = some (.int k)) : Opens P t (Kd.int k) (fun a => (Lit.int k a).wf = true) := by
  intro H enc W fuel cs x h
  obtain ⟨n, rfl, -, hw⟩ := DataW.trod_int ht h
  exact ⟨n, rfl, hw⟩
theorem opens_string (ht : P.underlying t = some .string) : Opens P t Kd.string (fun a => a.size ≤ maxLen) := by
  intro H enc W fuel cs x h
  obtain ⟨s, rfl, -, hs⟩ := DataW.trod_string ht h
  exact ⟨s, rfl, hs⟩
theorem opens_slice (e q : TypeId) {α : Type} {d : Kd α} {B : α → Prop} (ht : P.underlying t = some (.slice e)) (hc : P.cellsOf e = d.sz) (he : Opens P e d B) : Opens P t (Kd.slice q d) (fun l => l.length ≤ maxLen ∧ ∀ a ∈ l, B a) := by
  intro H enc W fuel cs x h
  rcases DataW.trod_slice ht h with ⟨rfl, -⟩ | ⟨ad, len, cap, elems, rest, n, -, rfl, -, -, hlen, hcap, hel, helem, -, -⟩
  · exact ⟨[], ⟨none, 0, rfl, Nat.le_refl _, rfl, Nat.zero_le _, fun h => absurd h (Nat.lt_irrefl 0)⟩, Nat.zero_le _, fun a ha => by simp at ha⟩
  · have key : ∀ i, i < len → ∃ a, B a ∧ ∃ c, c.length = d.sz ∧ d.K W a c ∧ ∀ j u, c[j]? = some u → W.cell? (ad.add (i * d.sz + j)) = some u := by
      intro i hi
      have h1 := helem i hi
      rw [List.getElem?_eq_getElem (by omega)] at h1
      obtain ⟨c, hcs, htr⟩ := Option.bind_eq_some_iff.mp h1
      obtain ⟨a, hK, hB⟩ := he H enc W n c _ htr
      refine ⟨a, hB, c, d.K_len hK, hK, fun j u hj => ?_⟩
      obtain ⟨-, -, hs⟩ := World.cells?_some hcs
      have hjl : j < P.cellsOf e := by rw [hc, ← d.K_len hK]; exact (List.getElem?_eq_some_iff.1 hj).1
      rw [← hc, ← Addr.add_add, hs j hjl, hj]
    obtain ⟨l, hl, hp⟩ := choose_list len key
    have hle : l.length ≤ maxLen := by omega
    refine ⟨l, ⟨some ad, cap, by rw [hl], by omega, rfl, hle, fun _ => ⟨ad, rfl, fun j p hj => ?_⟩⟩, hle, fun a ha => ?_⟩
    · obtain ⟨-, c, h1, h2, h3⟩ := hp j p hj
      exact ⟨c, h1, h2, h3⟩
    · obtain ⟨i, hi, rfl⟩ := List.getElem_of_mem ha
      exact (hp i _ (List.getElem?_eq_getElem hi)).1
def FOpens (P : Program) (fs : List Field) (off : Nat) {α : Type} (d : Kd α) (B : α → Prop) : Prop :=
  ∀ (H : Type) (enc : TypeId × Value → H) (W : World) (n : Nat) (cs : List Value), off + d.sz = cs.length →
    (∀ (i : Nat) (f : Field), fs[i]? = some f → ∃ y, DataW.trod enc P W 0 (fun _ => true) true n f.type ((cs.drop f.offset).take (P.cellsOf f.type)) = some y) → ∃ a, d.K W a (cs.drop off) ∧ B a
theorem fo_last {f : Field} {off : Nat} {α : Type} {d : Kd α} {B : α → Prop} (ho : f.offset = off) (hc : P.cellsOf f.type = d.sz) (h : Opens P f.type d B) : FOpens P [f] off d B := by
  intro H enc W n cs hl hf
  obtain ⟨y, hy⟩ := hf 0 f rfl
  rw [ho, hc, List.take_of_length_le (by rw [List.length_drop]; omega)] at hy
  exact h H enc W n _ _ hy
theorem fo_cons {f : Field} {fs : List Field} {off : Nat} {α β : Type} {d : Kd α} {d' : Kd β} {B : α → Prop} {B' : β → Prop} (ho : f.offset = off) (hc : P.cellsOf f.type = d.sz) (h : Opens P f.type d B) (hr : FOpens P fs (off + d.sz) d' B') :
    FOpens P (f :: fs) off (Kd.pair d d') (fun a => B a.1 ∧ B' a.2) := by
  intro H enc W n cs hl hf
  have hl' : off + (d.sz + d'.sz) = cs.length := hl
  obtain ⟨y, hy⟩ := hf 0 f rfl
  rw [ho, hc] at hy
  obtain ⟨a, hK, hB⟩ := h H enc W n _ _ hy
  obtain ⟨b, hK', hB'⟩ := hr H enc W n cs (by omega) (fun i g hg => hf (i + 1) g (by simpa using hg))
  refine ⟨(a, b), ⟨(cs.drop off).take d.sz, cs.drop (off + d.sz), ?_, hK, hK'⟩, hB, hB'⟩
  rw [← List.drop_drop]
  exact (List.take_append_drop _ _).symm
theorem opens_struct {fs : Array Field} {l : List Field} {α β : Type} {d : Kd α} {B : α → Prop} (ht : P.underlying t = some (.struct fs)) (hl : fs.toList = l) (hc : P.cellsOf t = d.sz) (h : FOpens P l 0 d B) (g : β → α) (inv : α → β) (hg : ∀ a, g (inv a) = a) :
    Opens P t (Kd.iso d g) (fun b => B (g b)) := by
  subst hl
  intro H enc W fuel cs x hx
  obtain ⟨xs, n, -, -, hlen, hxs, hf⟩ := DataW.trod_struct ht hx
  obtain ⟨a, hK, hB⟩ := h H enc W n cs (by rw [hlen, hc, Nat.zero_add]) (fun i f hif => by
    have hif' : fs[i]? = some f := by simpa using hif
    have hi : i < xs.length := by rw [hxs]; exact (Array.getElem?_eq_some_iff.1 hif').1
    exact ⟨xs[i], (hf i f hif').trans (List.getElem?_eq_getElem hi)⟩)
  exact ⟨inv a, by show d.K W (g (inv a)) cs; rw [hg]; exact hK, by show B (g (inv a)); rw [hg]; exact hB⟩
end
end Go.Proofs.YtbahagcidhmojaaDoorW.PrintWords
namespace Go.Proofs.YtbahagcidhmojaaDoor.PA
open Go.RowKit Go.Proofs.YtbahagcidhmojaaDoorW.PrintWords
set_option linter.unusedVariables false
def B24 (x : S24) : Prop := (Lit.int .i64 x.f0).wf = true ∧ (Lit.int .i64 x.f1).wf = true ∧ x.f2.size ≤ maxLen ∧ x.f3.size ≤ maxLen ∧ (x.f4.length ≤ maxLen ∧ ∀ a ∈ x.f4, (Lit.int .i64 a).wf = true) ∧ x.f5.size ≤ maxLen
theorem opens24 : Opens Tryd.prog 24 k24 B24 := by
  have h := opens_struct Tryd.underlying24 rfl (by kernel_rfl) (fo_cons rfl (by kernel_rfl) (opens_int Tryd.underlying3) (fo_cons rfl (by kernel_rfl) (opens_int Tryd.underlying3) (fo_cons rfl (by kernel_rfl) (opens_string Tryd.underlying9) (fo_cons rfl (by kernel_rfl) (opens_string Tryd.underlying9) (fo_cons rfl (by kernel_rfl) (opens_slice 3 3 Tryd.underlying22 (by kernel_rfl) (opens_int Tryd.underlying3)) (fo_last rfl (by kernel_rfl) (opens_string Tryd.underlying9))))))) (fun x : S24 => (x.f0, x.f1, x.f2, x.f3, x.f4, x.f5)) (fun y => ⟨y.1, y.2.1, y.2.2.1, y.2.2.2.1, y.2.2.2.2.1, y.2.2.2.2.2⟩) (fun _ => rfl)
  exact h
def sawmilllaw58_EventLines.Pure : Prop := ∀ (a0_0 : Int) (a0_1 : Int) (a0_2 : ByteArray) (a0_3 : ByteArray) (l0_4 : List Int) (a0_5 : ByteArray) (a1_0 : Int) (a1_1 : Int) (a1_2 : ByteArray) (a1_3 : ByteArray) (l1_4 : List Int) (a1_5 : ByteArray), B24 (⟨a0_0, a0_1, a0_2, a0_3, l0_4, a0_5⟩ : S24) → B24 (⟨a1_0, a1_1, a1_2, a1_3, l1_4, a1_5⟩ : S24) → ∃ k, sawmilllaw58_EventLines.f k a0_0 a0_1 a0_2 a0_3 l0_4 a0_5 a1_0 a1_1 a1_2 a1_3 l1_4 a1_5 = some true
end Go.Proofs.YtbahagcidhmojaaDoor.PA
namespace Go.Proofs.YtbahagcidhmojaaDoor.PA
open Go.RowKit Go.Proofs.YtbahagcidhmojaaDoorW.PrintWords
set_option linter.unusedVariables false
theorem dw64 {n : Int} (h0 : -9223372036854775808 ≤ n) (h1 : n ≤ 9223372036854775807) : wrap64 n = n := by unfold wrap64; omega
theorem dwu64 {n : Int} (h0 : 0 ≤ n) (h1 : n < 18446744073709551616) : IntKind.u64.wrap n = n := by
  have : IntKind.u64.wrap n = n % 18446744073709551616 := by simp [IntKind.wrap, IntKind.bits, IntKind.signed]
  omega
def itS (n : Int) : ByteArray := ⟨(Lib.itoa n).toArray⟩
def dcS (u : Nat) : ByteArray := ⟨(Lib.decDigits u).toArray⟩
theorem dc_len : ∀ (d u : Nat), u < 10 ^ (d + 1) → (Lib.decDigits u).length ≤ d + 1
  | 0, u, h => by rw [Lib.decDigits_one (by simpa using h)]; simp
  | d + 1, u, h => by
    by_cases hu : u < 10
    · rw [Lib.decDigits_one hu]; simp
    · rw [Lib.decDigits, dif_neg hu, List.length_append]
      have := dc_len d (u / 10) (by rw [Nat.pow_succ] at h; omega)
      simp only [List.length_cons, List.length_nil]
      omega
theorem dc_size (u : Nat) : (dcS u).size = (Lib.decDigits u).length := by simp [dcS, ByteArray.size]
theorem dc_size20 {u : Nat} (h : u < 18446744073709551616) : (dcS u).size ≤ 20 := by
  rw [dc_size]
  exact dc_len 19 u (by omega)
theorem it_size {n : Int} (h0 : -9223372036854775808 ≤ n) (h1 : n ≤ 9223372036854775807) : (itS n).size ≤ 21 := by
  unfold itS Lib.itoa
  split
  · have := dc_len 19 n.natAbs (by omega)
    simp only [ByteArray.size, List.size_toArray, List.length_cons]
    omega
  · have := dc_len 19 n.toNat (by omega)
    simp only [ByteArray.size, List.size_toArray]
    omega
theorem dc_digit : ∀ u : Fin 10, (⟨#[48, 49, 50, 51, 52, 53, 54, 55, 56, 57]⟩ : ByteArray).extract u.val (u.val + 1) = ⟨[UInt8.ofNat (48 + u.val)].toArray⟩ := by decide +kernel
theorem nat_small {u k : Nat} (h : u < 10) (hk : 1 ≤ k) {x : Int} (hx : x = u) : sawmillref06_natural.f k x = some (dcS u) := by
  obtain ⟨k, rfl⟩ : ∃ j, k = j + 1 := ⟨k - 1, by omega⟩
  unfold sawmillref06_natural.f
  rw [if_pos (by omega), if_pos (by omega), dwu64 (n := x + 1) (by omega) (by omega), if_pos (by omega), if_pos (by omega)]
  have h1 : x.toNat = u := by omega
  have h2 : (x + 1).toNat = u + 1 := by omega
  rw [h1, h2, dc_digit ⟨u, h⟩, dcS, Lib.decDigits_one h]
theorem dcS_step {u : Nat} (h : ¬ u < 10) : dcS u = dcS (u / 10) ++ dcS (u % 10) := by
  unfold dcS
  rw [Lib.decDigits, dif_neg h, Lib.decDigits_one (show u % 10 < 10 by omega)]
  apply ByteArray.ext
  simp
theorem nat_l : ∀ (d u k : Nat) (x : Int), x = u → u < 18446744073709551616 → u < 10 ^ (d + 1) → d < k → sawmillref06_natural.f k x = some (dcS u)
  | 0, u, k, x, hx, h64, h, hk => nat_small (by simpa using h) hk hx
  | d + 1, u, k, x, hx, h64, h, hk => by
    by_cases hu : u < 10
    · exact nat_small hu (by omega) hx
    · obtain ⟨k, rfl⟩ : ∃ j, k = j + 1 := ⟨k - 1, by omega⟩
      unfold sawmillref06_natural.f
      have e1 : Int.tdiv x 10 = ((u / 10 : Nat) : Int) := by rw [hx, Int.tdiv_eq_ediv_of_nonneg (by omega)]; omega
      have e2 : Int.tmod x 10 = ((u % 10 : Nat) : Int) := by rw [hx, Int.tmod_eq_emod_of_nonneg (by omega)]; omega
      have hd : u / 10 < 10 ^ (d + 1) := by rw [Nat.pow_succ] at h; omega
      rw [if_neg (by omega), e1, e2, dwu64 (by omega) (by omega), nat_l d (u / 10) k _ rfl (by omega) hd (by omega), Option.bind_some, nat_small (show u % 10 < 10 by omega) (by omega) rfl, Option.bind_some]
      have s1 := dc_size20 (u := u / 10) (by omega)
      have s2 := dc_size20 (u := u % 10) (by omega)
      rw [if_pos (by omega), ← dcS_step hu]
theorem r_natural {u k : Nat} (h : u < 18446744073709551616) (hk : 20 ≤ k) {x : Int} (hx : x = u) : sawmillref06_natural.f k x = some (dcS u) :=
  nat_l 19 u k x hx h (by omega) hk
theorem r_digits {n : Int} (h0 : -9223372036854775808 ≤ n) (h1 : n ≤ 9223372036854775807) {k : Nat} (hk : 20 ≤ k) : sawmillref06_Digits.f k n = some (itS n) := by
  unfold sawmillref06_Digits.f
  by_cases h : n < 0
  · rw [if_pos h, dw64 (n := n + 1) (by omega) (by omega), dw64 (n := -(n + 1)) (by omega) (by omega), dwu64 (n := -(n + 1)) (by omega) (by omega), dwu64 (by omega) (by omega), r_natural (u := n.natAbs) (by omega) hk (by omega), Option.bind_some]
    have s1 := dc_size20 (u := n.natAbs) (by omega)
    rw [if_pos (by omega)]
    unfold itS Lib.itoa dcS
    rw [if_pos h]
    congr 1
  · rw [if_neg h, dwu64 (by omega) (by omega), r_natural (u := n.toNat) (by omega) hk (by omega), Option.bind_some]
    unfold itS Lib.itoa dcS
    rw [if_neg h]
theorem p_itoa {n : Int} (h0 : -9223372036854775808 ≤ n) (h1 : n ≤ 9223372036854775807) : strconv_Itoa.f n = some (itS n) := by
  unfold strconv_Itoa.f itS
  rw [if_pos ⟨h0, h1⟩]
def rdg (u : Nat) : List Int := if u < 10 then [((48 + u : Nat) : Int)] else ((48 + u % 10 : Nat) : Int) :: rdg (u / 10)
termination_by u
decreasing_by omega
theorem rdg_rev (u : Nat) : (rdg u).reverse = (Lib.decDigits u).map fun b => (b.toNat : Int) := by
  induction u using Nat.strongRecOn with
  | _ u ih =>
    by_cases h : u < 10
    · rw [rdg, if_pos h, Lib.decDigits_one h]
      simp only [List.reverse_cons, List.reverse_nil, List.nil_append, List.map_cons, List.map_nil, UInt8.toNat_ofNat']
      rw [Nat.mod_eq_of_lt (show 48 + u < 2 ^ 8 by omega)]
    · rw [rdg, if_neg h, Lib.decDigits, dif_neg h, List.reverse_cons, ih (u / 10) (by omega), List.map_append]
      simp only [List.map_cons, List.map_nil, UInt8.toNat_ofNat']
      rw [Nat.mod_eq_of_lt (show 48 + u % 10 < 2 ^ 8 by omega)]
theorem dc_str (u : Nat) : strOfNums ((rdg u).reverse) = dcS u := by
  have e : ((fun n : Int => UInt8.ofNat n.toNat) ∘ fun b : UInt8 => (b.toNat : Int)) = id := by
    funext b
    simp
  unfold strOfNums dcS
  rw [rdg_rev, List.map_map, e, List.map_id]
theorem dec_out : ∀ (n k : Nat) (xs acc : List Int) (i : Int), i = (n : Int) - 1 → n ≤ xs.length → acc.length + n ≤ 1000000 → n < k → sawmillref01_Decimal.l1 k xs acc i = some (strOfNums (acc ++ (xs.take n).reverse))
  | 0, k, xs, acc, i, hi, hn, ha, hk => by
    obtain ⟨k, rfl⟩ : ∃ j, k = j + 1 := ⟨k - 1, by omega⟩
    unfold sawmillref01_Decimal.l1
    rw [if_neg (by omega)]
    simp
  | n + 1, k, xs, acc, i, hi, hn, ha, hk => by
    obtain ⟨k, rfl⟩ : ∃ j, k = j + 1 := ⟨k - 1, by omega⟩
    unfold sawmillref01_Decimal.l1
    rw [if_pos (by omega), if_pos (by omega), if_pos (by omega), if_pos (by omega), dw64 (by omega) (by omega), dec_out n k xs (acc ++ [rd xs i]) (i - 1) (by omega) (by omega) (by simp; omega) (by omega)]
    have e : rd xs i = xs[n] := by
      unfold rd
      rw [show i.toNat = n by omega, List.getD_eq_getElem?_getD, List.getElem?_eq_getElem (by omega)]
      rfl
    have e2 : (xs.take (n + 1)).reverse = xs[n] :: (xs.take n).reverse := by
      rw [List.take_add_one, List.getElem?_eq_getElem (by omega)]
      simp only [Option.toList_some, List.reverse_append, List.reverse_cons, List.reverse_nil, List.nil_append, List.singleton_append]
    rw [e, e2, List.append_assoc]
    rfl
theorem dec_fin {k : Nat} {x0 x8 : Int} {xs : List Int} (h0 : 0 ≤ x0) (h8 : 1 ≤ x8) (hx : xs.length ≤ 1000) (hk : xs.length + 4 ≤ k) : sawmillref01_Decimal.l0 k x0 0 0 xs x8 = some (strOfNums xs.reverse) := by
  obtain ⟨k, rfl⟩ : ∃ j, k = j + 3 := ⟨k - 3, by omega⟩
  unfold sawmillref01_Decimal.l0
  rw [if_neg (by omega), decide_eq_false (by omega)]
  unfold sawmillref01_Decimal.j1
  rw [if_neg (by simp), if_neg (by omega)]
  simp only [sawmillref01_Decimal.j2]
  rw [dec_out xs.length k xs [] _ (by rw [dw64 (by omega) (by omega)]) (Nat.le_refl _) (by simp; omega) (by omega)]
  simp
theorem dec_step {k : Nat} {x0 x8 x6 : Int} {u : Nat} {acc : List Int} (hx6 : x6 = u) (h : 0 < u ∨ x8 = 0) (hx8 : 0 ≤ x8) (h8 : x8 ≤ 1000) (hu : u < 18446744073709551616) (ha : acc.length ≤ 1000) :
    sawmillref01_Decimal.l0 (k + 2) x0 0 x6 acc x8 = sawmillref01_Decimal.l0 k x0 0 ((u / 10 : Nat) : Int) (acc ++ [((48 + u % 10 : Nat) : Int)]) (x8 + 1) := by
  have key : sawmillref01_Decimal.l0 (k + 2) x0 0 x6 acc x8 = sawmillref01_Decimal.j1 (k + 1) x0 0 x6 acc x8 true := by
    conv => lhs; unfold sawmillref01_Decimal.l0
    by_cases hz : x6 > 0
    · rw [if_pos hz]
    · rw [if_neg hz, decide_eq_true (by omega)]
  have e1 : Int.tdiv x6 10 = ((u / 10 : Nat) : Int) := by rw [hx6, Int.tdiv_eq_ediv_of_nonneg (by omega)]; omega
  have e2 : Int.tmod x6 10 = ((u % 10 : Nat) : Int) := by rw [hx6, Int.tmod_eq_emod_of_nonneg (by omega)]; omega
  have e3 : IntKind.u64.wrap (48 + ((u % 10 : Nat) : Int)) % 256 = ((48 + u % 10 : Nat) : Int) := by rw [dwu64 (by omega) (by omega)]; omega
  rw [key]
  conv => lhs; unfold sawmillref01_Decimal.j1
  rw [if_pos rfl]
  by_cases hz : x8 = 0
  · rw [if_pos hz, if_neg (by omega), if_pos (by omega), e1, e2, e3, dwu64 (by omega) (by omega), dw64 (by omega) (by omega)]
  · rw [if_neg hz, if_pos (by omega), e1, e2, e3, dwu64 (by omega) (by omega), dw64 (by omega) (by omega)]
theorem dec_l : ∀ (d u k : Nat) (x0 x8 x6 : Int) (acc : List Int), x6 = u → (0 < u ∨ x8 = 0) → 0 ≤ x8 → x8 + d ≤ 900 → 0 ≤ x0 → u < 18446744073709551616 → u < 10 ^ (d + 1) → acc.length + d ≤ 900 → 3 * d + acc.length + 10 ≤ k →
    sawmillref01_Decimal.l0 k x0 0 x6 acc x8 = some (strOfNums ((acc ++ rdg u).reverse)) := by
  intro d
  induction d with
  | zero =>
    intro u k x0 x8 x6 acc hx6 h hx8 h8 h0 h64 hu ha hk
    obtain ⟨k, rfl⟩ : ∃ j, k = j + 2 := ⟨k - 2, by omega⟩
    have hu' : u < 10 := by simpa using hu
    rw [dec_step hx6 h hx8 (by omega) h64 (by omega), show ((u / 10 : Nat) : Int) = 0 by omega]
    rw [dec_fin (k := k) h0 (by omega) (by simp; omega) (by simp; omega), rdg, if_pos hu', show u % 10 = u by omega]
  | succ d ih =>
    intro u k x0 x8 x6 acc hx6 h hx8 h8 h0 h64 hu ha hk
    obtain ⟨k, rfl⟩ : ∃ j, k = j + 2 := ⟨k - 2, by omega⟩
    by_cases hu' : u < 10
    · rw [dec_step hx6 h hx8 (by omega) h64 (by omega), show ((u / 10 : Nat) : Int) = 0 by omega]
      rw [dec_fin (k := k) h0 (by omega) (by simp; omega) (by simp; omega), rdg, if_pos hu', show u % 10 = u by omega]
    · rw [dec_step hx6 h hx8 (by omega) h64 (by omega), ih (u / 10) k x0 (x8 + 1) _ _ rfl (by omega) (by omega) (by omega) h0 (by omega) (by rw [Nat.pow_succ] at hu; omega) (by simp; omega) (by simp; omega), rdg.eq_def u, if_neg hu']
      simp
theorem r_decimal {n : Int} (h0 : 0 ≤ n) (h1 : n ≤ 9223372036854775807) {k : Nat} (hk : 80 ≤ k) : sawmillref01_Decimal.f k n 0 = some (dcS n.toNat) := by
  unfold sawmillref01_Decimal.f
  have hc : sawmillref01_Clamp.f k 0 0 9 = some 0 := by
    obtain ⟨k, rfl⟩ : ∃ j, k = j + 1 := ⟨k - 1, by omega⟩
    rfl
  have hs : sawmillref01_size.f n = some n := by
    unfold sawmillref01_size.f
    rw [if_neg (by omega), dwu64 (by omega) (by omega)]
  rw [hc, Option.bind_some, hs, Option.bind_some, dec_l 19 n.toNat k n 0 n [] (by omega) (Or.inr rfl) (by omega) (by omega) h0 (by omega) (by omega) (by simp) (by simp; omega), List.nil_append, dc_str]
def tw (n : Int) : ByteArray := strOfNums [48 + n / 10, 48 + n % 10]
theorem p_two {n : Int} (h0 : 0 ≤ n) (h1 : n < 100) : clock_two.f n = some (tw n) := by
  unfold clock_two.f tw
  rw [Int.tdiv_eq_ediv_of_nonneg h0, Int.tmod_eq_emod_of_nonneg h0, dw64 (n := n / 10) (by omega) (by omega), dw64 (by omega) (by omega), dw64 (by omega) (by omega), show (48 + n / 10) % 256 = 48 + n / 10 by omega, show (48 + n % 10) % 256 = 48 + n % 10 by omega]
theorem r_two {n : Int} (h0 : 0 ≤ n) (h1 : n < 100) : sawmillref07_two.f n = some (tw n) := p_two h0 h1
theorem tw_size (n : Int) : (tw n).size = 2 := by unfold tw; rw [strOfNums_size]; rfl
def fmtV (a : Int) : ByteArray := ((((⟨#[100]⟩ : ByteArray) ++ dcS (a / 1440).toNat ++ (⟨#[32]⟩ : ByteArray)) ++ tw (a % 1440 / 60)) ++ (⟨#[58]⟩ : ByteArray)) ++ tw (a % 60)
theorem dc_it {n : Int} (h : 0 ≤ n) : itS n = dcS n.toNat := by unfold itS dcS Lib.itoa; rw [if_neg (by omega)]
theorem one_size (x : UInt8) : (⟨#[x]⟩ : ByteArray).size = 1 := rfl
theorem fmt_size {a : Int} (h0 : 0 ≤ a) (h1 : a ≤ 10000000) : (fmtV a).size ≤ 30 := by
  unfold fmtV
  have := dc_size20 (u := (a / 1440).toNat) (by omega)
  simp only [ByteArray.size_append, tw_size, one_size]
  omega
theorem p_format {a : Int} (h0 : 0 ≤ a) (h1 : a ≤ 10000000) : clock_Format.f a = some (fmtV a) := by
  have hd := dc_size20 (u := (a / 1440).toNat) (by omega)
  have ht : clock_isTime.f a = some true := by
    unfold clock_isTime.f
    rw [if_pos (by omega), decide_eq_true (by omega)]
  unfold clock_Format.f
  rw [ht, Option.bind_some, if_pos rfl, Int.tdiv_eq_ediv_of_nonneg h0, dw64 (n := a / 1440) (by omega) (by omega), p_itoa (by omega) (by omega), Option.bind_some, dc_it (by omega)]
  rw [if_pos (by omega), if_pos (by simp only [ByteArray.size_append, one_size]; omega), Int.tmod_eq_emod_of_nonneg h0, Int.tdiv_eq_ediv_of_nonneg (by omega), dw64 (n := a % 1440 / 60) (by omega) (by omega), p_two (by omega) (by omega), Option.bind_some]
  rw [if_pos (by simp only [ByteArray.size_append, one_size, tw_size]; omega), if_pos (by simp only [ByteArray.size_append, one_size, tw_size]; omega), Int.tmod_eq_emod_of_nonneg h0, p_two (by omega) (by omega), Option.bind_some, if_pos (by simp only [ByteArray.size_append, one_size, tw_size]; omega)]
  rfl
theorem r_format {a : Int} (h0 : 0 ≤ a) (h1 : a ≤ 10000000) {k : Nat} (hk : 80 ≤ k) : sawmillref07_Format.f k a = some (fmtV a) := by
  have hd := dc_size20 (u := (a / 1440).toNat) (by omega)
  have ht : sawmillref07_IsTime.f a = some true := by
    unfold sawmillref07_IsTime.f
    rw [if_pos (by omega), decide_eq_true (by omega)]
  unfold sawmillref07_Format.f
  rw [ht, Option.bind_some, if_pos rfl, Int.tdiv_eq_ediv_of_nonneg h0, dw64 (n := a / 1440) (by omega) (by omega), r_decimal (by omega) (by omega) hk, Option.bind_some]
  rw [if_pos (by omega), if_pos (by simp only [ByteArray.size_append, one_size]; omega), Int.tmod_eq_emod_of_nonneg h0, Int.tdiv_eq_ediv_of_nonneg (by omega), dw64 (n := a % 1440 / 60) (by omega) (by omega), r_two (by omega) (by omega), Option.bind_some]
  rw [if_pos (by simp only [ByteArray.size_append, one_size, tw_size]; omega), if_pos (by simp only [ByteArray.size_append, one_size, tw_size]; omega), Int.tmod_eq_emod_of_nonneg h0, r_two (by omega) (by omega), Option.bind_some, if_pos (by simp only [ByteArray.size_append, one_size, tw_size]; omega)]
  rfl
end Go.Proofs.YtbahagcidhmojaaDoor.PA
namespace Go.Proofs.YtbahagcidhmojaaDoor.PA
open Go.RowKit Go.Proofs.YtbahagcidhmojaaDoorW.PrintWords
set_option linter.unusedVariables false
def enc (n : Nat) : List Int := if n < 128 then [(n : Int)] else (((128 + n % 128 : Nat) : Int)) :: enc (n / 128)
termination_by n
decreasing_by omega
end Go.Proofs.YtbahagcidhmojaaDoor.PA
namespace Go.Proofs.YtbahagcidhmojaaDoor.PA
open Go.RowKit Go.Proofs.YtbahagcidhmojaaDoorW.PrintWords
set_option linter.unusedVariables false
def In64 (n : Int) : Prop := -9223372036854775808 ≤ n ∧ n ≤ 9223372036854775807
theorem rd_append (l m : List Int) (i : Int) (h : i = l.length) (x : Int) : rd (l ++ x :: m) i = x := by
  subst h
  simp [rd]
end Go.Proofs.YtbahagcidhmojaaDoor.PA
namespace Go.Proofs.YtbahagcidhmojaaDoor.PA
open Go.RowKit Go.Proofs.YtbahagcidhmojaaDoorW.PrintWords
set_option linter.unusedVariables false
theorem w64 {n : Int} (h0 : -9223372036854775808 ≤ n) (h1 : n ≤ 9223372036854775807) : wrap64 n = n := by unfold wrap64; omega
theorem tmod_pos {a b : Int} (h : 0 ≤ a) : Int.tmod a b = a % b := Int.tmod_eq_emod_of_nonneg h
def letSum (s : ByteArray) : Nat → Int
  | 0 => 0
  | n + 1 => (letSum s n + ((n : Int) + 1) * bt s n) % 23
theorem letSum_range (s : ByteArray) (n : Nat) : 0 ≤ letSum s n ∧ letSum s n < 23 := by
  cases n with
  | zero => simp [letSum]
  | succ n => unfold letSum; omega
theorem mod_mul (i b : Int) : ((i % 23 + 1) * b) % 23 = ((i + 1) * b) % 23 := by
  rw [Int.mul_emod, Int.add_emod, Int.emod_emod_of_dvd _ (Int.dvd_refl 23), ← Int.add_emod, ← Int.mul_emod]
theorem mod_mul' (i b : Int) : (((i + 1) % 23) * b) % 23 = ((i + 1) * b) % 23 := by
  rw [Int.mul_emod, Int.emod_emod_of_dvd _ (Int.dvd_refl 23), ← Int.mul_emod]
theorem bounded_mul {c b : Int} (hc : 0 ≤ c) (hc' : c ≤ 23) (hb : 0 ≤ b) (hb' : b ≤ 255) : 0 ≤ c * b ∧ c * b ≤ 5865 := by
  constructor
  · exact Int.mul_nonneg hc hb
  · calc c * b ≤ 23 * b := Int.mul_le_mul_of_nonneg_right hc' hb
      _ ≤ 23 * 255 := Int.mul_le_mul_of_nonneg_left hb' (by omega)
theorem id_letter_l (s : ByteArray) (hs : s.size ≤ 1000000) (d : Nat) : ∀ (n k : Nat), n + d = s.size → d < k → ident_Letter.l0 k s (letSum s n) (s.size : Int) n = some (65 + letSum s s.size) := by
  induction d with
  | zero =>
    intro n k hn hk
    obtain ⟨k, rfl⟩ : ∃ m, k = m + 1 := ⟨k - 1, by omega⟩
    simp only [ident_Letter.l0]
    rw [if_neg (by omega)]
    have h := letSum_range s n
    obtain rfl : n = s.size := by omega
    congr 1
    omega
  | succ d ih =>
    intro n k hn hk
    obtain ⟨k, rfl⟩ : ∃ m, k = m + 1 := ⟨k - 1, by omega⟩
    have h := letSum_range s n
    have hb := bt_range s n
    have hm := bounded_mul (c := (n : Int) % 23 + 1) (b := bt s n) (by omega) (by omega) hb.1 hb.2
    simp only [ident_Letter.l0]
    rw [if_pos (by omega), if_pos (by omega), if_pos (by omega), tmod_pos (a := (n : Int)) (by omega), w64 (n := (n : Int) % 23 + 1) (by omega) (by omega), w64 (n := bt s n) (by omega) (by omega), w64 (n := ((n : Int) % 23 + 1) * bt s n) (by omega) (by omega), w64 (n := letSum s n + _) (by omega) (by omega), tmod_pos (by omega), w64 (n := (n : Int) + 1) (by omega) (by omega)]
    have e : (letSum s n + ((n : Int) % 23 + 1) * bt s n) % 23 = letSum s (n + 1) := by
      show _ = (letSum s n + ((n : Int) + 1) * bt s n) % 23
      rw [Int.add_emod, mod_mul, ← Int.add_emod]
    rw [e]
    exact ih (n + 1) k (by omega) (by omega)
theorem id_letter (s : ByteArray) (hs : s.size ≤ 1000000) {k : Nat} (hk : s.size < k) : ident_Letter.f k s = some (65 + letSum s s.size) :=
  id_letter_l s hs s.size 0 k (by omega) hk
theorem r_letter_l (s : ByteArray) (hs : s.size ≤ 1000000) (d : Nat) : ∀ (n k : Nat), n + d = s.size → d < k → sawmillref02_Letter.l0 k s (letSum s n) n = some (65 + letSum s s.size) := by
  induction d with
  | zero =>
    intro n k hn hk
    obtain ⟨k, rfl⟩ : ∃ m, k = m + 1 := ⟨k - 1, by omega⟩
    simp only [sawmillref02_Letter.l0]
    have h := letSum_range s n
    obtain rfl : n = s.size := by omega
    rw [if_neg (by omega), w64 (by omega) (by omega)]
    congr 1
    omega
  | succ d ih =>
    intro n k hn hk
    obtain ⟨k, rfl⟩ : ∃ m, k = m + 1 := ⟨k - 1, by omega⟩
    have h := letSum_range s n
    have hb := bt_range s n
    have hm := bounded_mul (c := ((n : Int) + 1) % 23) (b := bt s n) (by omega) (by omega) hb.1 hb.2
    simp only [sawmillref02_Letter.l0]
    rw [if_pos (by omega), if_pos (by omega), w64 (n := (n : Int) + 1) (by omega) (by omega), tmod_pos (a := (n : Int) + 1) (by omega), w64 (n := bt s n) (by omega) (by omega), w64 (n := ((n : Int) + 1) % 23 * bt s n) (by omega) (by omega), w64 (n := letSum s n + _) (by omega) (by omega), tmod_pos (by omega)]
    have e : (letSum s n + (((n : Int) + 1) % 23) * bt s n) % 23 = letSum s (n + 1) := by
      show _ = (letSum s n + ((n : Int) + 1) * bt s n) % 23
      rw [Int.add_emod, mod_mul', ← Int.add_emod]
    rw [e]
    exact ih (n + 1) k (by omega) (by omega)
theorem r_letter (s : ByteArray) (hs : s.size ≤ 1000000) {k : Nat} (hk : s.size < k) : sawmillref02_Letter.f k s = some (65 + letSum s s.size) :=
  r_letter_l s hs s.size 0 k (by omega) hk
def splitV (s : ByteArray) : Int × Int × Int :=
  if s.size = 8 then (if capB (bt s 0) = true then splitRes s (65 + letSum (s.extract 0 7) 7) else (0, 0, 10)) else (0, 0, 3)
def isV (s : ByteArray) (c : Int) : Bool := if (splitV s).2.2 = 0 then (splitV s).1 == c else false
theorem size7 {s : ByteArray} (h : s.size = 8) : (s.extract 0 7).size = 7 := by rw [ByteArray.size_extract, h]; rfl
theorem id_split (s : ByteArray) {k : Nat} (hk : 7 < k) : ident_Split.f k s = some (splitV s) := by
  unfold ident_Split.f splitV
  by_cases h8 : s.size = 8
  · rw [if_pos (by omega), if_pos h8]
    by_cases hc : capB (bt s 0) = true
    · rw [if_pos hc, if_pos hc, id_letter _ (by rw [size7 h8]; decide) (by rw [size7 h8]; exact hk), size7 h8]
      unfold splitRes
      by_cases hd : allDig s = true
      · simp only [if_pos hd, Option.bind_some]
      · rw [if_neg hd, if_neg hd]
    · rw [if_neg hc, if_neg hc]
  · rw [if_neg (by omega), if_neg h8]
theorem id_is (s : ByteArray) (c : Int) {k : Nat} (hk : 7 < k) : ident_Is.f k s c = some (isV s c) := by
  unfold ident_Is.f isV
  rw [id_split s hk, Option.bind_some]
  split <;> rfl
def numTo (s : ByteArray) : Nat → Int
  | 0 => 0
  | n + 1 => 10 * numTo s n + (bt s ((n : Int) + 1) - 48)
theorem r_digit (c : Int) : sawmillref02_digit.f c = some (digB c) := by unfold sawmillref02_digit.f digB; split <;> simp [*]
theorem r_capital (c : Int) : sawmillref02_capital.f c = some (capB c) := by unfold sawmillref02_capital.f capB; split <;> simp [*]
theorem numTo_six (s : ByteArray) : numTo s 6 = codeNum s := by simp [numTo, codeNum]; omega
theorem pow_le6 {n : Nat} (h : n ≤ 6) : ((10 ^ n : Nat) : Int) ≤ 1000000 := by
  have : 10 ^ n ≤ 10 ^ 6 := Nat.pow_le_pow_right (by decide) h
  omega
theorem r_split_l (s : ByteArray) (h8 : s.size = 8) (d : Nat) : ∀ (n k : Nat), n + d = 6 → d + 8 < k → (∀ j : Nat, 1 ≤ j → j ≤ n → digB (bt s j) = true) → 0 ≤ numTo s n → numTo s n < ((10 ^ n : Nat) : Int) →
    sawmillref02_Split.l0 k s (numTo s n) ((n : Int) + 1) = some (splitRes s (65 + letSum (s.extract 0 7) 7)) := by
  induction d with
  | zero =>
    intro n k hn hk hd h0 h1
    obtain ⟨k, rfl⟩ : ∃ m, k = m + 1 := ⟨k - 1, by omega⟩
    obtain rfl : n = 6 := by omega
    have hall : allDig s = true := allDig_true s (fun j hj hj' => hd j hj (by omega))
    simp only [sawmillref02_Split.l0]
    rw [if_neg (by omega), if_pos (by omega), if_pos (by omega), r_letter _ (by rw [size7 h8]; decide) (by rw [size7 h8]; omega), size7 h8, Option.bind_some]
    unfold splitRes
    rw [if_pos hall]
    by_cases e : 65 + letSum (s.extract 0 7) 7 = bt s 7
    · rw [if_pos e.symm, if_pos e, if_pos (by omega), numTo_six]
    · rw [if_neg (fun h => e h.symm), if_neg e]
  | succ d ih =>
    intro n k hn hk hd h0 h1
    obtain ⟨k, rfl⟩ : ∃ m, k = m + 1 := ⟨k - 1, by omega⟩
    simp only [sawmillref02_Split.l0]
    rw [if_pos (by omega), if_pos (by omega), if_pos (by omega), r_digit, Option.bind_some]
    by_cases hg : digB (bt s ((n : Int) + 1)) = true
    · have hg' : 48 ≤ bt s ((n : Int) + 1) ∧ bt s ((n : Int) + 1) ≤ 57 := by simpa [digB] using hg
      have hp := pow_le6 (n := n) (by omega)
      have hp1 : ((10 ^ (n + 1) : Nat) : Int) = 10 * ((10 ^ n : Nat) : Int) := by rw [Nat.pow_succ]; omega
      have e : wrap64 (wrap64 (10 * numTo s n) + (bt s ((n : Int) + 1) - 48) % 256) = numTo s (n + 1) := by
        show _ = 10 * numTo s n + (bt s ((n : Int) + 1) - 48)
        rw [w64 (n := 10 * numTo s n) (by omega) (by omega), w64 (by omega) (by omega)]
        omega
      have e2 : numTo s (n + 1) = 10 * numTo s n + (bt s ((n : Int) + 1) - 48) := rfl
      rw [if_pos hg, e, w64 (n := (n : Int) + 1 + 1) (by omega) (by omega)]
      have := ih (n + 1) k (by omega) (by omega) (fun j hj hj' => by
        by_cases hjn : j ≤ n
        · exact hd j hj hjn
        · obtain rfl : j = n + 1 := by omega
          have : ((n + 1 : Nat) : Int) = (n : Int) + 1 := by omega
          rw [this]
          exact hg) (by omega) (by omega)
      rw [show ((n + 1 : Nat) : Int) = (n : Int) + 1 by omega] at this
      exact this
    · rw [if_neg hg]
      have hf : allDig s = false := allDig_false s (n + 1) (by omega) (by omega) (by rw [show ((n + 1 : Nat) : Int) = (n : Int) + 1 by omega]; simpa using hg)
      unfold splitRes
      rw [hf]
      rfl
theorem r_split (s : ByteArray) {k : Nat} (hk : 14 < k) : sawmillref02_Split.f k s = some (splitV s) := by
  unfold sawmillref02_Split.f splitV
  by_cases h8 : s.size = 8
  · rw [if_pos (by omega), if_pos h8, if_pos (by omega), r_capital, Option.bind_some]
    by_cases hc : capB (bt s 0) = true
    · rw [if_pos hc, if_pos hc]
      exact r_split_l s h8 6 0 k (by omega) (by omega) (fun j hj hj' => by omega) (Int.le_refl 0) (by show (0 : Int) < ((10 ^ 0 : Nat) : Int); decide)
    · rw [if_neg hc, if_neg hc]
  · rw [if_neg (by omega), if_neg h8]
theorem r_is (s : ByteArray) (c : Int) {k : Nat} (hk : 14 < k) : sawmillref02_Is.f k s c = some (isV s c) := by
  unfold sawmillref02_Is.f isV
  rw [r_split s hk, Option.bind_some]
  split <;> rfl
end Go.Proofs.YtbahagcidhmojaaDoor.PA
namespace Go.Proofs.YtbahagcidhmojaaDoor.PA
open Go.RowKit Go.Proofs.YtbahagcidhmojaaDoorW.PrintWords
set_option linter.unusedVariables false
set_option maxRecDepth 100000 in
theorem awake_true : sawmilllaw58_awake.f 40 = some true := by kernel_rfl
theorem awake_ge {k : Nat} (hk : 40 ≤ k) : sawmilllaw58_awake.f k = some true := at_rounds sawmilllaw58_awake.mono hk awake_true
def codeB (a : ByteArray) (c : Int) : Bool := if c = 0 then a.toList == ([] : List UInt8) else isV a c
theorem id_code (a : ByteArray) (c : Int) {k : Nat} (hk : 7 < k) : event_isCode.f k a c = some (codeB a c) := by
  unfold event_isCode.f codeB
  by_cases h : c = 0
  · rw [if_pos h, if_pos h]
  · rw [if_neg h, if_neg h, id_is a c hk, Option.bind_some]
theorem r_code (a : ByteArray) (c : Int) {k : Nat} (hk : 14 < k) : sawmillref58_named.f k a c = some (codeB a c) := by
  unfold sawmillref58_named.f codeB
  by_cases h : c = 0
  · rw [if_pos h, if_pos h]
  · rw [if_neg h, if_neg h, r_is a c hk, Option.bind_some]
theorem r_codes (n : Int) (h1 : 1 ≤ n) (h2 : n ≤ 14) (k : Nat) : sawmillref58_codes.f (k + 2) n = some (kItem n, kOf n) := by
  rcases kind_cases n h1 h2 with rfl | rfl | rfl | rfl | rfl | rfl | rfl | rfl | rfl | rfl | rfl | rfl | rfl | rfl <;> rfl
theorem big_at {l : List Int} (h : l.all inBig = true) {i : Int} (h0 : 0 ≤ i) (h1 : i < l.length) : -1099511627776 ≤ rd l i ∧ rd l i ≤ 1099511627776 := by
  have hm : rd l i ∈ l := by
    unfold rd
    rw [List.getD_eq_getElem?_getD, List.getElem?_eq_getElem (by omega)]
    exact List.getElem_mem _
  have := List.all_eq_true.1 h _ hm
  simpa [inBig] using this
theorem beq_dec (a b : Int) : (a == b) = decide (a = b) := by
  by_cases h : a = b
  · simp [h]
  · simp [h]
theorem r_shaped (n a1 : Int) (a2 a3 : ByteArray) (l : List Int) (a5 : ByteArray) (h1 : 1 ≤ n) (h2 : n ≤ 14) (hl : (l.length : Int) ≤ 600) (hb : l.all inBig = true) : sawmillref58_shaped.f n a1 a2 a3 l a5 = some (kFits n l) := by
  have hn : (0 : Int) ≤ (l.length : Int) := by omega
  rcases kind_cases n h1 h2 with rfl | rfl | rfl | rfl | rfl | rfl | rfl | rfl | rfl | rfl | rfl | rfl | rfl | rfl
  case inr.inr.inr.inr.inr.inl =>
    show (if (l.length : Int) ≥ 2 then _ else _) = some (dryFits l)
    unfold dryFits
    by_cases h : (l.length : Int) ≥ 2
    · have hr := big_at hb (i := 1) (by omega) (by omega)
      rw [if_pos h, if_pos (show 1 < (l.length : Int) by omega), if_neg (show ¬ (l.length : Int) < 2 by omega), w64 (n := (l.length : Int) - 2) (by omega) (by omega)]
      by_cases h3 : rd l 1 ≥ 0
      · rw [if_pos h3]
        by_cases h4 : rd l 1 ≤ (l.length : Int) - 2
        · rw [if_pos h4, w64 (by omega) (by omega), tmod_pos (by omega), beq_dec, decide_eq_true (p := 0 ≤ rd l 1) (by omega), decide_eq_true h4]
          rfl
        · rw [if_neg h4, decide_eq_false h4]
          simp
      · rw [if_neg h3, decide_eq_false (p := 0 ≤ rd l 1) (by omega)]
        rfl
    · rw [if_neg h, if_pos (by omega)]
  all_goals (simp only [sawmillref58_shaped.f, kFits, Int.reduceEq, if_false, if_true]; first | done | rfl | (rw [Option.some.injEq, Bool.eq_iff_iff]; simp; done) | (rw [Option.some.injEq, Bool.eq_iff_iff]; simp; omega))
theorem r_name (n : Int) (hw : (Lit.int .i64 n).wf = true) : sawmillref58_Name.f n = some (kName n) := by
  by_cases h : n < 1 ∨ 14 < n
  · rw [(kind_none n h).1]
    unfold sawmillref58_Name.f
    simp only [Option.bind_some]
    by_cases h1 : n < 1
    · rw [if_pos h1]
    · rw [if_neg h1, if_pos (by simp; omega)]
  · rcases kind_cases n (by omega) (by omega) with rfl | rfl | rfl | rfl | rfl | rfl | rfl | rfl | rfl | rfl | rfl | rfl | rfl | rfl <;> kernel_rfl
def checkV (a0 a1 : Int) (a2 a3 : ByteArray) (l : List Int) (a5 : ByteArray) : Int :=
  if a0 < 1 ∨ 14 < a0 then 10 else if a1 < 0 ∨ 10000000 < a1 then 15 else if codeB a2 (kItem a0) = true ∧ codeB a3 (kOf a0) = true then (if 600 < (l.length : Int) ∨ 16384 < (a5.size : Int) then 4 else checkTail a0 l) else 6
theorem p_check (a0 a1 : Int) (a2 a3 : ByteArray) (l : List Int) (a5 : ByteArray) {k : Nat} (hk : 7 < k) : event_Check.f k a0 a1 a2 a3 l a5 = some (checkV a0 a1 a2 a3 l a5) := by
  unfold event_Check.f checkV
  by_cases h1 : a0 < 1 ∨ 14 < a0
  · rw [if_pos h1, if_pos h1]
  rw [if_neg h1, if_neg h1]
  by_cases h2 : a1 < 0
  · rw [if_pos h2, if_pos (show a1 < 0 ∨ 10000000 < a1 from .inl h2)]
  rw [if_neg h2]
  by_cases h3 : a1 > 10000000
  · rw [if_pos h3, if_pos (show a1 < 0 ∨ 10000000 < a1 from .inr h3)]
  rw [if_neg h3, if_neg (show ¬ (a1 < 0 ∨ 10000000 < a1) by omega), id_code _ _ hk, Option.bind_some]
  by_cases h4 : codeB a2 (kItem a0) = true
  · rw [if_pos h4, id_code _ _ hk, Option.bind_some]
    by_cases h5 : codeB a3 (kOf a0) = true
    · rw [if_pos h5, if_pos (And.intro h4 h5)]
      by_cases h6 : (l.length : Int) > 600
      · rw [if_pos h6, if_pos (show 600 < (l.length : Int) ∨ 16384 < (a5.size : Int) from .inl h6)]
      rw [if_neg h6]
      by_cases h7 : (a5.size : Int) > 16384
      · rw [if_pos h7, if_pos (show 600 < (l.length : Int) ∨ 16384 < (a5.size : Int) from .inr h7)]
      rw [if_neg h7, if_neg (show ¬ (600 < (l.length : Int) ∨ 16384 < (a5.size : Int)) by omega)]
    · rw [if_neg h5, if_neg (show ¬ (codeB a2 (kItem a0) = true ∧ codeB a3 (kOf a0) = true) from fun h => h5 h.2)]
  · rw [if_neg h4, if_neg (show ¬ (codeB a2 (kItem a0) = true ∧ codeB a3 (kOf a0) = true) from fun h => h4 h.1)]
theorem r_check_l (a0 a1 : Int) (a2 a3 : ByteArray) (l : List Int) (a5 : ByteArray) (h1 : 1 ≤ a0) (h2 : a0 ≤ 14) (hl : (l.length : Int) ≤ 600) (d : Nat) : ∀ (n k : Nat), n + d = l.length → d < k → AllTo l n →
    sawmillref58_Check.l0 k (n : Int) a0 a1 a2 a3 l a5 = some (checkTail a0 l) := by
  induction d with
  | zero =>
    intro n k hn hk hp
    obtain ⟨k, rfl⟩ : ∃ m, k = m + 1 := ⟨k - 1, by omega⟩
    have hall := hp.all (by omega)
    simp only [sawmillref58_Check.l0]
    rw [if_neg (by omega), r_shaped a0 a1 a2 a3 l a5 h1 h2 hl hall, Option.bind_some]
    unfold checkTail
    rw [if_pos hall]
    by_cases h : kFits a0 l = true
    · rw [if_pos h, if_pos h]
    · rw [if_neg h, if_neg h]
  | succ d ih =>
    intro n k hn hk hp
    obtain ⟨k, rfl⟩ : ∃ m, k = m + 1 := ⟨k - 1, by omega⟩
    simp only [sawmillref58_Check.l0]
    rw [if_pos (by omega), if_pos (by omega)]
    by_cases h3 : rd l n < -1099511627776
    · rw [if_pos h3]
      unfold checkTail
      rw [not_all (k := n) (by omega) rfl (.inl h3)]
      rfl
    rw [if_neg h3]
    by_cases h4 : rd l n > 1099511627776
    · rw [if_pos h4]
      unfold checkTail
      rw [not_all (k := n) (by omega) rfl (.inr h4)]
      rfl
    rw [if_neg h4, w64 (by omega) (by omega)]
    exact ih (n + 1) k (by omega) (by omega) (hp.succ (by omega) rfl h3 (by omega))
theorem r_check (a0 a1 : Int) (a2 a3 : ByteArray) (l : List Int) (a5 : ByteArray) {k : Nat} (hk : 620 < k) : sawmillref58_Check.f k a0 a1 a2 a3 l a5 = some (checkV a0 a1 a2 a3 l a5) := by
  obtain ⟨k, rfl⟩ : ∃ m, k = m + 1 := ⟨k - 1, by omega⟩
  unfold sawmillref58_Check.f checkV
  by_cases h1 : a0 < 1 ∨ 14 < a0
  · rw [if_pos h1]
    by_cases h : a0 < 1
    · rw [if_pos h]; rfl
    · rw [if_neg h, decide_eq_true (by omega)]; rfl
  rw [if_neg h1, if_neg (by omega), decide_eq_false (by omega)]
  obtain ⟨k, rfl⟩ : ∃ m, k = m + 1 := ⟨k - 1, by omega⟩
  simp only [sawmillref58_Check.j0]
  rw [if_neg (by simp)]
  have ht : sawmillref07_IsTime.f a1 = some (decide (0 ≤ a1 ∧ a1 ≤ 10000000)) := by unfold sawmillref07_IsTime.f; split <;> simp [*]
  rw [ht, Option.bind_some]
  by_cases h2 : a1 < 0 ∨ 10000000 < a1
  · rw [if_pos h2, if_neg (by simp; omega)]
  rw [if_neg h2, if_pos (by simp; omega), show k + 1 = (k - 1) + 2 by omega, r_codes a0 (by omega) (by omega), Option.bind_some]
  simp only []
  rw [r_code _ _ (by omega), Option.bind_some]
  have key : ∀ b : Bool, b = (codeB a2 (kItem a0) && codeB a3 (kOf a0)) → sawmillref58_Check.j1 ((k - 1) + 2) (!b) a0 a1 a2 a3 l a5 = some (if codeB a2 (kItem a0) = true ∧ codeB a3 (kOf a0) = true then (if 600 < (l.length : Int) ∨ 16384 < (a5.size : Int) then 4 else checkTail a0 l) else 6) := by
    intro b hb
    simp only [sawmillref58_Check.j1]
    cases b with
    | false => rw [if_pos (by rfl), if_neg (by intro h; rw [h.1, h.2] at hb; exact absurd hb (by decide))]
    | true =>
      have hh : codeB a2 (kItem a0) = true ∧ codeB a3 (kOf a0) = true := by simpa using hb.symm
      rw [if_neg (by simp), if_pos hh]
      by_cases h6 : 600 < (l.length : Int)
      · rw [if_pos (show (l.length : Int) > 600 from h6), if_pos (show 600 < (l.length : Int) ∨ 16384 < (a5.size : Int) from .inl h6)]; rfl
      · rw [if_neg (show ¬ (l.length : Int) > 600 from h6)]
        show sawmillref58_Check.j2 (k - 1 + 1) _ _ _ _ _ _ _ = _
        simp only [sawmillref58_Check.j2]
        by_cases h7 : 16384 < (a5.size : Int)
        · rw [if_pos (by simp; omega), if_pos (show 600 < (l.length : Int) ∨ 16384 < (a5.size : Int) from .inr h7)]
        · rw [if_neg (by simp; omega), if_neg (show ¬ (600 < (l.length : Int) ∨ 16384 < (a5.size : Int)) by omega)]
          exact r_check_l a0 a1 a2 a3 l a5 (by omega) (by omega) (by omega) l.length 0 (k - 1) (by omega) (by omega) (AllTo.zero l)
  by_cases h4 : codeB a2 (kItem a0) = true
  · rw [if_pos h4, r_code _ _ (by omega), Option.bind_some]
    exact key _ (by rw [h4]; rfl)
  · rw [if_neg h4]
    exact key false (by simp at h4; rw [h4]; rfl)
theorem few_some (a0 a1 : Int) (a2 a3 : ByteArray) (l : List Int) (a5 : ByteArray) : ∃ b, sawmilllaw58_few.f a0 a1 a2 a3 l a5 = some b ∧ (b = true → (l.length : Int) ≤ 700 ∧ (a2.size : Int) ≤ 100 ∧ (a3.size : Int) ≤ 100 ∧ (a5.size : Int) ≤ 16484) := by
  unfold sawmilllaw58_few.f
  by_cases h1 : (l.length : Int) ≤ 700
  · rw [if_pos h1]
    by_cases h2 : (a2.size : Int) ≤ 100
    · rw [if_pos h2]
      by_cases h3 : (a3.size : Int) ≤ 100
      · rw [if_pos h3]
        exact ⟨_, rfl, fun h => ⟨h1, h2, h3, of_decide_eq_true h⟩⟩
      · rw [if_neg h3]; exact ⟨_, rfl, fun h => absurd h (by decide)⟩
    · rw [if_neg h2]; exact ⟨_, rfl, fun h => absurd h (by decide)⟩
  · rw [if_neg h1]; exact ⟨_, rfl, fun h => absurd h (by decide)⟩
end Go.Proofs.YtbahagcidhmojaaDoor.PA
namespace Go.Proofs.YtbahagcidhmojaaDoor.PA
open Go.RowKit Go.Proofs.YtbahagcidhmojaaDoorW.PrintWords
set_option linter.unusedVariables false
theorem toList_inj {a b : ByteArray} (h : a.toList = b.toList) : a = b := by
  rw [ByteArray.toList_eq, ByteArray.toList_eq] at h
  cases a with
  | mk x => cases b with
    | mk y => exact congrArg ByteArray.mk (by rw [← Array.toList_inj]; exact h)
theorem size_toList (a : ByteArray) : a.toList.length = a.size := by rw [ByteArray.toList_eq]; simp
structure Fit (a0 a1 : Int) (a2 a3 : ByteArray) (l : List Int) (a5 : ByteArray) : Prop where
  i0 : In64 a0
  i1 : In64 a1
  s2 : a2.size ≤ 1000
  s3 : a3.size ≤ 1000
  sl : l.length ≤ 700
  il : ∀ n ∈ l, In64 n
  s5 : a5.size ≤ 20000
section
variable {a0 a1 : Int} {a2 a3 : ByteArray} {l : List Int} {a5 : ByteArray} (H : Fit a0 a1 a2 a3 l a5)
include H
end
theorem code_size {a : ByteArray} {c : Int} (h : codeB a c = true) : a.size ≤ 8 := by
  unfold codeB at h
  by_cases hc : c = 0
  · rw [if_pos hc] at h
    have : a.toList = [] := by simpa using h
    rw [← size_toList, this]
    simp
  · rw [if_neg hc] at h
    unfold isV splitV at h
    by_cases h8 : a.size = 8
    · omega
    · rw [if_neg h8] at h
      simp at h
structure Ok (a0 a1 : Int) (a2 a3 : ByteArray) (l : List Int) (a5 : ByteArray) : Prop where
  c : checkV a0 a1 a2 a3 l a5 = 0
  i0 : 1 ≤ a0 ∧ a0 ≤ 14
  i1 : 0 ≤ a1 ∧ a1 ≤ 10000000
  s2 : a2.size ≤ 8
  s3 : a3.size ≤ 8
  sl : l.length ≤ 600
  il : ∀ n ∈ l, -1099511627776 ≤ n ∧ n ≤ 1099511627776
  s5 : a5.size ≤ 16384
theorem ok_of {a0 a1 : Int} {a2 a3 : ByteArray} {l : List Int} {a5 : ByteArray} (h : checkV a0 a1 a2 a3 l a5 = 0) : Ok a0 a1 a2 a3 l a5 := by
  have hc := h
  unfold checkV at h
  by_cases h0 : a0 < 1 ∨ 14 < a0
  · rw [if_pos h0] at h; simp at h
  rw [if_neg h0] at h
  by_cases h1 : a1 < 0 ∨ 10000000 < a1
  · rw [if_pos h1] at h; simp at h
  rw [if_neg h1] at h
  by_cases h2 : codeB a2 (kItem a0) = true ∧ codeB a3 (kOf a0) = true
  · rw [if_pos h2] at h
    by_cases h3 : 600 < (l.length : Int) ∨ 16384 < (a5.size : Int)
    · rw [if_pos h3] at h; simp at h
    rw [if_neg h3] at h
    unfold checkTail at h
    by_cases h4 : l.all inBig = true
    · refine ⟨hc, by omega, by omega, code_size h2.1, code_size h2.2, by omega, fun n hn => ?_, by omega⟩
      have := List.all_eq_true.1 h4 n hn
      simpa [inBig] using this
    · rw [if_neg h4] at h; simp at h
  · rw [if_neg h2] at h; simp at h
end Go.Proofs.YtbahagcidhmojaaDoor.PA
namespace Go.Proofs.YtbahagcidhmojaaDoor.PA
open Go.RowKit Go.Proofs.YtbahagcidhmojaaDoorW.PrintWords
set_option linter.unusedVariables false
theorem cat_assoc (a b c : ByteArray) : a ++ b ++ c = a ++ (b ++ c) := by
  apply ByteArray.ext
  simp
def sp : ByteArray := ⟨#[32]⟩
def numsB : List Int → ByteArray
  | [] => ⟨#[]⟩
  | n :: r => (sp ++ itS n) ++ numsB r
def opt (a : ByteArray) : ByteArray := if a.toList = ([] : List UInt8) then ⟨#[]⟩ else sp ++ a
def lineV (a0 a1 : Int) (a2 a3 : ByteArray) (l : List Int) : ByteArray := ((((fmtV a1 ++ sp) ++ kName a0) ++ opt a2) ++ opt a3) ++ (numsB l ++ (⟨#[10]⟩ : ByteArray))
theorem cat_nil (a : ByteArray) : a ++ (⟨#[]⟩ : ByteArray) = a := by
  apply ByteArray.ext
  simp
theorem nil_cat (a : ByteArray) : (⟨#[]⟩ : ByteArray) ++ a = a := by
  apply ByteArray.ext
  simp
theorem kName_size (n : Int) : (kName n).size ≤ 10 := by
  by_cases h : 1 ≤ n ∧ n ≤ 14
  · rcases kind_cases n h.1 h.2 with rfl | rfl | rfl | rfl | rfl | rfl | rfl | rfl | rfl | rfl | rfl | rfl | rfl | rfl <;> decide +kernel
  · rw [(kind_none n (by omega)).1]; decide +kernel
theorem p_nums : ∀ (m l : List Int) (x : ByteArray) (k : Nat) (i e : Int), i = l.length → e = ((l ++ m).length : Int) → (∀ n ∈ m, In64 n) → (l ++ m).length ≤ 1000000 → x.size + 30 * m.length ≤ 1000000000 → m.length < k →
    event_Line.l1 k x (l ++ m) e i = some (x ++ (numsB m ++ (⟨#[10]⟩ : ByteArray)))
  | [], l, x, k, i, e, hi, he, hm, hl, hx, hk => by
    obtain ⟨k, rfl⟩ : ∃ j, k = j + 1 := ⟨k - 1, by omega⟩
    unfold event_Line.l1
    simp only [List.append_nil] at *
    rw [if_neg (by omega), if_pos (by simp at hx; omega)]
    rw [show numsB [] = (⟨#[]⟩ : ByteArray) from rfl, nil_cat]
  | n :: m, l, x, k, i, e, hi, he, hm, hl, hx, hk => by
    obtain ⟨k, rfl⟩ : ∃ j, k = j + 1 := ⟨k - 1, by omega⟩
    have hn := hm n (by simp)
    have hs := it_size hn.1 hn.2
    simp only [List.length_append, List.length_cons] at he hl hx hk
    unfold event_Line.l1
    rw [if_pos (by omega), if_pos (by omega), if_pos (by simp; omega), rd_append l m i hi n, p_itoa hn.1 hn.2, Option.bind_some, if_pos (by omega), if_pos (by rw [ByteArray.size_append]; simp only [ByteArray.size, List.size_toArray, List.length_cons, List.length_nil] at *; omega), dw64 (by omega) (by omega)]
    have e1 : l ++ n :: m = (l ++ [n]) ++ m := by simp
    rw [e1, p_nums m (l ++ [n]) _ k (i + 1) e (by simp; omega) (by simp; omega) (fun y hy => hm y (by simp [hy])) (by simp; omega) (by rw [ByteArray.size_append, ByteArray.size_append]; have : (⟨#[32]⟩ : ByteArray).size = 1 := rfl; omega) (by omega)]
    rw [show numsB (n :: m) = (sp ++ itS n) ++ numsB m from rfl]
    simp only [cat_assoc]
    rfl
theorem r_nums (b0 b1 : Int) (b2 b3 b5 : ByteArray) : ∀ (m l : List Int) (x : ByteArray) (k : Nat) (i : Int), i = l.length → (∀ n ∈ m, In64 n) → (l ++ m).length ≤ 1000000 → x.size + 30 * m.length ≤ 1000000000 → m.length + 30 < k →
    sawmillref58_Line.l0 k x i b0 b1 b2 b3 (l ++ m) b5 = some (x ++ (numsB m ++ (⟨#[10]⟩ : ByteArray)))
  | [], l, x, k, i, hi, hm, hl, hx, hk => by
    obtain ⟨k, rfl⟩ : ∃ j, k = j + 1 := ⟨k - 1, by omega⟩
    unfold sawmillref58_Line.l0
    simp only [List.append_nil] at *
    rw [if_neg (by omega), if_pos (by simp at hx; omega)]
    rw [show numsB [] = (⟨#[]⟩ : ByteArray) from rfl, nil_cat]
  | n :: m, l, x, k, i, hi, hm, hl, hx, hk => by
    obtain ⟨k, rfl⟩ : ∃ j, k = j + 1 := ⟨k - 1, by omega⟩
    have hn := hm n (by simp)
    have hs := it_size hn.1 hn.2
    simp only [List.length_append, List.length_cons] at hl hx hk
    have h1 : (⟨#[32]⟩ : ByteArray).size = 1 := rfl
    unfold sawmillref58_Line.l0
    rw [if_pos (by simp; omega), if_pos (by omega), if_pos (by omega), rd_append l m i hi n, r_digits hn.1 hn.2 (by omega), Option.bind_some, if_pos (by rw [ByteArray.size_append]; omega), dw64 (by omega) (by omega)]
    have e1 : l ++ n :: m = (l ++ [n]) ++ m := by simp
    rw [e1, r_nums b0 b1 b2 b3 b5 m (l ++ [n]) _ k (i + 1) (by simp; omega) (fun y hy => hm y (by simp [hy])) (by simp; omega) (by rw [ByteArray.size_append, ByteArray.size_append]; omega) (by omega)]
    rw [show numsB (n :: m) = (sp ++ itS n) ++ numsB m from rfl]
    simp only [cat_assoc]
    rfl
section
variable {a0 a1 : Int} {a2 a3 : ByteArray} {l : List Int} {a5 : ByteArray}
theorem p_codes (H : Ok a0 a1 a2 a3 l a5) {x : ByteArray} (hx : x.size ≤ 1000) {k : Nat} (hk : 700 ≤ k) :
    event_Line.l0 k x [a2, a3] 2 0 a0 a1 a2 a3 l a5 = some (((x ++ opt a2) ++ opt a3) ++ (numsB l ++ (⟨#[10]⟩ : ByteArray))) := by
  obtain ⟨k, rfl⟩ : ∃ j, k = j + 3 := ⟨k - 3, by omega⟩
  have s2 := H.s2
  have s3 := H.s3
  have sl := H.sl
  have h1 : (⟨#[32]⟩ : ByteArray).size = 1 := rfl
  have E0 : rdOf ByteArray.empty [a2, a3] 0 = a2 := rfl
  have E1 : rdOf ByteArray.empty [a2, a3] 1 = a3 := rfl
  have w1 : wrap64 (0 + 1) = 1 := dw64 (by omega) (by omega)
  have w2 : wrap64 (1 + 1) = 2 := dw64 (by omega) (by omega)
  have last : ∀ y : ByteArray, y.size ≤ 1000000 → event_Line.l0 (k + 1) y [a2, a3] 2 2 a0 a1 a2 a3 l a5 = some (y ++ (numsB l ++ (⟨#[10]⟩ : ByteArray))) := fun y hy => by
    conv => lhs; unfold event_Line.l0
    rw [if_neg (by omega)]
    exact p_nums l [] y k 0 _ rfl (by simp) (fun n hn => ⟨by have := H.il n hn; omega, by have := H.il n hn; omega⟩) (by simp; omega) (by omega) (by omega)
  have mid : ∀ y : ByteArray, y.size ≤ 100000 → event_Line.l0 (k + 2) y [a2, a3] 2 1 a0 a1 a2 a3 l a5 = some ((y ++ opt a3) ++ (numsB l ++ (⟨#[10]⟩ : ByteArray))) := fun y hy => by
    conv => lhs; unfold event_Line.l0
    rw [if_pos (by omega), if_pos (by omega), if_pos (by simp), E1, w2]
    unfold opt
    by_cases h : a3.toList = ([] : List UInt8)
    · rw [if_pos h, if_pos h, last y (by omega), cat_nil]
    · rw [if_neg h, if_neg h, if_pos (by omega), if_pos (by rw [ByteArray.size_append]; omega), last _ (by rw [ByteArray.size_append, ByteArray.size_append]; omega)]
      rfl
  conv => lhs; unfold event_Line.l0
  rw [if_pos (by omega), if_pos (by omega), if_pos (by simp), E0, w1]
  unfold opt
  by_cases h : a2.toList = ([] : List UInt8)
  · rw [if_pos h, if_pos h, mid x (by omega), cat_nil]
    rfl
  · rw [if_neg h, if_neg h, if_pos (by omega), if_pos (by rw [ByteArray.size_append]; omega), mid _ (by rw [ByteArray.size_append, ByteArray.size_append]; omega)]
    rfl
theorem p_line {k : Nat} (hk : 800 ≤ k) : event_Line.f k a0 a1 a2 a3 l a5 = some (if checkV a0 a1 a2 a3 l a5 = 0 then lineV a0 a1 a2 a3 l else (⟨#[]⟩ : ByteArray)) := by
  unfold event_Line.f
  rw [p_check _ _ _ _ _ _ (by omega), Option.bind_some]
  by_cases h : checkV a0 a1 a2 a3 l a5 = 0
  · have H := ok_of h
    have hf := fmt_size H.i1.1 H.i1.2
    have hn := kName_size a0
    have h1 : (⟨#[32]⟩ : ByteArray).size = 1 := rfl
    rw [if_pos h, if_pos h, p_format H.i1.1 H.i1.2, Option.bind_some, if_pos (by omega), event_Name.f, Option.bind_some, if_pos (by rw [ByteArray.size_append]; omega), Option.bind_some]
    exact p_codes H (by rw [ByteArray.size_append, ByteArray.size_append]; omega) (by omega)
  · rw [if_neg h, if_neg h]
theorem r_codes2 (H : Ok a0 a1 a2 a3 l a5) {x : ByteArray} (hx : x.size ≤ 1000) {k : Nat} (hk : 700 ≤ k) :
    sawmillref58_Line.j0 k x a0 a1 a2 a3 l a5 = some ((x ++ opt a3) ++ (numsB l ++ (⟨#[10]⟩ : ByteArray))) := by
  obtain ⟨k, rfl⟩ : ∃ j, k = j + 2 := ⟨k - 2, by omega⟩
  have s3 := H.s3
  have sl := H.sl
  have h1 : (⟨#[32]⟩ : ByteArray).size = 1 := rfl
  have last : ∀ y : ByteArray, y.size ≤ 1000000 → sawmillref58_Line.j1 (k + 1) y a0 a1 a2 a3 l a5 = some (y ++ (numsB l ++ (⟨#[10]⟩ : ByteArray))) := fun y hy => by
    simp only [sawmillref58_Line.j1]
    exact r_nums a0 a1 a2 a3 a5 l [] y k 0 rfl (fun n hn => ⟨by have := H.il n hn; omega, by have := H.il n hn; omega⟩) (by simp; omega) (by omega) (by omega)
  simp only [sawmillref58_Line.j0]
  unfold opt
  by_cases h : a3.toList = ([] : List UInt8)
  · rw [if_pos h, if_pos h, last x (by omega), cat_nil]
  · rw [if_neg h, if_neg h, if_pos (by omega), if_pos (by rw [ByteArray.size_append]; omega), last _ (by rw [ByteArray.size_append, ByteArray.size_append]; omega)]
    rw [show sp ++ a3 = (⟨#[32]⟩ : ByteArray) ++ a3 from rfl]
    simp only [cat_assoc]
theorem r_line (hw : (Lit.int .i64 a0).wf = true) {k : Nat} (hk : 800 ≤ k) : sawmillref58_Line.f k a0 a1 a2 a3 l a5 = some (if checkV a0 a1 a2 a3 l a5 = 0 then lineV a0 a1 a2 a3 l else (⟨#[]⟩ : ByteArray)) := by
  unfold sawmillref58_Line.f
  rw [r_check _ _ _ _ _ _ (by omega), Option.bind_some]
  by_cases h : checkV a0 a1 a2 a3 l a5 = 0
  · have H := ok_of h
    have hf := fmt_size H.i1.1 H.i1.2
    have hn := kName_size a0
    have s2 := H.s2
    have h1 : (⟨#[32]⟩ : ByteArray).size = 1 := rfl
    rw [if_pos h, if_pos h, r_format H.i1.1 H.i1.2 (by omega), Option.bind_some, if_pos (by omega), r_name _ hw, Option.bind_some, if_pos (by rw [ByteArray.size_append]; omega)]
    unfold lineV
    by_cases h2 : a2.toList = ([] : List UInt8)
    · rw [if_pos h2, r_codes2 H (by rw [ByteArray.size_append, ByteArray.size_append]; omega) (by omega), show opt a2 = (⟨#[]⟩ : ByteArray) by unfold opt; rw [if_pos h2], cat_nil]
      rfl
    · rw [if_neg h2, if_pos (by rw [ByteArray.size_append, ByteArray.size_append]; omega), if_pos (by rw [ByteArray.size_append, ByteArray.size_append, ByteArray.size_append]; omega), r_codes2 H (by rw [ByteArray.size_append, ByteArray.size_append, ByteArray.size_append, ByteArray.size_append]; omega) (by omega), show opt a2 = sp ++ a2 by unfold opt; rw [if_neg h2]]
      rw [show sp = (⟨#[32]⟩ : ByteArray) from rfl]
      simp only [cat_assoc]
  · rw [if_neg h, if_neg h]
end
theorem p_eq_l : ∀ (l m p q : List Int) (k : Nat) (i e : Int), p.length = q.length → l.length = m.length → i = p.length → e = ((p ++ l).length : Int) → (p ++ l).length ≤ 1000000 → l.length < k →
    slices_Equal_int_int.l0 k (p ++ l) (q ++ m) e i = some (decide (l = m))
  | [], m, p, q, k, i, e, hp, hl, hi, he, hs, hk => by
    obtain ⟨k, rfl⟩ : ∃ j, k = j + 1 := ⟨k - 1, by omega⟩
    obtain rfl : m = [] := List.length_eq_zero_iff.1 hl.symm
    unfold slices_Equal_int_int.l0
    rw [if_neg (by simp at he; omega)]
    simp
  | x :: l, m, p, q, k, i, e, hp, hl, hi, he, hs, hk => by
    obtain ⟨k, rfl⟩ : ∃ j, k = j + 1 := ⟨k - 1, by omega⟩
    obtain ⟨y, m, rfl⟩ : ∃ y m', m = y :: m' := by
      cases m with
      | nil => simp at hl
      | cons y m => exact ⟨y, m, rfl⟩
    simp only [List.length_append, List.length_cons] at hl he hs hk
    unfold slices_Equal_int_int.l0
    rw [if_pos (by omega), if_pos (by omega), if_pos (by simp; omega), if_pos (by simp; omega), rd_append p l i hi x, rd_append q m i (by omega) y]
    by_cases h : x = y
    · subst h
      rw [if_pos rfl, dw64 (by omega) (by omega), show p ++ x :: l = (p ++ [x]) ++ l by simp, show q ++ x :: m = (q ++ [x]) ++ m by simp, p_eq_l l m (p ++ [x]) (q ++ [x]) k (i + 1) e (by simp [hp]) (by omega) (by simp; omega) (by simp; omega) (by simp; omega) (by omega)]
      simp
    · rw [if_neg h, decide_eq_false (by intro e; exact h (List.cons.inj e).1)]
theorem p_equal (l m : List Int) (hl : l.length ≤ 1000000) {k : Nat} (hk : l.length < k) : slices_Equal_int_int.f k l m = some (decide (l = m)) := by
  unfold slices_Equal_int_int.f
  by_cases h : (l.length : Int) = (m.length : Int)
  · rw [if_pos h]
    exact p_eq_l l m [] [] k 0 _ rfl (by omega) rfl rfl (by simpa using hl) hk
  · rw [if_neg h, decide_eq_false (by intro e; rw [e] at h; exact h rfl)]
theorem r_eq_l : ∀ (l m p q : List Int) (k : Nat) (i : Int), p.length = q.length → l.length = m.length → i = p.length → (p ++ l).length ≤ 1000000 → l.length < k →
    sawmillref05_Same.l0 k (p ++ l) (q ++ m) i = some (decide (l = m))
  | [], m, p, q, k, i, hp, hl, hi, hs, hk => by
    obtain ⟨k, rfl⟩ : ∃ j, k = j + 1 := ⟨k - 1, by omega⟩
    obtain rfl : m = [] := List.length_eq_zero_iff.1 hl.symm
    unfold sawmillref05_Same.l0
    rw [if_neg (by simp; omega)]
    simp
  | x :: l, m, p, q, k, i, hp, hl, hi, hs, hk => by
    obtain ⟨k, rfl⟩ : ∃ j, k = j + 1 := ⟨k - 1, by omega⟩
    obtain ⟨y, m, rfl⟩ : ∃ y m', m = y :: m' := by
      cases m with
      | nil => simp at hl
      | cons y m => exact ⟨y, m, rfl⟩
    simp only [List.length_append, List.length_cons] at hl hs hk
    unfold sawmillref05_Same.l0
    rw [if_pos (by simp; omega), if_pos (by omega), if_pos (by simp; omega), rd_append p l i hi x, rd_append q m i (by omega) y]
    by_cases h : x = y
    · subst h
      rw [if_pos rfl, dw64 (by omega) (by omega), show p ++ x :: l = (p ++ [x]) ++ l by simp, show q ++ x :: m = (q ++ [x]) ++ m by simp, r_eq_l l m (p ++ [x]) (q ++ [x]) k (i + 1) (by simp [hp]) (by omega) (by simp; omega) (by simp; omega) (by omega)]
      simp
    · rw [if_neg h, decide_eq_false (by intro e; exact h (List.cons.inj e).1)]
theorem r_equal (l m : List Int) (hl : l.length ≤ 1000000) {k : Nat} (hk : l.length < k) : sawmillref05_Same.f k l m = some (decide (l = m)) := by
  unfold sawmillref05_Same.f
  by_cases h : (l.length : Int) = (m.length : Int)
  · rw [if_pos h]
    exact r_eq_l l m [] [] k 0 rfl (by omega) rfl (by simpa using hl) hk
  · rw [if_neg h, decide_eq_false (by intro e; rw [e] at h; exact h rfl)]
def sameV (a0 a1 : Int) (a2 a3 : ByteArray) (l : List Int) (a5 : ByteArray) (b0 b1 : Int) (b2 b3 : ByteArray) (m : List Int) (b5 : ByteArray) : Bool :=
  if a0 = b0 ∧ a1 = b1 ∧ a2 = b2 ∧ a3 = b3 ∧ l = m ∧ a5 = b5 then true else false
theorem same_iff {a0 a1 : Int} {a2 a3 : ByteArray} {l : List Int} {a5 : ByteArray} {b0 b1 : Int} {b2 b3 : ByteArray} {m : List Int} {b5 : ByteArray} :
    sameV a0 a1 a2 a3 l a5 b0 b1 b2 b3 m b5 = true ↔ a0 = b0 ∧ a1 = b1 ∧ a2 = b2 ∧ a3 = b3 ∧ l = m ∧ a5 = b5 := by
  unfold sameV
  split <;> simp [*]
theorem same_false {a0 a1 : Int} {a2 a3 : ByteArray} {l : List Int} {a5 : ByteArray} {b0 b1 : Int} {b2 b3 : ByteArray} {m : List Int} {b5 : ByteArray} (h : ¬ (a0 = b0 ∧ a1 = b1 ∧ a2 = b2 ∧ a3 = b3 ∧ l = m ∧ a5 = b5)) :
    sameV a0 a1 a2 a3 l a5 b0 b1 b2 b3 m b5 = false := by
  unfold sameV
  rw [if_neg h]
theorem p_same (a0 a1 : Int) (a2 a3 : ByteArray) (l : List Int) (a5 : ByteArray) (b0 b1 : Int) (b2 b3 : ByteArray) (m : List Int) (b5 : ByteArray) (hl : l.length ≤ 1000000) {k : Nat} (hk : l.length < k) :
    event_Same.f k a0 a1 a2 a3 l a5 b0 b1 b2 b3 m b5 = some (sameV a0 a1 a2 a3 l a5 b0 b1 b2 b3 m b5) := by
  unfold event_Same.f
  by_cases h0 : a0 = b0
  · by_cases h1 : a1 = b1
    · by_cases h2 : a2 = b2
      · by_cases h3 : a3 = b3
        · by_cases h5 : a5 = b5
          · rw [if_pos h0, if_pos h1, if_pos (by rw [h2]), if_pos (by rw [h3]), if_pos (by rw [h5]), p_equal l m hl hk, Option.bind_some]
            by_cases h4 : l = m
            · rw [decide_eq_true h4, same_iff.2 ⟨h0, h1, h2, h3, h4, h5⟩]
            · rw [decide_eq_false h4, same_false (fun H => h4 H.2.2.2.2.1)]
          · rw [if_pos h0, if_pos h1, if_pos (by rw [h2]), if_pos (by rw [h3]), if_neg (fun e => h5 (toList_inj e)), same_false (fun H => h5 H.2.2.2.2.2)]
        · rw [if_pos h0, if_pos h1, if_pos (by rw [h2]), if_neg (fun e => h3 (toList_inj e)), same_false (fun H => h3 H.2.2.2.1)]
      · rw [if_pos h0, if_pos h1, if_neg (fun e => h2 (toList_inj e)), same_false (fun H => h2 H.2.2.1)]
    · rw [if_pos h0, if_neg h1, same_false (fun H => h1 H.2.1)]
  · rw [if_neg h0, same_false (fun H => h0 H.1)]
theorem r_same (a0 a1 : Int) (a2 a3 : ByteArray) (l : List Int) (a5 : ByteArray) (b0 b1 : Int) (b2 b3 : ByteArray) (m : List Int) (b5 : ByteArray) (hl : l.length ≤ 1000000) {k : Nat} (hk : l.length < k) :
    sawmillref58_Same.f k a0 a1 a2 a3 l a5 b0 b1 b2 b3 m b5 = some (sameV a0 a1 a2 a3 l a5 b0 b1 b2 b3 m b5) := by
  unfold sawmillref58_Same.f
  by_cases h0 : a0 = b0
  · by_cases h1 : a1 = b1
    · by_cases h2 : a2 = b2
      · by_cases h3 : a3 = b3
        · rw [if_pos h0, if_pos h1, if_pos (by rw [h2]), if_pos (by rw [h3]), r_equal l m hl hk, Option.bind_some]
          by_cases h4 : l = m
          · rw [if_pos (by rw [decide_eq_true h4])]
            by_cases h5 : a5 = b5
            · rw [same_iff.2 ⟨h0, h1, h2, h3, h4, h5⟩, h5]
              simp
            · rw [same_false (fun H => h5 H.2.2.2.2.2)]
              have : (a5.toList == b5.toList) = false := by
                rw [beq_eq_false_iff_ne]
                exact fun e => h5 (toList_inj e)
              rw [this]
          · rw [if_neg (by rw [decide_eq_false h4]; decide), same_false (fun H => h4 H.2.2.2.2.1)]
        · rw [if_pos h0, if_pos h1, if_pos (by rw [h2]), if_neg (fun e => h3 (toList_inj e)), same_false (fun H => h3 H.2.2.2.1)]
      · rw [if_pos h0, if_pos h1, if_neg (fun e => h2 (toList_inj e)), same_false (fun H => h2 H.2.2.1)]
    · rw [if_pos h0, if_neg h1, same_false (fun H => h1 H.2.1)]
  · rw [if_neg h0, same_false (fun H => h0 H.1)]
end Go.Proofs.YtbahagcidhmojaaDoor.PA
namespace Go.Proofs.YtbahagcidhmojaaDoor.PA
open Go.RowKit Go.Proofs.YtbahagcidhmojaaDoorW.PrintWords
theorem sawmilllaw58_EventLines.pure : sawmilllaw58_EventLines.Pure := by
  intro a0 a1 a2 a3 l a5 b0 b1 b2 b3 m b5 hA hB
  refine ⟨1000, ?_⟩
  obtain ⟨b, hb, hb'⟩ := few_some a0 a1 a2 a3 l a5
  obtain ⟨c, hc, hc'⟩ := few_some b0 b1 b2 b3 m b5
  unfold sawmilllaw58_EventLines.f
  rw [hb, Option.bind_some, hc]
  cases b with
  | false =>
    rw [if_neg (by simp)]
    simp only [sawmilllaw58_EventLines.j0]
    rw [if_pos trivial, awake_ge (by omega)]
    rfl
  | true =>
    rw [if_pos rfl, Option.bind_some]
    cases c with
    | false =>
      simp only [sawmilllaw58_EventLines.j0, Bool.not_false]
      rw [if_pos trivial, awake_ge (by omega)]
      rfl
    | true =>
      have hl := (hb' rfl).1
      simp only [sawmilllaw58_EventLines.j0, Bool.not_true]
      rw [if_neg (by simp), p_line (by omega), r_line hA.1 (by omega), Option.bind_some, Option.bind_some, if_pos rfl, p_same _ _ _ _ _ _ _ _ _ _ _ _ (by omega) (by omega), r_same _ _ _ _ _ _ _ _ _ _ _ _ (by omega) (by omega), Option.bind_some, Option.bind_some, if_pos (by simp), p_same _ _ _ _ _ _ _ _ _ _ _ _ (by omega) (by omega), Option.bind_some, if_pos (same_iff.2 ⟨rfl, rfl, rfl, rfl, rfl, rfl⟩), awake_ge (by omega)]
      rfl
end Go.Proofs.YtbahagcidhmojaaDoor.PA
