/- The plain laws: numbers, strings and lists. -/
import Derived.Test.YtbahagcidhmojaaDoorCEventApart5
import Derived.ChangeArms
import Derived.ChangeSame
import Derived.DataElems
import Derived.DataReads
import Derived.WideShapes
import Derived.Lib.ItoaNum
import Derived.Laws.BitsAllLaws
import Derived.Laws.BitsLemmas
import Derived.Laws.DeepNot64
import Derived.KernelRfl
import Derived.Laws.Strings
namespace Go.Proofs.YtbahagcidhmojaaDoorW.PrintWords
open Go.RowKit
def Opens (P : Program) (t : TypeId) {α : Type} (d : Kd α) (B : α → Prop) : Prop :=
  ∀ (H : Type) (enc : TypeId × Value → H) (W : World) (fuel : Nat) (cs : List Value) (x : DataW H × List MemPlace), DataW.trod enc P W 0 (fun _ => true) true fuel t cs = some x → ∃ a, d.K W a cs ∧ B a
theorem choose_list {α : Type} {p : Nat → α → Prop} : ∀ n : Nat, (∀ i, i < n → ∃ a, p i a) → ∃ l : List α, l.length = n ∧ ∀ i a, l[i]? = some a → p i a
  | 0, _ => ⟨[], rfl, fun i a h => by simp at h⟩
  | n + 1, h => by
    obtain ⟨l, hl, hp⟩ := choose_list n (fun i hi => h i (by omega))
    obtain ⟨a, ha⟩ := h n (by omega)
    refine ⟨l ++ [a], by simp [hl], fun i b hb => ?_⟩
    by_cases hi : i < l.length
    · rw [List.getElem?_append_left hi] at hb
      exact hp i b hb
    · rw [List.getElem?_append_right (by omega)] at hb
      obtain rfl : i = n := by
        have := (List.getElem?_eq_some_iff.1 hb).1
        simp at this
        omega
      rw [hl, Nat.sub_self] at hb
      simp at hb
      subst hb
      exact ha
section
variable {P : Program} {t : TypeId}
theorem opens_int {k : IntKind} (ht : P.underlying t = some (.int k)) : Opens P t (Kd.int k) (fun a => (Lit.int k a).wf = true) := by
  intro H enc W fuel cs x h
  obtain ⟨n, rfl, -, hw⟩ := DataW.trod_int ht h
  exact ⟨n, rfl, hw⟩
theorem opens_string (ht : P.underlying t = some .string) : Opens P t Kd.string (fun a => a.size ≤ maxLen) := by
  intro H enc W fuel cs x h
  obtain ⟨s, rfl, -, hs⟩ := DataW.trod_string ht h
  exact ⟨s, rfl, hs⟩
theorem opens_slice (e q : TypeId) {α : Type} {d : Kd α} {B : α → Prop} (ht : P.underlying t = some (.slice e)) (hc : P.cellsOf e = d.sz) (he : Opens P e d B) : Opens P t (Kd.slice q d) (fun l => l.length ≤ maxLen ∧ ∀ a ∈ l, B a) := by
  intro H enc W fuel cs x h
  rcases DataW.trod_slice ht h with ⟨rfl, -⟩ | ⟨ad, len, cap, elems, rest, n, -, rfl, -, -, hlen, hcap, hel, helem, -, -⟩
  · exact ⟨[], ⟨none, 0, rfl, Nat.le_refl _, rfl, Nat.zero_le _, fun h => absurd h (Nat.lt_irrefl 0)⟩, Nat.zero_le _, fun a ha => by simp at ha⟩
  · have key : ∀ i, i < len → ∃ a, B a ∧ ∃ c, c.length = d.sz ∧ d.K W a c ∧ ∀ j u, c[j]? = some u → W.cell? (ad.add (i * d.sz + j)) = some u := by
      intro i hi
      have h1 := helem i hi
      rw [List.getElem?_eq_getElem (by omega)] at h1
      obtain ⟨c, hcs, htr⟩ := Option.bind_eq_some_iff.mp h1
      obtain ⟨a, hK, hB⟩ := he H enc W n c _ htr
      refine ⟨a, hB, c, d.K_len hK, hK, fun j u hj => ?_⟩
      obtain ⟨-, -, hs⟩ := World.cells?_some hcs
      have hjl : j < P.cellsOf e := by rw [hc, ← d.K_len hK]; exact (List.getElem?_eq_some_iff.1 hj).1
      rw [← hc, ← Addr.add_add, hs j hjl, hj]
    obtain ⟨l, hl, hp⟩ := choose_list len key
    have hle : l.length ≤ maxLen := by omega
    refine ⟨l, ⟨some ad, cap, by rw [hl], by omega, rfl, hle, fun _ => ⟨ad, rfl, fun j p hj => ?_⟩⟩, hle, fun a ha => ?_⟩
    · obtain ⟨-, c, h1, h2, h3⟩ := hp j p hj
      exact ⟨c, h1, h2, h3⟩
    · obtain ⟨i, hi, rfl⟩ := List.getElem_of_mem ha
      exact (hp i _ (List.getElem?_eq_getElem hi)).1
def FOpens (P : Program) (fs : List Field) (off : Nat) {α : Type} (d : Kd α) (B : α → Prop) : Prop :=
  ∀ (H : Type) (enc : TypeId × Value → H) (W : World) (n : Nat) (cs : List Value), off + d.sz = cs.length →
    (∀ (i : Nat) (f : Field), fs[i]? = some f → ∃ y, DataW.trod enc P W 0 (fun _ => true) true n f.type ((cs.drop f.offset).take (P.cellsOf f.type)) = some y) → ∃ a, d.K W a (cs.drop off) ∧ B a
theorem fo_last {f : Field} {off : Nat} {α : Type} {d : Kd α} {B : α → Prop} (ho : f.offset = off) (hc : P.cellsOf f.type = d.sz) (h : Opens P f.type d B) : FOpens P [f] off d B := by
  intro H enc W n cs hl hf
  obtain ⟨y, hy⟩ := hf 0 f rfl
  rw [ho, hc, List.take_of_length_le (by rw [List.length_drop]; omega)] at hy
  exact h H enc W n _ _ hy
theorem fo_cons {f : Field} {fs : List Field} {off : Nat} {α β : Type} {d : Kd α} {d' : Kd β} {B : α → Prop} {B' : β → Prop} (ho : f.offset = off) (hc : P.cellsOf f.type = d.sz) (h : Opens P f.type d B) (hr : FOpens P fs (off + d.sz) d' B') :
    FOpens P (f :: fs) off (Kd.pair d d') (fun a => B a.1 ∧ B' a.2) := by
  intro H enc W n cs hl hf
  have hl' : off + (d.sz + d'.sz) = cs.length := hl
  obtain ⟨y, hy⟩ := hf 0 f rfl
  rw [ho, hc] at hy
  obtain ⟨a, hK, hB⟩ := h H enc W n _ _ hy
  obtain ⟨b, hK', hB'⟩ := hr H enc W n cs (by omega) (fun i g hg => hf (i + 1) g (by simpa using hg))
  refine ⟨(a, b), ⟨(cs.drop off).take d.sz, cs.drop (off + d.sz), ?_, hK, hK'⟩, hB, hB'⟩
  rw [← List.drop_drop]
  exact (List.take_append_drop _ _).symm
theorem opens_struct {fs : Array Field} {l : List Field} {α β : Type} {d : Kd α} {B : α → Prop} (ht : P.underlying t = some (.struct fs)) (hl : fs.toList = l) (hc : P.cellsOf t = d.sz) (h : FOpens P l 0 d B) (g : β → α) (inv : α → β) (hg : ∀ a, g (inv a) = a) :
    Opens P t (Kd.iso d g) (fun b => B (g b)) := by
  subst hl
  intro H enc W fuel cs x hx
  obtain ⟨xs, n, -, -, hlen, hxs, hf⟩ := DataW.trod_struct ht hx
  obtain ⟨a, hK, hB⟩ := h H enc W n cs (by rw [hlen, hc, Nat.zero_add]) (fun i f hif => by
    have hif' : fs[i]? = some f := by simpa using hif
    have hi : i < xs.length := by rw [hxs]; exact (Array.getElem?_eq_some_iff.1 hif').1
    exact ⟨xs[i], (hf i f hif').trans (List.getElem?_eq_getElem hi)⟩)
  exact ⟨inv a, by show d.K W (g (inv a)) cs; rw [hg]; exact hK, by show B (g (inv a)); rw [hg]; exact hB⟩
end
end Go.Proofs.YtbahagcidhmojaaDoorW.PrintWords
namespace Go.Proofs.YtbahagcidhmojaaDoor.PA
open Go.RowKit Go.Proofs.YtbahagcidhmojaaDoorW.PrintWords
set_option linter.unusedVariables false
def B24 (x : S24) : Prop := (Lit.int .i64 x.f0).wf = true ∧ (Lit.int .i64 x.f1).wf = true ∧ x.f2.size ≤ maxLen ∧ x.f3.size ≤ maxLen ∧ (x.f4.length ≤ maxLen ∧ ∀ a ∈ x.f4, (Lit.int .i64 a).wf = true) ∧ x.f5.size ≤ maxLen
theorem opens24 : Opens Tryd.prog 24 k24 B24 := by
  have h := opens_struct Tryd.underlying24 rfl (by kernel_rfl) (fo_cons rfl (by kernel_rfl) (opens_int Tryd.underlying3) (fo_cons rfl (by kernel_rfl) (opens_int Tryd.underlying3) (fo_cons rfl (by kernel_rfl) (opens_string Tryd.underlying9) (fo_cons rfl (by kernel_rfl) (opens_string Tryd.underlying9) (fo_cons rfl (by kernel_rfl) (opens_slice 3 3 Tryd.underlying22 (by kernel_rfl) (opens_int Tryd.underlying3)) (fo_last rfl (by kernel_rfl) (opens_string Tryd.underlying9))))))) (fun x : S24 => (x.f0, x.f1, x.f2, x.f3, x.f4, x.f5)) (fun y => ⟨y.1, y.2.1, y.2.2.1, y.2.2.2.1, y.2.2.2.2.1, y.2.2.2.2.2⟩) (fun _ => rfl)
  exact h
def sawmilllaw58_EventApart.Pure : Prop := ∀ (a0_0 : Int) (a0_1 : Int) (a0_2 : ByteArray) (a0_3 : ByteArray) (l0_4 : List Int) (a0_5 : ByteArray) (a1_0 : Int) (a1_1 : Int) (a1_2 : ByteArray) (a1_3 : ByteArray) (l1_4 : List Int) (a1_5 : ByteArray), B24 (⟨a0_0, a0_1, a0_2, a0_3, l0_4, a0_5⟩ : S24) → B24 (⟨a1_0, a1_1, a1_2, a1_3, l1_4, a1_5⟩ : S24) → ∃ k, sawmilllaw58_EventApart.f k a0_0 a0_1 a0_2 a0_3 l0_4 a0_5 a1_0 a1_1 a1_2 a1_3 l1_4 a1_5 = some true
end Go.Proofs.YtbahagcidhmojaaDoor.PA
namespace Go.Proofs.YtbahagcidhmojaaDoor.PA
open Go.RowKit Go.Proofs.YtbahagcidhmojaaDoorW.PrintWords
set_option linter.unusedVariables false
theorem dw64 {n : Int} (h0 : -9223372036854775808 ≤ n) (h1 : n ≤ 9223372036854775807) : wrap64 n = n := by unfold wrap64; omega
def itS (n : Int) : ByteArray := ⟨(Lib.itoa n).toArray⟩
def dcS (u : Nat) : ByteArray := ⟨(Lib.decDigits u).toArray⟩
theorem dc_len : ∀ (d u : Nat), u < 10 ^ (d + 1) → (Lib.decDigits u).length ≤ d + 1
  | 0, u, h => by rw [Lib.decDigits_one (by simpa using h)]; simp
  | d + 1, u, h => by
    by_cases hu : u < 10
    · rw [Lib.decDigits_one hu]; simp
    · rw [Lib.decDigits, dif_neg hu, List.length_append]
      have := dc_len d (u / 10) (by rw [Nat.pow_succ] at h; omega)
      simp only [List.length_cons, List.length_nil]
      omega
theorem dc_size (u : Nat) : (dcS u).size = (Lib.decDigits u).length := by simp [dcS, ByteArray.size]
theorem dc_size20 {u : Nat} (h : u < 18446744073709551616) : (dcS u).size ≤ 20 := by
  rw [dc_size]
  exact dc_len 19 u (by omega)
theorem it_size {n : Int} (h0 : -9223372036854775808 ≤ n) (h1 : n ≤ 9223372036854775807) : (itS n).size ≤ 21 := by
  unfold itS Lib.itoa
  split
  · have := dc_len 19 n.natAbs (by omega)
    simp only [ByteArray.size, List.size_toArray, List.length_cons]
    omega
  · have := dc_len 19 n.toNat (by omega)
    simp only [ByteArray.size, List.size_toArray]
    omega
theorem p_itoa {n : Int} (h0 : -9223372036854775808 ≤ n) (h1 : n ≤ 9223372036854775807) : strconv_Itoa.f n = some (itS n) := by
  unfold strconv_Itoa.f itS
  rw [if_pos ⟨h0, h1⟩]
def tw (n : Int) : ByteArray := strOfNums [48 + n / 10, 48 + n % 10]
theorem p_two {n : Int} (h0 : 0 ≤ n) (h1 : n < 100) : clock_two.f n = some (tw n) := by
  unfold clock_two.f tw
  rw [Int.tdiv_eq_ediv_of_nonneg h0, Int.tmod_eq_emod_of_nonneg h0, dw64 (n := n / 10) (by omega) (by omega), dw64 (by omega) (by omega), dw64 (by omega) (by omega), show (48 + n / 10) % 256 = 48 + n / 10 by omega, show (48 + n % 10) % 256 = 48 + n % 10 by omega]
theorem tw_size (n : Int) : (tw n).size = 2 := by unfold tw; rw [strOfNums_size]; rfl
def fmtV (a : Int) : ByteArray := ((((⟨#[100]⟩ : ByteArray) ++ dcS (a / 1440).toNat ++ (⟨#[32]⟩ : ByteArray)) ++ tw (a % 1440 / 60)) ++ (⟨#[58]⟩ : ByteArray)) ++ tw (a % 60)
theorem dc_it {n : Int} (h : 0 ≤ n) : itS n = dcS n.toNat := by unfold itS dcS Lib.itoa; rw [if_neg (by omega)]
theorem one_size (x : UInt8) : (⟨#[x]⟩ : ByteArray).size = 1 := rfl
theorem fmt_size {a : Int} (h0 : 0 ≤ a) (h1 : a ≤ 10000000) : (fmtV a).size ≤ 30 := by
  unfold fmtV
  have := dc_size20 (u := (a / 1440).toNat) (by omega)
  simp only [ByteArray.size_append, tw_size, one_size]
  omega
theorem p_format {a : Int} (h0 : 0 ≤ a) (h1 : a ≤ 10000000) : clock_Format.f a = some (fmtV a) := by
  have hd := dc_size20 (u := (a / 1440).toNat) (by omega)
  have ht : clock_isTime.f a = some true := by
    unfold clock_isTime.f
    rw [if_pos (by omega), decide_eq_true (by omega)]
  unfold clock_Format.f
  rw [ht, Option.bind_some, if_pos rfl, Int.tdiv_eq_ediv_of_nonneg h0, dw64 (n := a / 1440) (by omega) (by omega), p_itoa (by omega) (by omega), Option.bind_some, dc_it (by omega)]
  rw [if_pos (by omega), if_pos (by simp only [ByteArray.size_append, one_size]; omega), Int.tmod_eq_emod_of_nonneg h0, Int.tdiv_eq_ediv_of_nonneg (by omega), dw64 (n := a % 1440 / 60) (by omega) (by omega), p_two (by omega) (by omega), Option.bind_some]
  rw [if_pos (by simp only [ByteArray.size_append, one_size, tw_size]; omega), if_pos (by simp only [ByteArray.size_append, one_size, tw_size]; omega), Int.tmod_eq_emod_of_nonneg h0, p_two (by omega) (by omega), Option.bind_some, if_pos (by simp only [ByteArray.size_append, one_size, tw_size]; omega)]
  rfl
end Go.Proofs.YtbahagcidhmojaaDoor.PA
namespace Go.Proofs.YtbahagcidhmojaaDoor.PA
open Go.RowKit Go.Proofs.YtbahagcidhmojaaDoorW.PrintWords
set_option linter.unusedVariables false
theorem v64 {n : Int} (h0 : -9223372036854775808 ≤ n) (h1 : n ≤ 9223372036854775807) : wrap64 n = n := by unfold wrap64; omega
theorem wrap_u64 (n : Int) : IntKind.u64.wrap n = n % 18446744073709551616 := by simp [IntKind.wrap, IntKind.bits, IntKind.signed]
theorem vu64 {n : Int} (h0 : 0 ≤ n) (h1 : n < 18446744073709551616) : IntKind.u64.wrap n = n := by rw [wrap_u64]; omega
def enc (n : Nat) : List Int := if n < 128 then [(n : Int)] else (((128 + n % 128 : Nat) : Int)) :: enc (n / 128)
termination_by n
decreasing_by omega
theorem enc_lt {n : Nat} (h : n < 128) : enc n = [(n : Int)] := by rw [enc, if_pos h]
theorem enc_ge {n : Nat} (h : 128 ≤ n) : enc n = (((128 + n % 128 : Nat) : Int)) :: enc (n / 128) := by rw [enc, if_neg (by omega)]
theorem enc_head (n : Nat) : ∃ (b : Nat) (l : List Int), enc n = (b : Int) :: l ∧ b < 256 ∧ (b < 128 → n = b ∧ l = []) ∧ (128 ≤ b → 128 ≤ n ∧ b = 128 + n % 128 ∧ l = enc (n / 128)) := by
  by_cases h : n < 128
  · exact ⟨n, [], enc_lt h, by omega, fun _ => ⟨rfl, rfl⟩, fun h' => by omega⟩
  · exact ⟨128 + n % 128, enc (n / 128), enc_ge (by omega), by omega, fun h' => by omega, fun _ => ⟨by omega, rfl, rfl⟩⟩
theorem enc_len : ∀ (d n : Nat), n < 128 ^ (d + 1) → (enc n).length ≤ d + 1
  | 0, n, h => by rw [enc_lt (by simpa using h)]; simp
  | d + 1, n, h => by
    by_cases hn : n < 128
    · rw [enc_lt hn]; simp
    · rw [enc_ge (by omega)]
      have h2 : n / 128 < 128 ^ (d + 1) := by rw [Nat.pow_succ] at h; omega
      have := enc_len d (n / 128) h2
      simp only [List.length_cons]
      omega
theorem enc_len10 {n : Nat} (h : n < 18446744073709551616) : (enc n).length ≤ 10 := enc_len 9 n (by have : (128 : Nat) ^ 10 = 1180591620717411303424 := rfl; omega)
theorem enc_byte : ∀ (n : Nat), ∀ b ∈ enc n, 0 ≤ b ∧ b < 256 := by
  intro n
  induction n using Nat.strongRecOn with
  | ind n ih =>
    intro b hb
    by_cases h : n < 128
    · rw [enc_lt h] at hb; simp at hb; omega
    · rw [enc_ge (by omega)] at hb
      rcases List.mem_cons.1 hb with rfl | hb
      · omega
      · exact ih (n / 128) (by omega) b hb
def St (s : ByteArray) : Nat → List Int → Prop
  | _, [] => True
  | i, b :: l => i < s.size ∧ bt s i = b ∧ St s (i + 1) l
theorem St_append (s : ByteArray) : ∀ (l m : List Int) (i : Nat), St s i (l ++ m) ↔ St s i l ∧ St s (i + l.length) m
  | [], m, i => by simp [St]
  | b :: l, m, i => by
    have := St_append s l m (i + 1)
    simp only [List.cons_append, St, List.length_cons, this, show i + (l.length + 1) = i + 1 + l.length by omega, and_assoc]
theorem St_uniq (s : ByteArray) : ∀ (l m : List Int) (i : Nat), St s i l → St s i m → l.length = m.length → l = m
  | [], [], _, _, _, _ => rfl
  | [], _ :: _, _, _, _, h => by simp at h
  | _ :: _, [], _, _, _, h => by simp at h
  | b :: l, c :: m, i, hl, hm, h => by
    rw [← hl.2.1, ← hm.2.1, St_uniq s l m (i + 1) hl.2.2 hm.2.2 (by simpa using h)]
theorem enc_uniq (s : ByteArray) : ∀ (n m i : Nat), St s i (enc n) → St s i (enc m) → n = m := by
  intro n
  induction n using Nat.strongRecOn with
  | ind n ih =>
    intro m i hn hm
    obtain ⟨b, l, e1, h1, h2, h3⟩ := enc_head n
    obtain ⟨c, l', e2, h4, h5, h6⟩ := enc_head m
    rw [e1] at hn
    rw [e2] at hm
    have hbc : (b : Int) = c := hn.2.1.symm.trans hm.2.1
    by_cases h : b < 128
    · have := (h2 h).1; have := (h5 (by omega)).1; omega
    · obtain ⟨a1, a2, a3⟩ := h3 (by omega)
      obtain ⟨b1, b2, b3⟩ := h6 (by omega)
      have hn' := hn.2.2
      have hm' := hm.2.2
      rw [a3] at hn'
      rw [b3] at hm'
      have := ih (n / 128) (by omega) (m / 128) (i + 1) hn' hm'
      omega
theorem strOfNums_append (xs ys : List Int) : strOfNums xs ++ strOfNums ys = strOfNums (xs ++ ys) := by
  apply ByteArray.ext
  simp [strOfNums]
theorem bt_str (xs : List Int) (i : Nat) (h : i < xs.length) (hb : 0 ≤ xs[i] ∧ xs[i] < 256) : bt (strOfNums xs) i = xs[i] := by
  unfold bt
  have hs : (strOfNums xs).size = xs.length := strOfNums_size xs
  rw [dif_pos (by rw [hs]; simpa using h)]
  have : (strOfNums xs)[i]'(by rw [hs]; exact h) = UInt8.ofNat xs[i].toNat := by
    simp [strOfNums, ByteArray.getElem_eq_getElem_data]
  simp only [Int.toNat_natCast]
  rw [this, UInt8.toNat_ofNat']
  omega
theorem St_str : ∀ (l p : List Int), (∀ b ∈ l, 0 ≤ b ∧ b < 256) → St (strOfNums (p ++ l)) p.length l
  | [], p, _ => trivial
  | b :: l, p, h => by
    refine ⟨by rw [strOfNums_size]; simp, ?_, ?_⟩
    · have := bt_str (p ++ b :: l) p.length (by simp) (by simpa using h b (by simp))
      simpa using this
    · have := St_str l (p ++ [b]) (fun x hx => h x (List.mem_cons_of_mem _ hx))
      simpa using this
theorem St_str0 (l : List Int) (h : ∀ b ∈ l, 0 ≤ b ∧ b < 256) : St (strOfNums l) 0 l := St_str l [] h
theorem or128 {x : Int} (h0 : 0 ≤ x) (h1 : x < 256) : Go.bits .or .u8 x 128 = 128 + x % 128 := by
  rw [u8_or x 128 h0 h1 (by omega) (by omega)]
  have h : ∀ a : Fin 256, (a.val ||| 128) = 128 + a.val % 128 := by decide +kernel
  have := h ⟨x.toNat, by omega⟩
  simp only at this
  rw [show (128 : Int).toNat = 128 from rfl, this]
  omega
theorem put_l : ∀ (d n k : Nat) (xs : List Int) (x : Int), x = n → n < 128 ^ (d + 1) → d < k → xs.length + d < 1000000000 → wire_put.l0 k xs x = some (xs ++ enc n)
  | d, n, 0, xs, x, hx, h, hk, hl => by omega
  | d, n, k + 1, xs, x, hx, h, hk, hl => by
    simp only [wire_put.l0]
    by_cases hn : n < 128
    · rw [if_neg (by omega), if_pos (by omega), enc_lt hn, show x % 256 = n by omega]
    · obtain ⟨d, rfl⟩ : ∃ m, d = m + 1 := ⟨d - 1, by
        rcases d with _ | d
        · simp at h; omega
        · rfl⟩
      rw [if_pos (by omega), if_pos (by omega), or128 (by omega) (by omega)]
      have := put_l d (n / 128) k (xs ++ [128 + x % 256 % 128]) (x / 128) (by omega) (by rw [Nat.pow_succ] at h; omega) (by omega) (by simp; omega)
      rw [this, enc_ge (n := n) (by omega)]
      have e : 128 + x % 256 % 128 = ((128 + n % 128 : Nat) : Int) := by omega
      rw [e]
      simp
theorem put_enc {n k : Nat} (hn : n < 18446744073709551616) (hk : 10 ≤ k) (xs : List Int) (hl : xs.length < 100000000) {x : Int} (hx : x = n) : wire_put.f k xs x = some (xs ++ enc n) :=
  put_l 9 n k xs x hx (by have : (128 : Nat) ^ 10 = 1180591620717411303424 := rfl; omega) (by omega) (by omega)
def zz (a : Int) : Nat := if 0 ≤ a then (2 * a).toNat else (-2 * a - 1).toNat
def uz (n : Nat) : Int := if n % 2 = 1 then -((n / 2 : Nat) : Int) - 1 else ((n / 2 : Nat) : Int)
theorem uz_zz (a : Int) : uz (zz a) = a := by unfold zz uz; split <;> split <;> omega
theorem zz_lt {a : Int} (h0 : -9223372036854775808 ≤ a) (h1 : a ≤ 9223372036854775807) : zz a < 18446744073709551616 := by unfold zz; split <;> omega
theorem xor_ones (a : Nat) (ha : a < 18446744073709551616) : Go.bits .xor .u64 (a : Int) 18446744073709551615 = 18446744073709551615 - (a : Int) := by
  show IntKind.u64.wrap ((BitVec.ofInt 64 (a : Int) ^^^ BitVec.ofInt 64 18446744073709551615).toNat : Int) = _
  have h1 : BitVec.ofInt 64 18446744073709551615 = BitVec.allOnes 64 := by decide
  rw [h1, BitVec.xor_allOnes, BitVec.toNat_not, ofInt_u64 a ha, wrap_u64]
  omega
theorem xor_zero (a : Nat) (ha : a < 18446744073709551616) : Go.bits .xor .u64 (a : Int) 0 = (a : Int) := by
  rw [u64_xor a 0 (by omega) (by omega) (by omega) (by omega)]
  simp
theorem p_zigzag {a : Int} (h0 : -9223372036854775808 ≤ a) (h1 : a ≤ 9223372036854775807) : wire_zigzag.f a = some (zz a : Int) := by
  unfold wire_zigzag.f zz
  by_cases h : 0 ≤ a
  · rw [if_pos h, show a / 9223372036854775808 = 0 by omega, vu64 (n := a) h (by omega), vu64 (n := a * 2) (by omega) (by omega), vu64 (n := 0) (by omega) (by omega)]
    have := xor_zero (2 * a).toNat (by omega)
    rw [show a * 2 = ((2 * a).toNat : Int) by omega, this]
  · rw [if_neg h, show a / 9223372036854775808 = -1 by omega, wrap_u64 a, wrap_u64 (-1), wrap_u64]
    have := xor_ones (18446744073709551616 + 2 * a).toNat (by omega)
    rw [show a % 18446744073709551616 * 2 % 18446744073709551616 = ((18446744073709551616 + 2 * a).toNat : Int) by omega, show (-1 : Int) % 18446744073709551616 = 18446744073709551615 by decide, this]
    congr 1
    omega
end Go.Proofs.YtbahagcidhmojaaDoor.PA
namespace Go.Proofs.YtbahagcidhmojaaDoor.PA
open Go.RowKit Go.Proofs.YtbahagcidhmojaaDoorW.PrintWords
set_option linter.unusedVariables false
theorem bytesOf_byte (s : ByteArray) : ∀ b ∈ bytesOf s, 0 ≤ b ∧ b < 256 := by
  intro b hb
  unfold bytesOf at hb
  obtain ⟨x, -, rfl⟩ := List.mem_map.1 hb
  have := x.toNat_lt
  omega
theorem str_bytesOf (s : ByteArray) : strOfNums (bytesOf s) = s := by
  apply ByteArray.ext
  unfold strOfNums bytesOf
  rw [← Array.toList_inj]
  simp [List.map_map, Function.comp_def]
theorem bytesOf_inj {s t : ByteArray} (h : bytesOf s = bytesOf t) : s = t := by rw [← str_bytesOf s, h, str_bytesOf]
def tx (t : ByteArray) : List Int := enc t.size ++ bytesOf t
def zs : List Int → List Int
  | [] => []
  | n :: l => enc (zz n) ++ zs l
def ls (l : List Int) : List Int := enc l.length ++ zs l
theorem tx_byte (t : ByteArray) : ∀ b ∈ tx t, 0 ≤ b ∧ b < 256 := by
  intro b hb
  rcases List.mem_append.1 hb with h | h
  · exact enc_byte _ b h
  · exact bytesOf_byte t b h
theorem zs_byte : ∀ l : List Int, ∀ b ∈ zs l, 0 ≤ b ∧ b < 256
  | [], b, hb => by simp [zs] at hb
  | n :: l, b, hb => by
    rcases List.mem_append.1 hb with h | h
    · exact enc_byte _ b h
    · exact zs_byte l b h
theorem ls_byte (l : List Int) : ∀ b ∈ ls l, 0 ≤ b ∧ b < 256 := by
  intro b hb
  rcases List.mem_append.1 hb with h | h
  · exact enc_byte _ b h
  · exact zs_byte l b h
def In64 (n : Int) : Prop := -9223372036854775808 ≤ n ∧ n ≤ 9223372036854775807
theorem zs_len : ∀ l : List Int, (∀ n ∈ l, In64 n) → (zs l).length ≤ 10 * l.length
  | [], _ => by simp [zs]
  | n :: l, h => by
    have h1 := h n (by simp)
    have := zs_len l (fun m hm => h m (List.mem_cons_of_mem _ hm))
    have := enc_len10 (zz_lt h1.1 h1.2)
    simp only [zs, List.length_append, List.length_cons]
    omega
theorem tx_uniq (s : ByteArray) {t u : ByteArray} {i : Nat} (h1 : St s i (tx t)) (h2 : St s i (tx u)) : t = u := by
  unfold tx at h1 h2
  rw [St_append] at h1 h2
  have e := enc_uniq s _ _ i h1.1 h2.1
  have h1' := h1.2
  rw [e] at h1'
  exact bytesOf_inj (St_uniq s _ _ _ h1' h2.2 (by rw [bytesOf_length, bytesOf_length, e]))
theorem zs_uniq (s : ByteArray) : ∀ (l m : List Int) (i : Nat), l.length = m.length → St s i (zs l) → St s i (zs m) → l = m
  | [], [], _, _, _, _ => rfl
  | [], _ :: _, _, h, _, _ => by simp at h
  | _ :: _, [], _, h, _, _ => by simp at h
  | a :: l, b :: m, i, h, h1, h2 => by
    simp only [zs] at h1 h2
    rw [St_append] at h1 h2
    have e := enc_uniq s _ _ i h1.1 h2.1
    have e' : a = b := by rw [← uz_zz a, e, uz_zz]
    subst e'
    rw [zs_uniq s l m _ (by simpa using h) h1.2 h2.2]
theorem ls_uniq (s : ByteArray) {l m : List Int} {i : Nat} (h1 : St s i (ls l)) (h2 : St s i (ls m)) : l = m := by
  unfold ls at h1 h2
  rw [St_append] at h1 h2
  have e := enc_uniq s _ _ i h1.1 h2.1
  have h1' := h1.2
  rw [e] at h1'
  exact zs_uniq s _ _ _ e h1' h2.2
theorem zz_uniq (s : ByteArray) {a b : Int} {i : Nat} (h1 : St s i (enc (zz a))) (h2 : St s i (enc (zz b))) : a = b := by
  have e := enc_uniq s _ _ i h1 h2
  rw [← uz_zz a, e, uz_zz]
theorem p_int {a : Int} (h : In64 a) {k : Nat} (hk : 10 ≤ k) : wire_Int.f k a = some (strOfNums (enc (zz a))) := by
  unfold wire_Int.f
  rw [p_zigzag h.1 h.2, Option.bind_some, put_enc (zz_lt h.1 h.2) hk [] (by simp) rfl]
  rfl
theorem p_text (t : ByteArray) (ht : t.size ≤ 1000000000) {k : Nat} (hk : 10 ≤ k) : wire_Text.f k t = some (strOfNums (tx t)) := by
  unfold wire_Text.f
  have := enc_len10 (n := t.size) (by omega)
  rw [vu64 (n := (t.size : Int)) (by omega) (by omega), put_enc (n := t.size) (by omega) hk [] (by simp) rfl, Option.bind_some, List.nil_append, if_pos (by omega)]
  rfl
theorem rd_append (l m : List Int) (i : Int) (h : i = l.length) (x : Int) : rd (l ++ x :: m) i = x := by
  subst h
  simp [rd]
theorem p_ints_l : ∀ (m l : List Int) (xs : List Int) (k : Nat) (i : Int), i = l.length → (∀ n ∈ m, In64 n) → (l ++ m).length ≤ 1000000 → xs.length + 10 * m.length ≤ 50000000 → m.length + 11 ≤ k →
    wire_Ints.l0 k xs (l ++ m) ((l ++ m).length : Int) i = some (strOfNums (xs ++ zs m))
  | m, l, xs, 0, i, hi, hm, hl, hx, hk => by omega
  | [], l, xs, k + 1, i, hi, hm, hl, hx, hk => by
    simp only [wire_Ints.l0]
    rw [if_neg (by simp; omega)]
    simp [zs]
  | n :: m, l, xs, k + 1, i, hi, hm, hl, hx, hk => by
    have hn := hm n (by simp)
    simp only [List.length_append, List.length_cons] at hl hx hk
    simp only [wire_Ints.l0]
    have h10 := enc_len10 (zz_lt hn.1 hn.2)
    rw [if_pos (by simp; omega), if_pos (by omega), if_pos (by simp; omega), rd_append l m i hi n, p_zigzag hn.1 hn.2, Option.bind_some, put_enc (zz_lt hn.1 hn.2) (by omega) xs (by omega) rfl, Option.bind_some, v64 (by omega) (by omega)]
    have := p_ints_l m (l ++ [n]) (xs ++ enc (zz n)) k (i + 1) (by simp; omega) (fun x hx => hm x (List.mem_cons_of_mem _ hx)) (by simp; omega) (by simp only [List.length_append]; omega) (by omega)
    simp only [List.append_assoc, List.cons_append, List.nil_append] at this
    rw [this]
    rfl
theorem p_ints (l : List Int) (hm : ∀ n ∈ l, In64 n) (hl : l.length ≤ 1000000) {k : Nat} (hk : l.length + 11 ≤ k) : wire_Ints.f k l = some (strOfNums (ls l)) := by
  unfold wire_Ints.f
  have h10 := enc_len10 (n := l.length) (by omega)
  rw [vu64 (n := (l.length : Int)) (by omega) (by omega), put_enc (n := l.length) (by omega) (by omega) [] (by simp) rfl, Option.bind_some]
  have := p_ints_l l [] ([] ++ enc l.length) k 0 rfl hm (by simpa using hl) (by simp; omega) hk
  simpa [ls] using this
end Go.Proofs.YtbahagcidhmojaaDoor.PA
namespace Go.Proofs.YtbahagcidhmojaaDoor.PA
open Go.RowKit Go.Proofs.YtbahagcidhmojaaDoorW.PrintWords
set_option linter.unusedVariables false
theorem w64 {n : Int} (h0 : -9223372036854775808 ≤ n) (h1 : n ≤ 9223372036854775807) : wrap64 n = n := by unfold wrap64; omega
theorem tmod_pos {a b : Int} (h : 0 ≤ a) : Int.tmod a b = a % b := Int.tmod_eq_emod_of_nonneg h
def letSum (s : ByteArray) : Nat → Int
  | 0 => 0
  | n + 1 => (letSum s n + ((n : Int) + 1) * bt s n) % 23
theorem letSum_range (s : ByteArray) (n : Nat) : 0 ≤ letSum s n ∧ letSum s n < 23 := by
  cases n with
  | zero => simp [letSum]
  | succ n => unfold letSum; omega
theorem mod_mul (i b : Int) : ((i % 23 + 1) * b) % 23 = ((i + 1) * b) % 23 := by
  rw [Int.mul_emod, Int.add_emod, Int.emod_emod_of_dvd _ (Int.dvd_refl 23), ← Int.add_emod, ← Int.mul_emod]
theorem bounded_mul {c b : Int} (hc : 0 ≤ c) (hc' : c ≤ 23) (hb : 0 ≤ b) (hb' : b ≤ 255) : 0 ≤ c * b ∧ c * b ≤ 5865 := by
  constructor
  · exact Int.mul_nonneg hc hb
  · calc c * b ≤ 23 * b := Int.mul_le_mul_of_nonneg_right hc' hb
      _ ≤ 23 * 255 := Int.mul_le_mul_of_nonneg_left hb' (by omega)
theorem id_letter_l (s : ByteArray) (hs : s.size ≤ 1000000) (d : Nat) : ∀ (n k : Nat), n + d = s.size → d < k → ident_Letter.l0 k s (letSum s n) (s.size : Int) n = some (65 + letSum s s.size) := by
  induction d with
  | zero =>
    intro n k hn hk
    obtain ⟨k, rfl⟩ : ∃ m, k = m + 1 := ⟨k - 1, by omega⟩
    simp only [ident_Letter.l0]
    rw [if_neg (by omega)]
    have h := letSum_range s n
    obtain rfl : n = s.size := by omega
    congr 1
    omega
  | succ d ih =>
    intro n k hn hk
    obtain ⟨k, rfl⟩ : ∃ m, k = m + 1 := ⟨k - 1, by omega⟩
    have h := letSum_range s n
    have hb := bt_range s n
    have hm := bounded_mul (c := (n : Int) % 23 + 1) (b := bt s n) (by omega) (by omega) hb.1 hb.2
    simp only [ident_Letter.l0]
    rw [if_pos (by omega), if_pos (by omega), if_pos (by omega), tmod_pos (a := (n : Int)) (by omega), w64 (n := (n : Int) % 23 + 1) (by omega) (by omega), w64 (n := bt s n) (by omega) (by omega), w64 (n := ((n : Int) % 23 + 1) * bt s n) (by omega) (by omega), w64 (n := letSum s n + _) (by omega) (by omega), tmod_pos (by omega), w64 (n := (n : Int) + 1) (by omega) (by omega)]
    have e : (letSum s n + ((n : Int) % 23 + 1) * bt s n) % 23 = letSum s (n + 1) := by
      show _ = (letSum s n + ((n : Int) + 1) * bt s n) % 23
      rw [Int.add_emod, mod_mul, ← Int.add_emod]
    rw [e]
    exact ih (n + 1) k (by omega) (by omega)
theorem id_letter (s : ByteArray) (hs : s.size ≤ 1000000) {k : Nat} (hk : s.size < k) : ident_Letter.f k s = some (65 + letSum s s.size) :=
  id_letter_l s hs s.size 0 k (by omega) hk
def splitV (s : ByteArray) : Int × Int × Int :=
  if s.size = 8 then (if capB (bt s 0) = true then splitRes s (65 + letSum (s.extract 0 7) 7) else (0, 0, 10)) else (0, 0, 3)
def isV (s : ByteArray) (c : Int) : Bool := if (splitV s).2.2 = 0 then (splitV s).1 == c else false
theorem size7 {s : ByteArray} (h : s.size = 8) : (s.extract 0 7).size = 7 := by rw [ByteArray.size_extract, h]; rfl
theorem id_split (s : ByteArray) {k : Nat} (hk : 7 < k) : ident_Split.f k s = some (splitV s) := by
  unfold ident_Split.f splitV
  by_cases h8 : s.size = 8
  · rw [if_pos (by omega), if_pos h8]
    by_cases hc : capB (bt s 0) = true
    · rw [if_pos hc, if_pos hc, id_letter _ (by rw [size7 h8]; decide) (by rw [size7 h8]; exact hk), size7 h8]
      unfold splitRes
      by_cases hd : allDig s = true
      · simp only [if_pos hd, Option.bind_some]
      · rw [if_neg hd, if_neg hd]
    · rw [if_neg hc, if_neg hc]
  · rw [if_neg (by omega), if_neg h8]
theorem id_is (s : ByteArray) (c : Int) {k : Nat} (hk : 7 < k) : ident_Is.f k s c = some (isV s c) := by
  unfold ident_Is.f isV
  rw [id_split s hk, Option.bind_some]
  split <;> rfl
end Go.Proofs.YtbahagcidhmojaaDoor.PA
namespace Go.Proofs.YtbahagcidhmojaaDoor.PA
open Go.RowKit Go.Proofs.YtbahagcidhmojaaDoorW.PrintWords
set_option linter.unusedVariables false
set_option maxRecDepth 100000 in
theorem awake_true : sawmilllaw58_awake.f 40 = some true := by kernel_rfl
theorem awake_ge {k : Nat} (hk : 40 ≤ k) : sawmilllaw58_awake.f k = some true := at_rounds sawmilllaw58_awake.mono hk awake_true
def codeB (a : ByteArray) (c : Int) : Bool := if c = 0 then a.toList == ([] : List UInt8) else isV a c
theorem id_code (a : ByteArray) (c : Int) {k : Nat} (hk : 7 < k) : event_isCode.f k a c = some (codeB a c) := by
  unfold event_isCode.f codeB
  by_cases h : c = 0
  · rw [if_pos h, if_pos h]
  · rw [if_neg h, if_neg h, id_is a c hk, Option.bind_some]
def checkV (a0 a1 : Int) (a2 a3 : ByteArray) (l : List Int) (a5 : ByteArray) : Int :=
  if a0 < 1 ∨ 14 < a0 then 10 else if a1 < 0 ∨ 10000000 < a1 then 15 else if codeB a2 (kItem a0) = true ∧ codeB a3 (kOf a0) = true then (if 600 < (l.length : Int) ∨ 16384 < (a5.size : Int) then 4 else checkTail a0 l) else 6
theorem p_check (a0 a1 : Int) (a2 a3 : ByteArray) (l : List Int) (a5 : ByteArray) {k : Nat} (hk : 7 < k) : event_Check.f k a0 a1 a2 a3 l a5 = some (checkV a0 a1 a2 a3 l a5) := by
  unfold event_Check.f checkV
  by_cases h1 : a0 < 1 ∨ 14 < a0
  · rw [if_pos h1, if_pos h1]
  rw [if_neg h1, if_neg h1]
  by_cases h2 : a1 < 0
  · rw [if_pos h2, if_pos (show a1 < 0 ∨ 10000000 < a1 from .inl h2)]
  rw [if_neg h2]
  by_cases h3 : a1 > 10000000
  · rw [if_pos h3, if_pos (show a1 < 0 ∨ 10000000 < a1 from .inr h3)]
  rw [if_neg h3, if_neg (show ¬ (a1 < 0 ∨ 10000000 < a1) by omega), id_code _ _ hk, Option.bind_some]
  by_cases h4 : codeB a2 (kItem a0) = true
  · rw [if_pos h4, id_code _ _ hk, Option.bind_some]
    by_cases h5 : codeB a3 (kOf a0) = true
    · rw [if_pos h5, if_pos (And.intro h4 h5)]
      by_cases h6 : (l.length : Int) > 600
      · rw [if_pos h6, if_pos (show 600 < (l.length : Int) ∨ 16384 < (a5.size : Int) from .inl h6)]
      rw [if_neg h6]
      by_cases h7 : (a5.size : Int) > 16384
      · rw [if_pos h7, if_pos (show 600 < (l.length : Int) ∨ 16384 < (a5.size : Int) from .inr h7)]
      rw [if_neg h7, if_neg (show ¬ (600 < (l.length : Int) ∨ 16384 < (a5.size : Int)) by omega)]
    · rw [if_neg h5, if_neg (show ¬ (codeB a2 (kItem a0) = true ∧ codeB a3 (kOf a0) = true) from fun h => h5 h.2)]
  · rw [if_neg h4, if_neg (show ¬ (codeB a2 (kItem a0) = true ∧ codeB a3 (kOf a0) = true) from fun h => h4 h.1)]
theorem few_some (a0 a1 : Int) (a2 a3 : ByteArray) (l : List Int) (a5 : ByteArray) : ∃ b, sawmilllaw58_few.f a0 a1 a2 a3 l a5 = some b ∧ (b = true → (l.length : Int) ≤ 700 ∧ (a2.size : Int) ≤ 100 ∧ (a3.size : Int) ≤ 100 ∧ (a5.size : Int) ≤ 16484) := by
  unfold sawmilllaw58_few.f
  by_cases h1 : (l.length : Int) ≤ 700
  · rw [if_pos h1]
    by_cases h2 : (a2.size : Int) ≤ 100
    · rw [if_pos h2]
      by_cases h3 : (a3.size : Int) ≤ 100
      · rw [if_pos h3]
        exact ⟨_, rfl, fun h => ⟨h1, h2, h3, of_decide_eq_true h⟩⟩
      · rw [if_neg h3]; exact ⟨_, rfl, fun h => absurd h (by decide)⟩
    · rw [if_neg h2]; exact ⟨_, rfl, fun h => absurd h (by decide)⟩
  · rw [if_neg h1]; exact ⟨_, rfl, fun h => absurd h (by decide)⟩
end Go.Proofs.YtbahagcidhmojaaDoor.PA
namespace Go.Proofs.YtbahagcidhmojaaDoor.PA
open Go.RowKit Go.Proofs.YtbahagcidhmojaaDoorW.PrintWords
set_option linter.unusedVariables false
theorem toList_inj {a b : ByteArray} (h : a.toList = b.toList) : a = b := by
  rw [ByteArray.toList_eq, ByteArray.toList_eq] at h
  cases a with
  | mk x => cases b with
    | mk y => exact congrArg ByteArray.mk (by rw [← Array.toList_inj]; exact h)
theorem size_toList (a : ByteArray) : a.toList.length = a.size := by rw [ByteArray.toList_eq]; simp
def recE (a0 a1 : Int) (a2 a3 : ByteArray) (l : List Int) (a5 : ByteArray) : List Int := enc (zz a0) ++ enc (zz a1) ++ tx a2 ++ tx a3 ++ ls l ++ tx a5
structure Fit (a0 a1 : Int) (a2 a3 : ByteArray) (l : List Int) (a5 : ByteArray) : Prop where
  i0 : In64 a0
  i1 : In64 a1
  s2 : a2.size ≤ 1000
  s3 : a3.size ≤ 1000
  sl : l.length ≤ 700
  il : ∀ n ∈ l, In64 n
  s5 : a5.size ≤ 20000
theorem tx_len (t : ByteArray) (h : t.size ≤ 1000000) : (tx t).length ≤ 10 + t.size := by
  have := enc_len10 (n := t.size) (by omega)
  unfold tx
  rw [List.length_append, bytesOf_length]
  omega
theorem ls_len (l : List Int) (h : ∀ n ∈ l, In64 n) (hl : l.length ≤ 1000000) : (ls l).length ≤ 10 + 10 * l.length := by
  have := enc_len10 (n := l.length) (by omega)
  have := zs_len l h
  unfold ls
  rw [List.length_append]
  omega
theorem recE_byte (a0 a1 : Int) (a2 a3 : ByteArray) (l : List Int) (a5 : ByteArray) : ∀ b ∈ recE a0 a1 a2 a3 l a5, 0 ≤ b ∧ b < 256 := by
  intro b hb
  unfold recE at hb
  simp only [List.mem_append] at hb
  rcases hb with ((((h | h) | h) | h) | h) | h
  · exact enc_byte _ b h
  · exact enc_byte _ b h
  · exact tx_byte _ b h
  · exact tx_byte _ b h
  · exact ls_byte _ b h
  · exact tx_byte _ b h
section
variable {a0 a1 : Int} {a2 a3 : ByteArray} {l : List Int} {a5 : ByteArray} (H : Fit a0 a1 a2 a3 l a5)
include H
theorem Fit.lens : (enc (zz a0)).length ≤ 10 ∧ (enc (zz a1)).length ≤ 10 ∧ (tx a2).length ≤ 1010 ∧ (tx a3).length ≤ 1010 ∧ (ls l).length ≤ 7010 ∧ (tx a5).length ≤ 20010 := by
  have := H.s2
  have := H.s3
  have := H.sl
  have := H.s5
  have h1 := tx_len a2 (by omega)
  have h2 := tx_len a3 (by omega)
  have h3 := ls_len l H.il (by omega)
  have h4 := tx_len a5 (by omega)
  exact ⟨enc_len10 (zz_lt H.i0.1 H.i0.2), enc_len10 (zz_lt H.i1.1 H.i1.2), by omega, by omega, by omega, by omega⟩
theorem p_encode {k : Nat} (hk : 800 ≤ k) : event_Encode.f k a0 a1 a2 a3 l a5 = some (if checkV a0 a1 a2 a3 l a5 = 0 then (strOfNums (recE a0 a1 a2 a3 l a5), 0) else ((⟨#[]⟩ : ByteArray), checkV a0 a1 a2 a3 l a5)) := by
  obtain ⟨h0, h1, h2, h3, h4, h5⟩ := H.lens
  have hs2 := H.s2
  have hs3 := H.s3
  have hsl := H.sl
  have hs5 := H.s5
  unfold event_Encode.f
  rw [p_check _ _ _ _ _ _ (by omega), Option.bind_some]
  by_cases h : checkV a0 a1 a2 a3 l a5 = 0
  · rw [if_pos h, if_pos h, p_int H.i0 (by omega), Option.bind_some, p_int H.i1 (by omega), Option.bind_some, strOfNums_size, strOfNums_size, if_pos (by omega), p_text a2 (by omega) (by omega), Option.bind_some, strOfNums_append, strOfNums_size, strOfNums_size, List.length_append, if_pos (by omega),
      p_text a3 (by omega) (by omega), Option.bind_some, strOfNums_append, strOfNums_size, strOfNums_size, List.length_append, List.length_append, if_pos (by omega), p_ints l H.il (by omega) (by omega), Option.bind_some, strOfNums_append, strOfNums_size, strOfNums_size, List.length_append, List.length_append, List.length_append, if_pos (by omega),
      p_text a5 (by omega) (by omega), Option.bind_some, strOfNums_append, strOfNums_size, strOfNums_size, List.length_append, List.length_append, List.length_append, List.length_append, if_pos (by omega), strOfNums_append]
    rfl
  · rw [if_neg h, if_neg h]
end
theorem code_size {a : ByteArray} {c : Int} (h : codeB a c = true) : a.size ≤ 8 := by
  unfold codeB at h
  by_cases hc : c = 0
  · rw [if_pos hc] at h
    have : a.toList = [] := by simpa using h
    rw [← size_toList, this]
    simp
  · rw [if_neg hc] at h
    unfold isV splitV at h
    by_cases h8 : a.size = 8
    · omega
    · rw [if_neg h8] at h
      simp at h
structure Ok (a0 a1 : Int) (a2 a3 : ByteArray) (l : List Int) (a5 : ByteArray) : Prop where
  c : checkV a0 a1 a2 a3 l a5 = 0
  i0 : 1 ≤ a0 ∧ a0 ≤ 14
  i1 : 0 ≤ a1 ∧ a1 ≤ 10000000
  s2 : a2.size ≤ 8
  s3 : a3.size ≤ 8
  sl : l.length ≤ 600
  il : ∀ n ∈ l, -1099511627776 ≤ n ∧ n ≤ 1099511627776
  s5 : a5.size ≤ 16384
theorem ok_of {a0 a1 : Int} {a2 a3 : ByteArray} {l : List Int} {a5 : ByteArray} (h : checkV a0 a1 a2 a3 l a5 = 0) : Ok a0 a1 a2 a3 l a5 := by
  have hc := h
  unfold checkV at h
  by_cases h0 : a0 < 1 ∨ 14 < a0
  · rw [if_pos h0] at h; simp at h
  rw [if_neg h0] at h
  by_cases h1 : a1 < 0 ∨ 10000000 < a1
  · rw [if_pos h1] at h; simp at h
  rw [if_neg h1] at h
  by_cases h2 : codeB a2 (kItem a0) = true ∧ codeB a3 (kOf a0) = true
  · rw [if_pos h2] at h
    by_cases h3 : 600 < (l.length : Int) ∨ 16384 < (a5.size : Int)
    · rw [if_pos h3] at h; simp at h
    rw [if_neg h3] at h
    unfold checkTail at h
    by_cases h4 : l.all inBig = true
    · refine ⟨hc, by omega, by omega, code_size h2.1, code_size h2.2, by omega, fun n hn => ?_, by omega⟩
      have := List.all_eq_true.1 h4 n hn
      simpa [inBig] using this
    · rw [if_neg h4] at h; simp at h
  · rw [if_neg h2] at h; simp at h
theorem Ok.fit {a0 a1 : Int} {a2 a3 : ByteArray} {l : List Int} {a5 : ByteArray} (H : Ok a0 a1 a2 a3 l a5) : Fit a0 a1 a2 a3 l a5 := by
  have := H.i0
  have := H.i1
  have := H.s2
  have := H.s3
  have := H.sl
  have := H.s5
  exact ⟨⟨by omega, by omega⟩, ⟨by omega, by omega⟩, by omega, by omega, by omega, fun n hn => ⟨by have := H.il n hn; omega, by have := H.il n hn; omega⟩, by omega⟩
theorem rec_uniq (s : ByteArray) {i : Nat} {a0 a1 : Int} {a2 a3 : ByteArray} {l : List Int} {a5 : ByteArray} {b0 b1 : Int} {b2 b3 : ByteArray} {m : List Int} {b5 : ByteArray} (h : St s i (recE a0 a1 a2 a3 l a5)) (g : St s i (recE b0 b1 b2 b3 m b5)) :
    a0 = b0 ∧ a1 = b1 ∧ a2 = b2 ∧ a3 = b3 ∧ l = m ∧ a5 = b5 := by
  unfold recE at h g
  simp only [St_append, List.length_append] at h g
  obtain ⟨⟨⟨⟨⟨h0, h1⟩, h2⟩, h3⟩, h4⟩, h5⟩ := h
  obtain ⟨⟨⟨⟨⟨g0, g1⟩, g2⟩, g3⟩, g4⟩, g5⟩ := g
  obtain rfl := zz_uniq s h0 g0
  obtain rfl := zz_uniq s h1 g1
  obtain rfl := tx_uniq s h2 g2
  obtain rfl := tx_uniq s h3 g3
  obtain rfl := ls_uniq s h4 g4
  obtain rfl := tx_uniq s h5 g5
  exact ⟨rfl, rfl, rfl, rfl, rfl, rfl⟩
end Go.Proofs.YtbahagcidhmojaaDoor.PA
namespace Go.Proofs.YtbahagcidhmojaaDoor.PA
open Go.RowKit Go.Proofs.YtbahagcidhmojaaDoorW.PrintWords
set_option linter.unusedVariables false
theorem cat_assoc (a b c : ByteArray) : a ++ b ++ c = a ++ (b ++ c) := by
  apply ByteArray.ext
  simp
def sp : ByteArray := ⟨#[32]⟩
def numsB : List Int → ByteArray
  | [] => ⟨#[]⟩
  | n :: r => (sp ++ itS n) ++ numsB r
def opt (a : ByteArray) : ByteArray := if a.toList = ([] : List UInt8) then ⟨#[]⟩ else sp ++ a
def lineV (a0 a1 : Int) (a2 a3 : ByteArray) (l : List Int) : ByteArray := ((((fmtV a1 ++ sp) ++ kName a0) ++ opt a2) ++ opt a3) ++ (numsB l ++ (⟨#[10]⟩ : ByteArray))
theorem cat_nil (a : ByteArray) : a ++ (⟨#[]⟩ : ByteArray) = a := by
  apply ByteArray.ext
  simp
theorem nil_cat (a : ByteArray) : (⟨#[]⟩ : ByteArray) ++ a = a := by
  apply ByteArray.ext
  simp
theorem sp_size : sp.size = 1 := rfl
theorem opt_size (a : ByteArray) : (opt a).size ≤ a.size + 1 := by
  unfold opt
  split
  · exact Nat.zero_le _
  · rw [ByteArray.size_append, sp_size]; omega
theorem kName_size (n : Int) : (kName n).size ≤ 10 := by
  by_cases h : 1 ≤ n ∧ n ≤ 14
  · rcases kind_cases n h.1 h.2 with rfl | rfl | rfl | rfl | rfl | rfl | rfl | rfl | rfl | rfl | rfl | rfl | rfl | rfl <;> decide +kernel
  · rw [(kind_none n (by omega)).1]; decide +kernel
theorem p_nums : ∀ (m l : List Int) (x : ByteArray) (k : Nat) (i e : Int), i = l.length → e = ((l ++ m).length : Int) → (∀ n ∈ m, In64 n) → (l ++ m).length ≤ 1000000 → x.size + 30 * m.length ≤ 1000000000 → m.length < k →
    event_Line.l1 k x (l ++ m) e i = some (x ++ (numsB m ++ (⟨#[10]⟩ : ByteArray)))
  | [], l, x, k, i, e, hi, he, hm, hl, hx, hk => by
    obtain ⟨k, rfl⟩ : ∃ j, k = j + 1 := ⟨k - 1, by omega⟩
    unfold event_Line.l1
    simp only [List.append_nil] at *
    rw [if_neg (by omega), if_pos (by simp at hx; omega)]
    rw [show numsB [] = (⟨#[]⟩ : ByteArray) from rfl, nil_cat]
  | n :: m, l, x, k, i, e, hi, he, hm, hl, hx, hk => by
    obtain ⟨k, rfl⟩ : ∃ j, k = j + 1 := ⟨k - 1, by omega⟩
    have hn := hm n (by simp)
    have hs := it_size hn.1 hn.2
    simp only [List.length_append, List.length_cons] at he hl hx hk
    unfold event_Line.l1
    rw [if_pos (by omega), if_pos (by omega), if_pos (by simp; omega), rd_append l m i hi n, p_itoa hn.1 hn.2, Option.bind_some, if_pos (by omega), if_pos (by rw [ByteArray.size_append]; simp only [ByteArray.size, List.size_toArray, List.length_cons, List.length_nil] at *; omega), dw64 (by omega) (by omega)]
    have e1 : l ++ n :: m = (l ++ [n]) ++ m := by simp
    rw [e1, p_nums m (l ++ [n]) _ k (i + 1) e (by simp; omega) (by simp; omega) (fun y hy => hm y (by simp [hy])) (by simp; omega) (by rw [ByteArray.size_append, ByteArray.size_append]; have : (⟨#[32]⟩ : ByteArray).size = 1 := rfl; omega) (by omega)]
    rw [show numsB (n :: m) = (sp ++ itS n) ++ numsB m from rfl]
    simp only [cat_assoc]
    rfl
section
variable {a0 a1 : Int} {a2 a3 : ByteArray} {l : List Int} {a5 : ByteArray}
theorem p_codes (H : Ok a0 a1 a2 a3 l a5) {x : ByteArray} (hx : x.size ≤ 1000) {k : Nat} (hk : 700 ≤ k) :
    event_Line.l0 k x [a2, a3] 2 0 a0 a1 a2 a3 l a5 = some (((x ++ opt a2) ++ opt a3) ++ (numsB l ++ (⟨#[10]⟩ : ByteArray))) := by
  obtain ⟨k, rfl⟩ : ∃ j, k = j + 3 := ⟨k - 3, by omega⟩
  have s2 := H.s2
  have s3 := H.s3
  have sl := H.sl
  have h1 : (⟨#[32]⟩ : ByteArray).size = 1 := rfl
  have E0 : rdOf ByteArray.empty [a2, a3] 0 = a2 := rfl
  have E1 : rdOf ByteArray.empty [a2, a3] 1 = a3 := rfl
  have w1 : wrap64 (0 + 1) = 1 := dw64 (by omega) (by omega)
  have w2 : wrap64 (1 + 1) = 2 := dw64 (by omega) (by omega)
  have last : ∀ y : ByteArray, y.size ≤ 1000000 → event_Line.l0 (k + 1) y [a2, a3] 2 2 a0 a1 a2 a3 l a5 = some (y ++ (numsB l ++ (⟨#[10]⟩ : ByteArray))) := fun y hy => by
    conv => lhs; unfold event_Line.l0
    rw [if_neg (by omega)]
    exact p_nums l [] y k 0 _ rfl (by simp) (fun n hn => ⟨by have := H.il n hn; omega, by have := H.il n hn; omega⟩) (by simp; omega) (by omega) (by omega)
  have mid : ∀ y : ByteArray, y.size ≤ 100000 → event_Line.l0 (k + 2) y [a2, a3] 2 1 a0 a1 a2 a3 l a5 = some ((y ++ opt a3) ++ (numsB l ++ (⟨#[10]⟩ : ByteArray))) := fun y hy => by
    conv => lhs; unfold event_Line.l0
    rw [if_pos (by omega), if_pos (by omega), if_pos (by simp), E1, w2]
    unfold opt
    by_cases h : a3.toList = ([] : List UInt8)
    · rw [if_pos h, if_pos h, last y (by omega), cat_nil]
    · rw [if_neg h, if_neg h, if_pos (by omega), if_pos (by rw [ByteArray.size_append]; omega), last _ (by rw [ByteArray.size_append, ByteArray.size_append]; omega)]
      rfl
  conv => lhs; unfold event_Line.l0
  rw [if_pos (by omega), if_pos (by omega), if_pos (by simp), E0, w1]
  unfold opt
  by_cases h : a2.toList = ([] : List UInt8)
  · rw [if_pos h, if_pos h, mid x (by omega), cat_nil]
    rfl
  · rw [if_neg h, if_neg h, if_pos (by omega), if_pos (by rw [ByteArray.size_append]; omega), mid _ (by rw [ByteArray.size_append, ByteArray.size_append]; omega)]
    rfl
theorem p_line {k : Nat} (hk : 800 ≤ k) : event_Line.f k a0 a1 a2 a3 l a5 = some (if checkV a0 a1 a2 a3 l a5 = 0 then lineV a0 a1 a2 a3 l else (⟨#[]⟩ : ByteArray)) := by
  unfold event_Line.f
  rw [p_check _ _ _ _ _ _ (by omega), Option.bind_some]
  by_cases h : checkV a0 a1 a2 a3 l a5 = 0
  · have H := ok_of h
    have hf := fmt_size H.i1.1 H.i1.2
    have hn := kName_size a0
    have h1 : (⟨#[32]⟩ : ByteArray).size = 1 := rfl
    rw [if_pos h, if_pos h, p_format H.i1.1 H.i1.2, Option.bind_some, if_pos (by omega), event_Name.f, Option.bind_some, if_pos (by rw [ByteArray.size_append]; omega), Option.bind_some]
    exact p_codes H (by rw [ByteArray.size_append, ByteArray.size_append]; omega) (by omega)
  · rw [if_neg h, if_neg h]
end
theorem p_eq_l : ∀ (l m p q : List Int) (k : Nat) (i e : Int), p.length = q.length → l.length = m.length → i = p.length → e = ((p ++ l).length : Int) → (p ++ l).length ≤ 1000000 → l.length < k →
    slices_Equal_int_int.l0 k (p ++ l) (q ++ m) e i = some (decide (l = m))
  | [], m, p, q, k, i, e, hp, hl, hi, he, hs, hk => by
    obtain ⟨k, rfl⟩ : ∃ j, k = j + 1 := ⟨k - 1, by omega⟩
    obtain rfl : m = [] := List.length_eq_zero_iff.1 hl.symm
    unfold slices_Equal_int_int.l0
    rw [if_neg (by simp at he; omega)]
    simp
  | x :: l, m, p, q, k, i, e, hp, hl, hi, he, hs, hk => by
    obtain ⟨k, rfl⟩ : ∃ j, k = j + 1 := ⟨k - 1, by omega⟩
    obtain ⟨y, m, rfl⟩ : ∃ y m', m = y :: m' := by
      cases m with
      | nil => simp at hl
      | cons y m => exact ⟨y, m, rfl⟩
    simp only [List.length_append, List.length_cons] at hl he hs hk
    unfold slices_Equal_int_int.l0
    rw [if_pos (by omega), if_pos (by omega), if_pos (by simp; omega), if_pos (by simp; omega), rd_append p l i hi x, rd_append q m i (by omega) y]
    by_cases h : x = y
    · subst h
      rw [if_pos rfl, dw64 (by omega) (by omega), show p ++ x :: l = (p ++ [x]) ++ l by simp, show q ++ x :: m = (q ++ [x]) ++ m by simp, p_eq_l l m (p ++ [x]) (q ++ [x]) k (i + 1) e (by simp [hp]) (by omega) (by simp; omega) (by simp; omega) (by simp; omega) (by omega)]
      simp
    · rw [if_neg h, decide_eq_false (by intro e; exact h (List.cons.inj e).1)]
theorem p_equal (l m : List Int) (hl : l.length ≤ 1000000) {k : Nat} (hk : l.length < k) : slices_Equal_int_int.f k l m = some (decide (l = m)) := by
  unfold slices_Equal_int_int.f
  by_cases h : (l.length : Int) = (m.length : Int)
  · rw [if_pos h]
    exact p_eq_l l m [] [] k 0 _ rfl (by omega) rfl rfl (by simpa using hl) hk
  · rw [if_neg h, decide_eq_false (by intro e; rw [e] at h; exact h rfl)]
def sameV (a0 a1 : Int) (a2 a3 : ByteArray) (l : List Int) (a5 : ByteArray) (b0 b1 : Int) (b2 b3 : ByteArray) (m : List Int) (b5 : ByteArray) : Bool :=
  if a0 = b0 ∧ a1 = b1 ∧ a2 = b2 ∧ a3 = b3 ∧ l = m ∧ a5 = b5 then true else false
theorem same_iff {a0 a1 : Int} {a2 a3 : ByteArray} {l : List Int} {a5 : ByteArray} {b0 b1 : Int} {b2 b3 : ByteArray} {m : List Int} {b5 : ByteArray} :
    sameV a0 a1 a2 a3 l a5 b0 b1 b2 b3 m b5 = true ↔ a0 = b0 ∧ a1 = b1 ∧ a2 = b2 ∧ a3 = b3 ∧ l = m ∧ a5 = b5 := by
  unfold sameV
  split <;> simp [*]
theorem same_false {a0 a1 : Int} {a2 a3 : ByteArray} {l : List Int} {a5 : ByteArray} {b0 b1 : Int} {b2 b3 : ByteArray} {m : List Int} {b5 : ByteArray} (h : ¬ (a0 = b0 ∧ a1 = b1 ∧ a2 = b2 ∧ a3 = b3 ∧ l = m ∧ a5 = b5)) :
    sameV a0 a1 a2 a3 l a5 b0 b1 b2 b3 m b5 = false := by
  unfold sameV
  rw [if_neg h]
theorem p_same (a0 a1 : Int) (a2 a3 : ByteArray) (l : List Int) (a5 : ByteArray) (b0 b1 : Int) (b2 b3 : ByteArray) (m : List Int) (b5 : ByteArray) (hl : l.length ≤ 1000000) {k : Nat} (hk : l.length < k) :
    event_Same.f k a0 a1 a2 a3 l a5 b0 b1 b2 b3 m b5 = some (sameV a0 a1 a2 a3 l a5 b0 b1 b2 b3 m b5) := by
  unfold event_Same.f
  by_cases h0 : a0 = b0
  · by_cases h1 : a1 = b1
    · by_cases h2 : a2 = b2
      · by_cases h3 : a3 = b3
        · by_cases h5 : a5 = b5
          · rw [if_pos h0, if_pos h1, if_pos (by rw [h2]), if_pos (by rw [h3]), if_pos (by rw [h5]), p_equal l m hl hk, Option.bind_some]
            by_cases h4 : l = m
            · rw [decide_eq_true h4, same_iff.2 ⟨h0, h1, h2, h3, h4, h5⟩]
            · rw [decide_eq_false h4, same_false (fun H => h4 H.2.2.2.2.1)]
          · rw [if_pos h0, if_pos h1, if_pos (by rw [h2]), if_pos (by rw [h3]), if_neg (fun e => h5 (toList_inj e)), same_false (fun H => h5 H.2.2.2.2.2)]
        · rw [if_pos h0, if_pos h1, if_pos (by rw [h2]), if_neg (fun e => h3 (toList_inj e)), same_false (fun H => h3 H.2.2.2.1)]
      · rw [if_pos h0, if_pos h1, if_neg (fun e => h2 (toList_inj e)), same_false (fun H => h2 H.2.2.1)]
    · rw [if_pos h0, if_neg h1, same_false (fun H => h1 H.2.1)]
  · rw [if_neg h0, same_false (fun H => h0 H.1)]
end Go.Proofs.YtbahagcidhmojaaDoor.PA
namespace Go.Proofs.YtbahagcidhmojaaDoor.PA
open Go.RowKit Go.Proofs.YtbahagcidhmojaaDoorW.PrintWords
set_option linter.unusedVariables false
def Clean (x : List UInt8) : Prop := ∀ b ∈ x, b ≠ 32 ∧ b ≠ 10
theorem cut : ∀ (x y r s : List UInt8) (c d : UInt8), Clean x → Clean y → (c = 32 ∨ c = 10) → (d = 32 ∨ d = 10) → x ++ c :: r = y ++ d :: s → x = y ∧ c = d ∧ r = s
  | [], [], r, s, c, d, hx, hy, hc, hd, h => by
    simp only [List.nil_append, List.cons.injEq] at h
    exact ⟨rfl, h.1, h.2⟩
  | [], b :: y, r, s, c, d, hx, hy, hc, hd, h => by
    simp only [List.nil_append, List.cons_append, List.cons.injEq] at h
    have := hy b (by simp)
    rw [← h.1] at this
    rcases hc with e | e <;> simp [e] at this
  | a :: x, [], r, s, c, d, hx, hy, hc, hd, h => by
    simp only [List.nil_append, List.cons_append, List.cons.injEq] at h
    have := hx a (by simp)
    rw [h.1] at this
    rcases hd with e | e <;> simp [e] at this
  | a :: x, b :: y, r, s, c, d, hx, hy, hc, hd, h => by
    simp only [List.cons_append, List.cons.injEq] at h
    obtain ⟨e, h2, h3⟩ := cut x y r s c d (fun z hz => hx z (by simp [hz])) (fun z hz => hy z (by simp [hz])) hc hd h.2
    exact ⟨by rw [h.1, e], h2, h3⟩
theorem dd_mem (u : Nat) : ∀ b ∈ Lib.decDigits u, 48 ≤ b.toNat ∧ b.toNat ≤ 57 := by
  induction u using Nat.strongRecOn with
  | _ u ih =>
    intro b hb
    by_cases h : u < 10
    · rw [Lib.decDigits_one h] at hb
      simp only [List.mem_cons, List.not_mem_nil, or_false] at hb
      rw [hb, UInt8.toNat_ofNat', Nat.mod_eq_of_lt (by omega)]
      omega
    · rw [Lib.decDigits, dif_neg h] at hb
      rcases List.mem_append.1 hb with hb | hb
      · exact ih (u / 10) (by omega) b hb
      · simp only [List.mem_cons, List.not_mem_nil, or_false] at hb
        rw [hb, UInt8.toNat_ofNat', Nat.mod_eq_of_lt (by omega)]
        omega
theorem clean_of {x : List UInt8} (h : ∀ b ∈ x, 33 ≤ b.toNat) : Clean x := fun b hb => by
  have := h b hb
  constructor
  · intro e; rw [e] at this; exact absurd this (by decide)
  · intro e; rw [e] at this; exact absurd this (by decide)
theorem dd_clean (u : Nat) : Clean (Lib.decDigits u) := clean_of fun b hb => by have := dd_mem u b hb; omega
theorem it_clean (n : Int) : Clean (Lib.itoa n) := clean_of fun b hb => by
  unfold Lib.itoa at hb
  split at hb
  · rcases List.mem_cons.1 hb with hb | hb
    · rw [hb]; decide
    · have := dd_mem _ b hb; omega
  · have := dd_mem _ b hb; omega
def dval (l : List UInt8) : Nat := l.foldl (fun a b => a * 10 + (b.toNat - 48)) 0
theorem dval_dd (u : Nat) : dval (Lib.decDigits u) = u := by
  induction u using Nat.strongRecOn with
  | _ u ih =>
    by_cases h : u < 10
    · rw [Lib.decDigits_one h]
      simp only [dval, List.foldl_cons, List.foldl_nil, UInt8.toNat_ofNat']
      rw [Nat.mod_eq_of_lt (by omega)]
      omega
    · have e := ih (u / 10) (by omega)
      unfold dval at e
      rw [Lib.decDigits, dif_neg h]
      unfold dval
      rw [List.foldl_append, e]
      simp only [List.foldl_cons, List.foldl_nil, UInt8.toNat_ofNat']
      rw [Nat.mod_eq_of_lt (by omega)]
      omega
theorem dd_inj {u v : Nat} (h : Lib.decDigits u = Lib.decDigits v) : u = v := by rw [← dval_dd u, h, dval_dd]
theorem it_inj {n m : Int} (h : Lib.itoa n = Lib.itoa m) : n = m := by
  have no : ∀ (u v : Nat), 45 :: Lib.decDigits u ≠ Lib.decDigits v := fun u v e => by
    have := dd_mem v 45 (by rw [← e]; simp)
    exact absurd this.1 (by decide)
  unfold Lib.itoa at h
  split at h
  · split at h
    · have := dd_inj (List.cons.inj h).2
      omega
    · exact (no _ _ h).elim
  · split at h
    · exact (no _ _ h.symm).elim
    · have := dd_inj h
      omega
def nl : List Int → List UInt8
  | [] => [10]
  | n :: r => 32 :: (Lib.itoa n ++ nl r)
theorem nl_eq : ∀ l : List Int, (numsB l ++ (⟨#[10]⟩ : ByteArray)).data.toList = nl l
  | [] => rfl
  | n :: l => by
    have ih := nl_eq l
    rw [show numsB (n :: l) = (sp ++ itS n) ++ numsB l from rfl, cat_assoc, cat_assoc, ByteArray.data_append, Array.toList_append, ByteArray.data_append, Array.toList_append, ih]
    rfl
theorem nl_head : ∀ l : List Int, ∃ c r, nl l = c :: r ∧ (c = 32 ∨ c = 10)
  | [] => ⟨10, [], rfl, Or.inr rfl⟩
  | n :: l => ⟨32, _, rfl, Or.inl rfl⟩
theorem nl_inj : ∀ (l m : List Int), nl l = nl m → l = m
  | [], [], _ => rfl
  | [], m :: ms, h => by
    have := (List.cons.inj h).1
    exact absurd this (by decide)
  | n :: l, [], h => by
    have := (List.cons.inj h).1
    exact absurd this (by decide)
  | n :: l, m :: ms, h => by
    have h1 := (List.cons.inj h).2
    obtain ⟨c, r, hc, hc'⟩ := nl_head l
    obtain ⟨d, s, hd, hd'⟩ := nl_head ms
    rw [hc, hd] at h1
    obtain ⟨e1, e2, e3⟩ := cut _ _ r s c d (it_clean n) (it_clean m) hc' hd' h1
    rw [it_inj e1, nl_inj l ms (by rw [hc, hd, e2, e3])]
theorem name_clean : ∀ i : Fin 14, ∀ b ∈ (kName ((i.val : Int) + 1)).data.toList, 33 ≤ b.toNat := by decide +kernel
theorem name_inj : ∀ i j : Fin 14, (kName ((i.val : Int) + 1)).data.toList = (kName ((j.val : Int) + 1)).data.toList → i = j := by decide +kernel
theorem kname_clean {n : Int} (h : 1 ≤ n ∧ n ≤ 14) : Clean (kName n).data.toList := by
  have := name_clean ⟨(n - 1).toNat, by omega⟩
  rw [show (((⟨(n - 1).toNat, by omega⟩ : Fin 14).val : Int) + 1) = n by simp only []; omega] at this
  exact clean_of this
theorem kname_inj {n m : Int} (hn : 1 ≤ n ∧ n ≤ 14) (hm : 1 ≤ m ∧ m ≤ 14) (h : (kName n).data.toList = (kName m).data.toList) : n = m := by
  have := name_inj ⟨(n - 1).toNat, by omega⟩ ⟨(m - 1).toNat, by omega⟩
  rw [show (((⟨(n - 1).toNat, by omega⟩ : Fin 14).val : Int) + 1) = n by simp only []; omega, show (((⟨(m - 1).toNat, by omega⟩ : Fin 14).val : Int) + 1) = m by simp only []; omega] at this
  have := congrArg Fin.val (this h)
  simp only [] at this
  omega
theorem u8_inj {x y : Nat} (hx : x < 256) (hy : y < 256) (h : UInt8.ofNat x = UInt8.ofNat y) : x = y := by
  have := congrArg UInt8.toNat h
  rw [UInt8.toNat_ofNat', UInt8.toNat_ofNat', Nat.mod_eq_of_lt (by omega), Nat.mod_eq_of_lt (by omega)] at this
  exact this
theorem tw_inj {n m : Int} (hn : 0 ≤ n ∧ n < 100) (hm : 0 ≤ m ∧ m < 100) (h : (tw n).data.toList = (tw m).data.toList) : n = m := by
  unfold tw at h
  rw [strOfNums_data, strOfNums_data] at h
  simp only [List.map_cons, List.map_nil, List.cons.injEq, and_true] at h
  have h1 := u8_inj (by omega) (by omega) h.1
  have h2 := u8_inj (by omega) (by omega) h.2
  omega
theorem data_cat (a b : ByteArray) : (a ++ b).data.toList = a.data.toList ++ b.data.toList := by rw [ByteArray.data_append, Array.toList_append]
theorem len_data (a : ByteArray) : a.data.toList.length = a.size := by rw [Array.length_toList]; rfl
theorem line_list (a0 a1 : Int) (a2 a3 : ByteArray) (l : List Int) : (lineV a0 a1 a2 a3 l).data.toList =
    100 :: (Lib.decDigits (a1 / 1440).toNat ++ 32 :: ((tw (a1 % 1440 / 60)).data.toList ++ (58 :: ((tw (a1 % 60)).data.toList ++ (32 :: ((kName a0).data.toList ++ ((opt a2).data.toList ++ ((opt a3).data.toList ++ nl l)))))))) := by
  unfold lineV fmtV
  rw [← nl_eq]
  simp only [data_cat, List.append_assoc]
  rfl
theorem check_code {a0 a1 : Int} {a2 a3 : ByteArray} {l : List Int} {a5 : ByteArray} (h : checkV a0 a1 a2 a3 l a5 = 0) : codeB a2 (kItem a0) = true ∧ codeB a3 (kOf a0) = true := by
  unfold checkV at h
  by_cases h0 : a0 < 1 ∨ 14 < a0
  · rw [if_pos h0] at h; simp at h
  rw [if_neg h0] at h
  by_cases h1 : a1 < 0 ∨ 10000000 < a1
  · rw [if_pos h1] at h; simp at h
  rw [if_neg h1] at h
  by_cases h2 : codeB a2 (kItem a0) = true ∧ codeB a3 (kOf a0) = true
  · exact h2
  · rw [if_neg h2] at h; simp at h
theorem check_text {a0 a1 : Int} {a2 a3 : ByteArray} {l : List Int} {a5 b5 : ByteArray} (h : checkV a0 a1 a2 a3 l a5 = 0) (hb : b5.size ≤ 16384) : checkV a0 a1 a2 a3 l b5 = 0 := by
  have H := ok_of h
  have s5 := H.s5
  have sl := H.sl
  have h5 : ¬ (600 < (l.length : Int) ∨ 16384 < (a5.size : Int)) := by omega
  have h6 : ¬ (600 < (l.length : Int) ∨ 16384 < (b5.size : Int)) := by omega
  unfold checkV at h ⊢
  rw [if_neg h5] at h
  rw [if_neg h6]
  exact h
theorem code_eight {a : ByteArray} {c : Int} (h : codeB a c = true) : (c = 0 ∧ a.toList = []) ∨ (c ≠ 0 ∧ a.size = 8) := by
  unfold codeB at h
  by_cases hc : c = 0
  · rw [if_pos hc] at h
    exact Or.inl ⟨hc, by simpa using h⟩
  · rw [if_neg hc] at h
    refine Or.inr ⟨hc, ?_⟩
    unfold isV splitV at h
    by_cases h8 : a.size = 8
    · exact h8
    · rw [if_neg h8] at h
      simp at h
theorem opt_inj {a b : ByteArray} {c : Int} (ha : codeB a c = true) (hb : codeB b c = true) {r s : List UInt8} (h : (opt a).data.toList ++ r = (opt b).data.toList ++ s) : a = b ∧ r = s := by
  rcases code_eight ha with ⟨h1, h2⟩ | ⟨h1, h2⟩
  · rcases code_eight hb with ⟨g1, g2⟩ | ⟨g1, g2⟩
    · have e : a = b := toList_inj (by rw [h2, g2])
      subst e
      exact ⟨rfl, List.append_cancel_left h⟩
    · exact absurd h1 g1
  · rcases code_eight hb with ⟨g1, g2⟩ | ⟨g1, g2⟩
    · exact absurd g1 h1
    · have o : ∀ x : ByteArray, x.size = 8 → opt x = sp ++ x := fun x hx => by
        unfold opt
        rw [if_neg]
        intro e
        have := size_toList x
        rw [e, hx] at this
        simp at this
      rw [o a h2, o b g2, data_cat, data_cat] at h
      obtain ⟨h3, h4⟩ := List.append_inj h (by simp only [List.length_append, len_data]; omega)
      have h5 := List.append_cancel_left h3
      refine ⟨?_, h4⟩
      apply ByteArray.ext
      rw [← Array.toArray_toList (xs := a.data), h5, Array.toArray_toList]
theorem line_inj {a0 a1 : Int} {a2 a3 : ByteArray} {l : List Int} {a5 : ByteArray} {b0 b1 : Int} {b2 b3 : ByteArray} {m : List Int} {b5 : ByteArray}
    (ha : checkV a0 a1 a2 a3 l a5 = 0) (hb : checkV b0 b1 b2 b3 m b5 = 0) (h : lineV a0 a1 a2 a3 l = lineV b0 b1 b2 b3 m) : a0 = b0 ∧ a1 = b1 ∧ a2 = b2 ∧ a3 = b3 ∧ l = m := by
  have H := ok_of ha
  have G := ok_of hb
  have ca := check_code ha
  have cb := check_code hb
  have i1 := H.i1
  have j1 := G.i1
  have hL : (lineV a0 a1 a2 a3 l).data.toList = (lineV b0 b1 b2 b3 m).data.toList := by rw [h]
  rw [line_list, line_list] at hL
  have hL := (List.cons.inj hL).2
  obtain ⟨e1, -, hL⟩ := cut _ _ _ _ 32 32 (dd_clean _) (dd_clean _) (Or.inl rfl) (Or.inl rfl) hL
  have e1 := dd_inj e1
  obtain ⟨e2, hL⟩ := List.append_inj hL (by rw [len_data, len_data, tw_size, tw_size])
  have e2 := tw_inj (by omega) (by omega) e2
  have hL := (List.cons.inj hL).2
  obtain ⟨e3, hL⟩ := List.append_inj hL (by rw [len_data, len_data, tw_size, tw_size])
  have e3 := tw_inj (by omega) (by omega) e3
  have hL := (List.cons.inj hL).2
  have hd : ∀ (x y : ByteArray) (z : List Int), ∃ c r, (opt x).data.toList ++ ((opt y).data.toList ++ nl z) = c :: r ∧ (c = 32 ∨ c = 10) := fun x y z => by
    have o : ∀ (x : ByteArray) (t : List UInt8), (∃ c r, t = c :: r ∧ (c = 32 ∨ c = 10)) → ∃ c r, (opt x).data.toList ++ t = c :: r ∧ (c = 32 ∨ c = 10) := fun x t ht => by
      unfold opt
      split
      · simpa using ht
      · exact ⟨32, _, by rw [data_cat]; rfl, Or.inl rfl⟩
    exact o x _ (o y _ (nl_head z))
  obtain ⟨c, r, hc, hc'⟩ := hd a2 a3 l
  obtain ⟨d, s, hd1, hd'⟩ := hd b2 b3 m
  rw [hc, hd1] at hL
  obtain ⟨e4, e5, e6⟩ := cut _ _ r s c d (kname_clean H.i0) (kname_clean G.i0) hc' hd' hL
  have e0 := kname_inj H.i0 G.i0 e4
  subst e0
  have hR : (opt a2).data.toList ++ ((opt a3).data.toList ++ nl l) = (opt b2).data.toList ++ ((opt b3).data.toList ++ nl m) := by rw [hc, hd1, e5, e6]
  obtain ⟨f2, hR⟩ := opt_inj ca.1 cb.1 hR
  obtain ⟨f3, hR⟩ := opt_inj ca.2 cb.2 hR
  exact ⟨rfl, by omega, f2, f3, nl_inj l m hR⟩
theorem bt_last (x : ByteArray) : bt (x ++ (⟨#[10]⟩ : ByteArray)) ((x.size : Int)) = 10 := by
  have e : x ++ (⟨#[10]⟩ : ByteArray) = strOfNums (bytesOf x ++ [10]) := by
    rw [← strOfNums_append, str_bytesOf]
    rfl
  have hl : (bytesOf x).length = x.size := by
    unfold bytesOf
    rw [List.length_map, len_data]
  rw [e, ← hl, bt_str (bytesOf x ++ [10]) (bytesOf x).length (by simp) (by simp)]
  simp
end Go.Proofs.YtbahagcidhmojaaDoor.PA
namespace Go.Proofs.YtbahagcidhmojaaDoor.PA
open Go.RowKit Go.Proofs.YtbahagcidhmojaaDoorW.PrintWords
theorem apart_awake (k : Nat) (hk : 50 ≤ k) (a0 a1 : Int) (a2 a3 : ByteArray) (l : List Int) (a5 : ByteArray) (b0 b1 : Int) (b2 b3 : ByteArray) (m : List Int) (b5 : ByteArray) : sawmilllaw58_EventApart.j0 k true a0 a1 a2 a3 l a5 b0 b1 b2 b3 m b5 = some true := by
  obtain ⟨k, rfl⟩ : ∃ j, k = j + 1 := ⟨k - 1, by omega⟩
  simp only [sawmilllaw58_EventApart.j0]
  rw [if_pos trivial, awake_ge (by omega)]
  rfl
theorem beq_sym (x y : ByteArray) (b : Bool) (h : x = y ↔ b = true) : (x.toList == y.toList) = b := by
  cases b with
  | true => rw [h.2 rfl]; simp
  | false =>
    rw [beq_eq_false_iff_ne]
    exact fun e => absurd (h.1 (toList_inj e)) (by simp)
theorem sawmilllaw58_EventApart.pure : sawmilllaw58_EventApart.Pure := by
  intro a0 a1 a2 a3 l a5 b0 b1 b2 b3 m b5 hA hB
  refine ⟨1000, ?_⟩
  obtain ⟨b, hb, hb'⟩ := few_some a0 a1 a2 a3 l a5
  obtain ⟨c, hc, hc'⟩ := few_some b0 b1 b2 b3 m b5
  unfold sawmilllaw58_EventApart.f
  rw [hb, Option.bind_some, hc]
  cases b with
  | false => rw [if_neg (by simp)]; exact apart_awake _ (by omega) _ _ _ _ _ _ _ _ _ _ _ _
  | true =>
    rw [if_pos rfl, Option.bind_some]
    cases c with
    | false => rw [if_neg (by simp)]; exact apart_awake _ (by omega) _ _ _ _ _ _ _ _ _ _ _ _
    | true =>
      rw [if_pos rfl, p_check _ _ _ _ _ _ (by omega), p_check _ _ _ _ _ _ (by omega), Option.bind_some]
      by_cases ha : checkV a0 a1 a2 a3 l a5 = 0
      · rw [if_pos ha, Option.bind_some]
        by_cases hb0 : checkV b0 b1 b2 b3 m b5 = 0
        · have H := ok_of ha
          have G := ok_of hb0
          have sl := H.sl
          have same1 : (strOfNums (recE a0 a1 a2 a3 l a5) = strOfNums (recE b0 b1 b2 b3 m b5)) ↔ sameV a0 a1 a2 a3 l a5 b0 b1 b2 b3 m b5 = true := by
            rw [same_iff]
            constructor
            · intro e
              have h1 := St_str0 (recE a0 a1 a2 a3 l a5) (recE_byte a0 a1 a2 a3 l a5)
              have h2 := St_str0 (recE b0 b1 b2 b3 m b5) (recE_byte b0 b1 b2 b3 m b5)
              rw [e] at h1
              exact rec_uniq _ h1 h2
            · rintro ⟨rfl, rfl, rfl, rfl, rfl, rfl⟩
              rfl
          have same2 : (lineV a0 a1 a2 a3 l = lineV b0 b1 b2 b3 m) ↔ sameV a0 a1 a2 a3 l b5 b0 b1 b2 b3 m b5 = true := by
            rw [same_iff]
            constructor
            · intro e
              obtain ⟨e0, e1, e2, e3, e4⟩ := line_inj ha hb0 e
              exact ⟨e0, e1, e2, e3, e4, rfl⟩
            · rintro ⟨rfl, rfl, rfl, rfl, rfl, -⟩
              rfl
          have hx : ∃ y, lineV a0 a1 a2 a3 l = y ++ (⟨#[10]⟩ : ByteArray) := ⟨_, by unfold lineV; rw [← cat_assoc]⟩
          obtain ⟨y, hy⟩ := hx
          have hsz : (lineV a0 a1 a2 a3 l).size = y.size + 1 := by rw [hy, ByteArray.size_append]; rfl
          have hbig : y.size ≤ 1000000 := by
            have hf := fmt_size H.i1.1 H.i1.2
            have hn := kName_size a0
            have h2 := opt_size a2
            have h3 := opt_size a3
            have s2 := H.s2
            have s3 := H.s3
            have hnum : ∀ z : List Int, (∀ n ∈ z, In64 n) → (numsB z).size ≤ 22 * z.length := fun z => by
              induction z with
              | nil => intro _; simp [numsB, ByteArray.size]
              | cons n z ih =>
                intro hz
                have hn := hz n (by simp)
                have := it_size hn.1 hn.2
                have := ih (fun n h => hz n (by simp [h]))
                rw [show numsB (n :: z) = (sp ++ itS n) ++ numsB z from rfl, ByteArray.size_append, ByteArray.size_append, sp_size, List.length_cons]
                omega
            have := hnum l (fun n hn => ⟨by have := H.il n hn; omega, by have := H.il n hn; omega⟩)
            have e : (lineV a0 a1 a2 a3 l).size = (fmtV a1).size + 1 + (kName a0).size + (opt a2).size + (opt a3).size + ((numsB l).size + 1) := by
              unfold lineV
              simp only [ByteArray.size_append, sp_size]
              rfl
            omega
          have e64 : wrap64 (((lineV a0 a1 a2 a3 l).size : Int) - 1) = (y.size : Int) := by rw [dw64 (by omega) (by omega)]; omega
          have hne : ¬ (lineV a0 a1 a2 a3 l).toList = ([] : List UInt8) := fun e => by
            have := size_toList (lineV a0 a1 a2 a3 l)
            rw [e, hsz] at this
            simp at this
          rw [show (checkV b0 b1 b2 b3 m b5 != 0) = false by simp [hb0]]
          simp only [sawmilllaw58_EventApart.j0]
          rw [if_neg (by simp), p_encode H.fit (by omega), p_encode G.fit (by omega), Option.bind_some, Option.bind_some, if_pos ha, if_pos hb0]
          dsimp only
          rw [if_pos rfl, if_pos rfl, p_same _ _ _ _ _ _ _ _ _ _ _ _ (by omega) (by omega), Option.bind_some, beq_sym _ _ _ same1]
          simp only [sawmilllaw58_EventApart.j1, bne_self_eq_false]
          rw [if_neg (by simp), p_line (by omega), p_line (by omega), p_line (by omega), Option.bind_some, Option.bind_some, if_pos ha, if_pos hb0, if_pos (check_text ha G.s5), if_neg hne, e64, if_pos (by omega), if_pos (by omega), if_pos (by rw [hy]; exact bt_last y), Option.bind_some]
          simp only [sawmilllaw58_EventApart.j2, bne_self_eq_false]
          rw [if_neg (by simp), p_same _ _ _ _ _ _ _ _ _ _ _ _ (by omega) (by omega), Option.bind_some, beq_sym _ _ _ same2, if_pos (by simp), awake_ge (by omega)]
          rfl
        · rw [show (checkV b0 b1 b2 b3 m b5 != 0) = true by simp [hb0]]
          exact apart_awake _ (by omega) _ _ _ _ _ _ _ _ _ _ _ _
      · rw [if_neg ha]
        exact apart_awake _ (by omega) _ _ _ _ _ _ _ _ _ _ _ _
end Go.Proofs.YtbahagcidhmojaaDoor.PA
