/- The plain laws: numbers, strings and lists. -/
import Derived.Test.YtblmgmhjlbkncaaDoorCOrderTexts6
import Derived.ChangeArms
import Derived.ChangeSame
import Derived.DataElems
import Derived.DataReads
import Derived.WideShapes
import Derived.Laws.BitsAllLaws
import Derived.Laws.BitsLemmas
import Derived.Laws.DeepNot64
namespace Go.Proofs.YtblmgmhjlbkncaaDoorW.PrintWords
open Go.RowKit
def Opens (P : Program) (t : TypeId) {α : Type} (d : Kd α) (B : α → Prop) : Prop :=
  ∀ (H : Type) (enc : TypeId × Value → H) (W : World) (fuel : Nat) (cs : List Value) (x : DataW H × List MemPlace), DataW.trod enc P W 0 (fun _ => true) true fuel t cs = some x → ∃ a, d.K W a cs ∧ B a
section
variable {P : Program} {t : TypeId}
theorem opens_int {k : IntKind} (ht : P.underlying t = some (.int k)) : Opens P t (Kd.int k) (fun a => (Lit.int k a).wf = true) := by
  intro H enc W fuel cs x h
  obtain ⟨n, rfl, -, hw⟩ := DataW.trod_int ht h
  exact ⟨n, rfl, hw⟩
theorem opens_string (ht : P.underlying t = some .string) : Opens P t Kd.string (fun a => a.size ≤ maxLen) := by
  intro H enc W fuel cs x h
  obtain ⟨s, rfl, -, hs⟩ := DataW.trod_string ht h
  exact ⟨s, rfl, hs⟩
def FOpens (P : Program) (fs : List Field) (off : Nat) {α : Type} (d : Kd α) (B : α → Prop) : Prop :=
  ∀ (H : Type) (enc : TypeId × Value → H) (W : World) (n : Nat) (cs : List Value), off + d.sz = cs.length →
    (∀ (i : Nat) (f : Field), fs[i]? = some f → ∃ y, DataW.trod enc P W 0 (fun _ => true) true n f.type ((cs.drop f.offset).take (P.cellsOf f.type)) = some y) → ∃ a, d.K W a (cs.drop off) ∧ B a
theorem fo_last {f : Field} {off : Nat} {α : Type} {d : Kd α} {B : α → Prop} (ho : f.offset = off) (hc : P.cellsOf f.type = d.sz) (h : Opens P f.type d B) : FOpens P [f] off d B := by
  intro H enc W n cs hl hf
  obtain ⟨y, hy⟩ := hf 0 f rfl
  rw [ho, hc, List.take_of_length_le (by rw [List.length_drop]; omega)] at hy
  exact h H enc W n _ _ hy
theorem fo_cons {f : Field} {fs : List Field} {off : Nat} {α β : Type} {d : Kd α} {d' : Kd β} {B : α → Prop} {B' : β → Prop} (ho : f.offset = off) (hc : P.cellsOf f.type = d.sz) (h : Opens P f.type d B) (hr : FOpens P fs (off + d.sz) d' B') :
    FOpens P (f :: fs) off (Kd.pair d d') (fun a => B a.1 ∧ B' a.2) := by
  intro H enc W n cs hl hf
  have hl' : off + (d.sz + d'.sz) = cs.length := hl
  obtain ⟨y, hy⟩ := hf 0 f rfl
  rw [ho, hc] at hy
  obtain ⟨a, hK, hB⟩ := h H enc W n _ _ hy
  obtain ⟨b, hK', hB'⟩ := hr H enc W n cs (by omega) (fun i g hg => hf (i + 1) g (by simpa using hg))
  refine ⟨(a, b), ⟨(cs.drop off).take d.sz, cs.drop (off + d.sz), ?_, hK, hK'⟩, hB, hB'⟩
  rw [← List.drop_drop]
  exact (List.take_append_drop _ _).symm
theorem opens_struct {fs : Array Field} {l : List Field} {α β : Type} {d : Kd α} {B : α → Prop} (ht : P.underlying t = some (.struct fs)) (hl : fs.toList = l) (hc : P.cellsOf t = d.sz) (h : FOpens P l 0 d B) (g : β → α) (inv : α → β) (hg : ∀ a, g (inv a) = a) :
    Opens P t (Kd.iso d g) (fun b => B (g b)) := by
  subst hl
  intro H enc W fuel cs x hx
  obtain ⟨xs, n, -, -, hlen, hxs, hf⟩ := DataW.trod_struct ht hx
  obtain ⟨a, hK, hB⟩ := h H enc W n cs (by rw [hlen, hc, Nat.zero_add]) (fun i f hif => by
    have hif' : fs[i]? = some f := by simpa using hif
    have hi : i < xs.length := by rw [hxs]; exact (Array.getElem?_eq_some_iff.1 hif').1
    exact ⟨xs[i], (hf i f hif').trans (List.getElem?_eq_getElem hi)⟩)
  exact ⟨inv a, by show d.K W (g (inv a)) cs; rw [hg]; exact hK, by show B (g (inv a)); rw [hg]; exact hB⟩
end
end Go.Proofs.YtblmgmhjlbkncaaDoorW.PrintWords
namespace Go.Proofs.YtblmgmhjlbkncaaDoor.PA
open Go.RowKit Go.Proofs.YtblmgmhjlbkncaaDoorW.PrintWords
set_option linter.unusedVariables false
def B23 (x : S23) : Prop := x.f0.size ≤ maxLen ∧ x.f1.size ≤ maxLen ∧ (Lit.int .i64 x.f2).wf = true ∧ (Lit.int .i64 x.f3).wf = true ∧ (Lit.int .i64 x.f4).wf = true ∧ (Lit.int .i64 x.f5).wf = true ∧ (Lit.int .i64 x.f6).wf = true ∧ (Lit.int .i64 x.f7).wf = true ∧ (Lit.int .i64 x.f8).wf = true ∧ (Lit.int .i64 x.f9).wf = true ∧ (Lit.int .i64 x.f10).wf = true
theorem opens23 : Opens Tryd.prog 23 k23 B23 := by
  have h := opens_struct Tryd.underlying23 rfl (by kernel_rfl) (fo_cons rfl (by kernel_rfl) (opens_string Tryd.underlying9) (fo_cons rfl (by kernel_rfl) (opens_string Tryd.underlying9) (fo_cons rfl (by kernel_rfl) (opens_int Tryd.underlying3) (fo_cons rfl (by kernel_rfl) (opens_int Tryd.underlying3) (fo_cons rfl (by kernel_rfl) (opens_int Tryd.underlying3) (fo_cons rfl (by kernel_rfl) (opens_int Tryd.underlying3) (fo_cons rfl (by kernel_rfl) (opens_int Tryd.underlying3) (fo_cons rfl (by kernel_rfl) (opens_int Tryd.underlying3) (fo_cons rfl (by kernel_rfl) (opens_int Tryd.underlying3) (fo_cons rfl (by kernel_rfl) (opens_int Tryd.underlying3) (fo_last rfl (by kernel_rfl) (opens_int Tryd.underlying3)))))))))))) (fun x : S23 => (x.f0, x.f1, x.f2, x.f3, x.f4, x.f5, x.f6, x.f7, x.f8, x.f9, x.f10)) (fun y => ⟨y.1, y.2.1, y.2.2.1, y.2.2.2.1, y.2.2.2.2.1, y.2.2.2.2.2.1, y.2.2.2.2.2.2.1, y.2.2.2.2.2.2.2.1, y.2.2.2.2.2.2.2.2.1, y.2.2.2.2.2.2.2.2.2.1, y.2.2.2.2.2.2.2.2.2.2⟩) (fun _ => rfl)
  exact h
def sawmilllaw46_OrderTexts.Pure : Prop := ∀ (a0_0 : ByteArray) (a0_1 : ByteArray) (a0_2 : Int) (a0_3 : Int) (a0_4 : Int) (a0_5 : Int) (a0_6 : Int) (a0_7 : Int) (a0_8 : Int) (a0_9 : Int) (a0_10 : Int) (a1 : ByteArray), B23 (⟨a0_0, a0_1, a0_2, a0_3, a0_4, a0_5, a0_6, a0_7, a0_8, a0_9, a0_10⟩ : S23) → a1.size ≤ maxLen → ∃ k, sawmilllaw46_OrderTexts.f k a0_0 a0_1 a0_2 a0_3 a0_4 a0_5 a0_6 a0_7 a0_8 a0_9 a0_10 a1 = some true
end Go.Proofs.YtblmgmhjlbkncaaDoor.PA
namespace Go.Proofs.YtblmgmhjlbkncaaDoor.PA
open Go.RowKit Go.Proofs.YtblmgmhjlbkncaaDoorW.PrintWords
set_option linter.unusedVariables false
theorem ow64 {n : Int} (h0 : -9223372036854775808 ≤ n) (h1 : n ≤ 9223372036854775807) : wrap64 n = n := by unfold wrap64; omega
end Go.Proofs.YtblmgmhjlbkncaaDoor.PA
namespace Go.Proofs.YtblmgmhjlbkncaaDoor.PA
open Go.RowKit Go.Proofs.YtblmgmhjlbkncaaDoorW.PrintWords
set_option linter.unusedVariables false
theorem v64 {n : Int} (h0 : -9223372036854775808 ≤ n) (h1 : n ≤ 9223372036854775807) : wrap64 n = n := by unfold wrap64; omega
theorem wrap_u64 (n : Int) : IntKind.u64.wrap n = n % 18446744073709551616 := by simp [IntKind.wrap, IntKind.bits, IntKind.signed]
theorem vu64 {n : Int} (h0 : 0 ≤ n) (h1 : n < 18446744073709551616) : IntKind.u64.wrap n = n := by rw [wrap_u64]; omega
def enc (n : Nat) : List Int := if n < 128 then [(n : Int)] else (((128 + n % 128 : Nat) : Int)) :: enc (n / 128)
termination_by n
decreasing_by omega
theorem enc_lt {n : Nat} (h : n < 128) : enc n = [(n : Int)] := by rw [enc, if_pos h]
theorem enc_ge {n : Nat} (h : 128 ≤ n) : enc n = (((128 + n % 128 : Nat) : Int)) :: enc (n / 128) := by rw [enc, if_neg (by omega)]
theorem enc_head (n : Nat) : ∃ (b : Nat) (l : List Int), enc n = (b : Int) :: l ∧ b < 256 ∧ (b < 128 → n = b ∧ l = []) ∧ (128 ≤ b → 128 ≤ n ∧ b = 128 + n % 128 ∧ l = enc (n / 128)) := by
  by_cases h : n < 128
  · exact ⟨n, [], enc_lt h, by omega, fun _ => ⟨rfl, rfl⟩, fun h' => by omega⟩
  · exact ⟨128 + n % 128, enc (n / 128), enc_ge (by omega), by omega, fun h' => by omega, fun _ => ⟨by omega, rfl, rfl⟩⟩
theorem enc_len : ∀ (d n : Nat), n < 128 ^ (d + 1) → (enc n).length ≤ d + 1
  | 0, n, h => by rw [enc_lt (by simpa using h)]; simp
  | d + 1, n, h => by
    by_cases hn : n < 128
    · rw [enc_lt hn]; simp
    · rw [enc_ge (by omega)]
      have h2 : n / 128 < 128 ^ (d + 1) := by rw [Nat.pow_succ] at h; omega
      have := enc_len d (n / 128) h2
      simp only [List.length_cons]
      omega
theorem enc_len10 {n : Nat} (h : n < 18446744073709551616) : (enc n).length ≤ 10 := enc_len 9 n (by have : (128 : Nat) ^ 10 = 1180591620717411303424 := rfl; omega)
def St (s : ByteArray) : Nat → List Int → Prop
  | _, [] => True
  | i, b :: l => i < s.size ∧ bt s i = b ∧ St s (i + 1) l
theorem St_append (s : ByteArray) : ∀ (l m : List Int) (i : Nat), St s i (l ++ m) ↔ St s i l ∧ St s (i + l.length) m
  | [], m, i => by simp [St]
  | b :: l, m, i => by
    have := St_append s l m (i + 1)
    simp only [List.cons_append, St, List.length_cons, this, show i + (l.length + 1) = i + 1 + l.length by omega, and_assoc]
theorem St_len (s : ByteArray) : ∀ (l : List Int) (i : Nat), i ≤ s.size → St s i l → i + l.length ≤ s.size
  | [], i, h, _ => by simpa using h
  | b :: l, i, h, hs => by
    have := St_len s l (i + 1) (by have := hs.1; omega) hs.2.2
    simp only [List.length_cons]; omega
theorem St_uniq (s : ByteArray) : ∀ (l m : List Int) (i : Nat), St s i l → St s i m → l.length = m.length → l = m
  | [], [], _, _, _, _ => rfl
  | [], _ :: _, _, _, _, h => by simp at h
  | _ :: _, [], _, _, _, h => by simp at h
  | b :: l, c :: m, i, hl, hm, h => by
    rw [← hl.2.1, ← hm.2.1, St_uniq s l m (i + 1) hl.2.2 hm.2.2 (by simpa using h)]
theorem enc_uniq (s : ByteArray) : ∀ (n m i : Nat), St s i (enc n) → St s i (enc m) → n = m := by
  intro n
  induction n using Nat.strongRecOn with
  | ind n ih =>
    intro m i hn hm
    obtain ⟨b, l, e1, h1, h2, h3⟩ := enc_head n
    obtain ⟨c, l', e2, h4, h5, h6⟩ := enc_head m
    rw [e1] at hn
    rw [e2] at hm
    have hbc : (b : Int) = c := hn.2.1.symm.trans hm.2.1
    by_cases h : b < 128
    · have := (h2 h).1; have := (h5 (by omega)).1; omega
    · obtain ⟨a1, a2, a3⟩ := h3 (by omega)
      obtain ⟨b1, b2, b3⟩ := h6 (by omega)
      have hn' := hn.2.2
      have hm' := hm.2.2
      rw [a3] at hn'
      rw [b3] at hm'
      have := ih (n / 128) (by omega) (m / 128) (i + 1) hn' hm'
      omega
theorem strOfNums_append (xs ys : List Int) : strOfNums xs ++ strOfNums ys = strOfNums (xs ++ ys) := by
  apply ByteArray.ext
  simp [strOfNums]
theorem bt_str (xs : List Int) (i : Nat) (h : i < xs.length) (hb : 0 ≤ xs[i] ∧ xs[i] < 256) : bt (strOfNums xs) i = xs[i] := by
  unfold bt
  have hs : (strOfNums xs).size = xs.length := strOfNums_size xs
  rw [dif_pos (by rw [hs]; simpa using h)]
  have : (strOfNums xs)[i]'(by rw [hs]; exact h) = UInt8.ofNat xs[i].toNat := by
    simp [strOfNums, ByteArray.getElem_eq_getElem_data]
  simp only [Int.toNat_natCast]
  rw [this, UInt8.toNat_ofNat']
  omega
theorem St_str : ∀ (l p : List Int), (∀ b ∈ l, 0 ≤ b ∧ b < 256) → St (strOfNums (p ++ l)) p.length l
  | [], p, _ => trivial
  | b :: l, p, h => by
    refine ⟨by rw [strOfNums_size]; simp, ?_, ?_⟩
    · have := bt_str (p ++ b :: l) p.length (by simp) (by simpa using h b (by simp))
      simpa using this
    · have := St_str l (p ++ [b]) (fun x hx => h x (List.mem_cons_of_mem _ hx))
      simpa using this
theorem St_str0 (l : List Int) (h : ∀ b ∈ l, 0 ≤ b ∧ b < 256) : St (strOfNums l) 0 l := St_str l [] h
theorem or128 {x : Int} (h0 : 0 ≤ x) (h1 : x < 256) : Go.bits .or .u8 x 128 = 128 + x % 128 := by
  rw [u8_or x 128 h0 h1 (by omega) (by omega)]
  have h : ∀ a : Fin 256, (a.val ||| 128) = 128 + a.val % 128 := by decide +kernel
  have := h ⟨x.toNat, by omega⟩
  simp only at this
  rw [show (128 : Int).toNat = 128 from rfl, this]
  omega
theorem and127 {x : Int} (h0 : 0 ≤ x) (h1 : x < 256) : Go.bits .and .u8 x 127 = x % 128 := bits_mask .u8 8 (by decide) wraps_u8 7 (by decide) x h0 h1
theorem put_l : ∀ (d n k : Nat) (xs : List Int) (x : Int), x = n → n < 128 ^ (d + 1) → d < k → xs.length + d < 1000000000 → wire_put.l0 k xs x = some (xs ++ enc n)
  | d, n, 0, xs, x, hx, h, hk, hl => by omega
  | d, n, k + 1, xs, x, hx, h, hk, hl => by
    simp only [wire_put.l0]
    by_cases hn : n < 128
    · rw [if_neg (by omega), if_pos (by omega), enc_lt hn, show x % 256 = n by omega]
    · obtain ⟨d, rfl⟩ : ∃ m, d = m + 1 := ⟨d - 1, by
        rcases d with _ | d
        · simp at h; omega
        · rfl⟩
      rw [if_pos (by omega), if_pos (by omega), or128 (by omega) (by omega)]
      have := put_l d (n / 128) k (xs ++ [128 + x % 256 % 128]) (x / 128) (by omega) (by rw [Nat.pow_succ] at h; omega) (by omega) (by simp; omega)
      rw [this, enc_ge (n := n) (by omega)]
      have e : 128 + x % 256 % 128 = ((128 + n % 128 : Nat) : Int) := by omega
      rw [e]
      simp
theorem put_enc {n k : Nat} (hn : n < 18446744073709551616) (hk : 10 ≤ k) (xs : List Int) (hl : xs.length < 100000000) {x : Int} (hx : x = n) : wire_put.f k xs x = some (xs ++ enc n) :=
  put_l 9 n k xs x hx (by have : (128 : Nat) ^ 10 = 1180591620717411303424 := rfl; omega) (by omega) (by omega)
theorem r_uint_l : ∀ (d n k : Nat) (x : Int), x = n → n < 18446744073709551616 → n < 128 ^ (d + 1) → d < k → sawmillref05_Uint.f k x = some (strOfNums (enc n))
  | d, n, 0, x, hx, h64, h, hk => by omega
  | d, n, k + 1, x, hx, h64, h, hk => by
    simp only [sawmillref05_Uint.f, Option.bind_some]
    by_cases hn : n < 128
    · rw [if_pos (by omega), enc_lt hn, show x % 256 = n by omega]
    · obtain ⟨d, rfl⟩ : ∃ m, d = m + 1 := ⟨d - 1, by
        rcases d with _ | d
        · simp at h; omega
        · rfl⟩
      have e1 : Int.tdiv x 128 = ((n / 128 : Nat) : Int) := by rw [hx]; rw [Int.tdiv_eq_ediv_of_nonneg (by omega)]; omega
      have e2 : Int.tmod x 128 = ((n % 128 : Nat) : Int) := by rw [hx]; rw [Int.tmod_eq_emod_of_nonneg (by omega)]; omega
      rw [if_neg (by omega), e1, e2, vu64 (n := ((n / 128 : Nat) : Int)) (by omega) (by omega), vu64 (n := 128 + ((n % 128 : Nat) : Int)) (by omega) (by omega)]
      have := r_uint_l d (n / 128) k ((n / 128 : Nat) : Int) rfl (by omega) (by rw [Nat.pow_succ] at h; omega) (by omega)
      rw [this, Option.bind_some, strOfNums_append, strOfNums_size, strOfNums_size, enc_ge (n := n) (by omega)]
      have hl := enc_len10 (n := n / 128) (by omega)
      rw [if_pos (by simp only [List.length_cons, List.length_nil]; omega), show (128 + ((n % 128 : Nat) : Int)) % 256 = ((128 + n % 128 : Nat) : Int) by omega]
      rfl
theorem r_uint {n k : Nat} (hn : n < 18446744073709551616) (hk : 10 ≤ k) {x : Int} (hx : x = n) : sawmillref05_Uint.f k x = some (strOfNums (enc n)) :=
  r_uint_l 9 n k x hx hn (by have : (128 : Nat) ^ 10 = 1180591620717411303424 := rfl; omega) (by omega)
def zz (a : Int) : Nat := if 0 ≤ a then (2 * a).toNat else (-2 * a - 1).toNat
def uz (n : Nat) : Int := if n % 2 = 1 then -((n / 2 : Nat) : Int) - 1 else ((n / 2 : Nat) : Int)
theorem zz_uz (n : Nat) : zz (uz n) = n := by unfold zz uz; split <;> split <;> omega
theorem uz_zz (a : Int) : uz (zz a) = a := by unfold zz uz; split <;> split <;> omega
theorem zz_lt {a : Int} (h0 : -9223372036854775808 ≤ a) (h1 : a ≤ 9223372036854775807) : zz a < 18446744073709551616 := by unfold zz; split <;> omega
theorem uz_range {n : Nat} (h : n < 18446744073709551616) : -9223372036854775808 ≤ uz n ∧ uz n ≤ 9223372036854775807 := by unfold uz; split <;> omega
theorem xor_ones (a : Nat) (ha : a < 18446744073709551616) : Go.bits .xor .u64 (a : Int) 18446744073709551615 = 18446744073709551615 - (a : Int) := by
  show IntKind.u64.wrap ((BitVec.ofInt 64 (a : Int) ^^^ BitVec.ofInt 64 18446744073709551615).toNat : Int) = _
  have h1 : BitVec.ofInt 64 18446744073709551615 = BitVec.allOnes 64 := by decide
  rw [h1, BitVec.xor_allOnes, BitVec.toNat_not, ofInt_u64 a ha, wrap_u64]
  omega
theorem xor_zero (a : Nat) (ha : a < 18446744073709551616) : Go.bits .xor .u64 (a : Int) 0 = (a : Int) := by
  rw [u64_xor a 0 (by omega) (by omega) (by omega) (by omega)]
  simp
theorem p_zigzag {a : Int} (h0 : -9223372036854775808 ≤ a) (h1 : a ≤ 9223372036854775807) : wire_zigzag.f a = some (zz a : Int) := by
  unfold wire_zigzag.f zz
  by_cases h : 0 ≤ a
  · rw [if_pos h, show a / 9223372036854775808 = 0 by omega, vu64 (n := a) h (by omega), vu64 (n := a * 2) (by omega) (by omega), vu64 (n := 0) (by omega) (by omega)]
    have := xor_zero (2 * a).toNat (by omega)
    rw [show a * 2 = ((2 * a).toNat : Int) by omega, this]
  · rw [if_neg h, show a / 9223372036854775808 = -1 by omega, wrap_u64 a, wrap_u64 (-1), wrap_u64]
    have := xor_ones (18446744073709551616 + 2 * a).toNat (by omega)
    rw [show a % 18446744073709551616 * 2 % 18446744073709551616 = ((18446744073709551616 + 2 * a).toNat : Int) by omega, show (-1 : Int) % 18446744073709551616 = 18446744073709551615 by decide, this]
    congr 1
    omega
theorem r_zigzag {a : Int} (h0 : -9223372036854775808 ≤ a) (h1 : a ≤ 9223372036854775807) : sawmillref05_Zigzag.f a = some (zz a : Int) := by
  unfold sawmillref05_Zigzag.f zz
  by_cases h : 0 ≤ a
  · rw [if_pos h, if_pos (by omega), vu64 (n := a) h (by omega), vu64 (n := 2 * a) (by omega) (by omega)]
    congr 1
    omega
  · rw [if_neg h, if_neg (by omega), v64 (n := a + 1) (by omega) (by omega), v64 (n := -(a + 1)) (by omega) (by omega), vu64 (n := -(a + 1)) (by omega) (by omega), vu64 (n := 2 * -(a + 1)) (by omega) (by omega), vu64 (by omega) (by omega)]
    congr 1
    omega
theorem or_join {acc c j : Nat} (h : acc < 2 ^ j) (hc : c * 2 ^ j < 18446744073709551616) (hj : 2 ^ j < 18446744073709551616) : Go.bits .or .u64 (acc : Int) ((c * 2 ^ j : Nat) : Int) = ((acc + c * 2 ^ j : Nat) : Int) := by
  rw [u64_or_nat acc (c * 2 ^ j) (by omega) hc, Nat.or_comm, nat_join j (c * 2 ^ j) acc (Nat.mul_mod_left _ _) h, Nat.add_comm]
theorem pow7 (i : Nat) : 2 ^ (7 * i) = 128 ^ i := by rw [Nat.pow_mul]
theorem pow_le9 {i : Nat} (h : i ≤ 9) : 128 ^ i ≤ 9223372036854775808 := by
  have := Nat.pow_le_pow_right (n := 128) (by omega) h
  have e : (128 : Nat) ^ 9 = 9223372036854775808 := rfl
  omega
theorem pow_le8 {i : Nat} (h : i ≤ 8) : 128 ^ i ≤ 72057594037927936 := by
  have := Nat.pow_le_pow_right (n := 128) (by omega) h
  have e : (128 : Nat) ^ 8 = 72057594037927936 := rfl
  omega
theorem or_shl {acc c i : Nat} (hi : i ≤ 9) (h : acc < 128 ^ i) (hc : c < 128) (hc' : c * 128 ^ i < 18446744073709551616) {x4 x7 : Int} (h4 : x4 = acc) (h7 : x7 = 7 * (i : Int)) {b : Int} (hb : Go.bits .and .u8 b 127 = c) :
    Go.bits .or .u64 x4 (shl .u64 (IntKind.u64.wrap (Go.bits .and .u8 b 127)) x7) = ((acc + c * 128 ^ i : Nat) : Int) := by
  subst h4 h7
  have hp := pow_le9 hi
  rw [hb, vu64 (n := (c : Int)) (by omega) (by omega)]
  unfold shl
  rw [show (7 * (i : Int)).toNat = 7 * i by omega, show min (7 * i) IntKind.u64.bits = 7 * i from Nat.min_eq_left (by show 7 * i ≤ 64; omega)]
  have e : (c : Int) * 2 ^ (7 * i) = ((c * 2 ^ (7 * i) : Nat) : Int) := by simp
  rw [← pow7] at h hc' hp ⊢
  rw [e, vu64 (by omega) (by omega), or_join h hc' (by omega)]
def NumRes (s : ByteArray) (p e : Int) (a i acc : Nat) (X : Option (Int × Int × Int × ByteArray × Int × Int)) (Y : Option (Int × Int × Int)) : Prop :=
  (∃ m : Nat, St s (a + i) (enc m) ∧ (0 < i → 0 < m) ∧ acc + m * 128 ^ i < 18446744073709551616 ∧ X = some (((acc + m * 128 ^ i : Nat) : Int), ((i + (enc m).length : Nat) : Int), 0, s, p, e) ∧ Y = some (((acc + m * 128 ^ i : Nat) : Int), ((a + i + (enc m).length : Nat) : Int), 0)) ∨
  (∃ er : Int, (er = 3 ∨ er = 5) ∧ (∀ m : Nat, St s (a + i) (enc m) → (0 < i → 0 < m) → acc + m * 128 ^ i < 18446744073709551616 → False) ∧ X = some (0, 0, er, s, p, e) ∧ Y = some (0, (a : Int), er))
set_option maxHeartbeats 1000000 in
theorem num_both (s : ByteArray) (a : Nat) (p e : Int) (ha : a ≤ s.size) (hs : s.size ≤ 1000000000000000) : ∀ (d i acc k : Nat) (x4 x5 x7 y7 y8 y9 : Int), i + d = 9 → acc < 128 ^ i → 2 * d + 2 ≤ k → x4 = acc → x5 = i → x7 = 7 * (i : Int) → y7 = acc → y8 = ((128 ^ i : Nat) : Int) → y9 = i →
    NumRes s p e a i acc (wire_Reader_next.l0 k a x4 x5 x7 s p e) (sawmillref05_number.l0 k s a y7 y8 y9) := by
  intro d
  induction d with
  | zero =>
    intro i acc k x4 x5 x7 y7 y8 y9 hi hacc hk h4 h5 h7 g7 g8 g9
    obtain ⟨k, rfl⟩ : ∃ m, k = m + 2 := ⟨k - 2, by omega⟩
    obtain rfl : i = 9 := by omega
    have hp : (128 : Nat) ^ 9 = 9223372036854775808 := rfl
    simp only [wire_Reader_next.l0, sawmillref05_number.l0]
    rw [v64 (n := (a : Int) + x5) (by omega) (by omega), v64 (n := (a : Int) + y9) (by omega) (by omega), v64 (n := x5 + 1) (by omega) (by omega)]
    rw [if_pos (show y9 < 10 by omega)]
    by_cases hsz : s.size ≤ a + 9
    · rw [if_pos (by omega), if_pos (by omega)]
      refine Or.inr ⟨3, Or.inl rfl, fun m hm _ _ => ?_, rfl, rfl⟩
      obtain ⟨b, l, e1, -⟩ := enc_head m
      rw [e1] at hm
      have := hm.1
      omega
    · have hb := bt_range s ((a : Int) + 9)
      have hat : ∀ c : Int, bt s ((a : Int) + 9) = c → bt s ((a + 9 : Nat) : Int) = c := fun _ h => h
      have ea : (a : Int) + x5 = (a : Int) + 9 := by omega
      have eb : (a : Int) + y9 = (a : Int) + 9 := by omega
      rw [ea, eb, if_neg (by omega), if_pos (by omega), if_pos (by omega), if_pos (by omega), if_neg (by omega), if_pos (by omega), if_pos (by omega), if_pos (by omega)]
      rw [vu64 (n := bt s ((a : Int) + 9)) (by omega) (by omega)]
      have hh : ∀ m : Nat, St s (a + 9) (enc m) → ∃ (b : Nat) (l : List Int), bt s ((a : Int) + 9) = b ∧ (b < 128 → m = b ∧ l = []) ∧ (128 ≤ b → 128 ≤ m) := by
        intro m hm
        obtain ⟨b, l, e1, e2, e3, e4⟩ := enc_head m
        rw [e1] at hm
        exact ⟨b, l, hm.2.1, e3, fun h => (e4 h).1⟩
      simp only [wire_Reader_next.j1, sawmillref05_number.j1]
      generalize bt s ((a : Int) + 9) = c at hb hh hat ⊢
      by_cases hc : c > 1
      · rw [decide_eq_true hc, if_pos rfl, if_pos rfl]
        refine Or.inr ⟨5, Or.inr rfl, fun m hm _ h64 => ?_, rfl, rfl⟩
        obtain ⟨b, l, h1, h2, h3⟩ := hh m hm
        rw [hp] at h64
        by_cases h : b < 128
        · have := (h2 h).1; omega
        · have := h3 (by omega); omega
      · rw [decide_eq_false hc, if_neg Bool.false_ne_true, if_pos (show 0 ≤ x7 by omega), if_pos (show c < 128 by omega), if_neg Bool.false_ne_true, if_pos (show c < 128 by omega)]
        by_cases h0 : c = 0
        · rw [if_pos h0, if_pos (by omega), if_pos h0, if_pos (by omega)]
          refine Or.inr ⟨5, Or.inr rfl, fun m hm hm0 h64 => ?_, rfl, rfl⟩
          obtain ⟨b, l, h1, h2, h3⟩ := hh m hm
          have := (h2 (by omega)).1
          have := hm0 (by omega)
          omega
        · have h1 : c = 1 := by omega
          rw [if_neg h0, if_neg h0]
          refine Or.inl ⟨1, ?_, fun _ => by omega, by omega, ?_, ?_⟩
          · rw [enc_lt (by omega)]
            exact ⟨by omega, hat _ (by omega), trivial⟩
          · have e1 := or_shl (acc := acc) (c := 1) (i := 9) (by omega) hacc (by omega) (by omega) h4 h7 (b := c) (by rw [and127 (by omega) (by omega)]; omega)
            rw [e1, enc_lt (by omega), h5]
            rfl
          · have e3 : IntKind.u64.wrap (y7 + (IntKind.u64.wrap ((Int.tmod c 128) * y8))) = ((acc + 1 * 128 ^ 9 : Nat) : Int) := by
              rw [Int.tmod_eq_emod_of_nonneg (by omega), g8, hp, h1, show (1 : Int) % 128 = 1 from rfl, vu64 (n := (1 : Int) * ((9223372036854775808 : Nat) : Int)) (by omega) (by omega), g7, vu64 (by omega) (by omega)]
              omega
            rw [e3, v64 (n := (a : Int) + y9) (by omega) (by omega), v64 (n := (a : Int) + y9 + 1) (by omega) (by omega), enc_lt (by omega), g9]
            rfl
  | succ d ih =>
    intro i acc k x4 x5 x7 y7 y8 y9 hi hacc hk h4 h5 h7 g7 g8 g9
    obtain ⟨k, rfl⟩ : ∃ m, k = m + 2 := ⟨k - 2, by omega⟩
    have hp := pow_le8 (i := i) (by omega)
    have hps : 128 ^ (i + 1) = 128 ^ i * 128 := Nat.pow_succ ..
    have hmul : ∀ c : Nat, c < 128 → c * 128 ^ i ≤ 127 * 128 ^ i := fun c hc => Nat.mul_le_mul_right _ (by omega)
    simp only [wire_Reader_next.l0, sawmillref05_number.l0]
    rw [v64 (n := (a : Int) + x5) (by omega) (by omega), v64 (n := (a : Int) + y9) (by omega) (by omega), v64 (n := x5 + 1) (by omega) (by omega)]
    rw [if_pos (show y9 < 10 by omega)]
    by_cases hsz : s.size ≤ a + i
    · rw [if_pos (by omega), if_pos (by omega)]
      refine Or.inr ⟨3, Or.inl rfl, fun m hm _ _ => ?_, rfl, rfl⟩
      obtain ⟨b, l, e1, -⟩ := enc_head m
      rw [e1] at hm
      have := hm.1
      omega
    · have hb := bt_range s ((a + i : Nat) : Int)
      have ea : (a : Int) + x5 = ((a + i : Nat) : Int) := by omega
      have eb : (a : Int) + y9 = ((a + i : Nat) : Int) := by omega
      rw [ea, eb, if_neg (by omega), if_pos (by omega), if_pos (by omega), if_neg (by omega), if_neg (by omega), if_pos (by omega), if_pos (by omega), if_neg (by omega)]
      rw [vu64 (n := bt s ((a + i : Nat) : Int)) (by omega) (by omega)]
      have hh : ∀ m : Nat, St s (a + i) (enc m) → ∃ (b : Nat) (l : List Int), bt s ((a + i : Nat) : Int) = b ∧ (b < 128 → m = b ∧ l = []) ∧ (128 ≤ b → 128 ≤ m ∧ b = 128 + m % 128 ∧ St s (a + i + 1) (enc (m / 128))) := by
        intro m hm
        obtain ⟨b, l, e1, e2, e3, e4⟩ := enc_head m
        rw [e1] at hm
        exact ⟨b, l, hm.2.1, e3, fun h => ⟨(e4 h).1, (e4 h).2.1, (e4 h).2.2 ▸ hm.2.2⟩⟩
      simp only [wire_Reader_next.j1, sawmillref05_number.j1]
      rw [if_neg Bool.false_ne_true, if_pos (show 0 ≤ x7 by omega), if_neg Bool.false_ne_true]
      obtain ⟨c, hc⟩ : ∃ c : Nat, bt s ((a + i : Nat) : Int) = c := ⟨(bt s ((a + i : Nat) : Int)).toNat, by omega⟩
      rw [hc] at hb hh ⊢
      by_cases hc1 : c < 128
      · have hcm := hmul c hc1
        rw [if_pos (show (c : Int) < 128 by omega), if_pos (show (c : Int) < 128 by omega)]
        by_cases h0 : c = 0 ∧ 0 < i
        · rw [if_pos (by omega), if_pos (by omega), if_pos (by omega), if_pos (by omega)]
          refine Or.inr ⟨5, Or.inr rfl, fun m hm hm0 h64 => ?_, rfl, rfl⟩
          obtain ⟨b, l, h1, h2, h3⟩ := hh m hm
          have := (h2 (by omega)).1
          have := hm0 (by omega)
          omega
        · have e1 := or_shl (acc := acc) (c := c) (i := i) (by omega) hacc hc1 (by omega) h4 h7 (b := (c : Int)) (by rw [and127 (by omega) (by omega)]; omega)
          have hl : (enc c).length = 1 := by rw [enc_lt hc1]; rfl
          have e2 : (c : Int) * ((128 ^ i : Nat) : Int) = ((c * 128 ^ i : Nat) : Int) := by rw [Int.natCast_mul]
          have e3 : IntKind.u64.wrap (y7 + (IntKind.u64.wrap ((Int.tmod (c : Int) 128) * y8))) = ((acc + c * 128 ^ i : Nat) : Int) := by
            rw [Int.tmod_eq_emod_of_nonneg (by omega), g8, show (c : Int) % 128 = c by omega, e2, vu64 (n := ((c * 128 ^ i : Nat) : Int)) (by omega) (by omega), g7, vu64 (by omega) (by omega)]
            omega
          have hS : St s (a + i) (enc c) := by
            rw [enc_lt hc1]
            exact ⟨by omega, hc, trivial⟩
          rw [e1, e3, v64 (n := (a : Int) + y9) (by omega) (by omega), eb, v64 (n := ((a + i : Nat) : Int) + 1) (by omega) (by omega)]
          refine Or.inl ⟨c, hS, fun h => by omega, by omega, ?_, ?_⟩
          · rw [hl]
            by_cases h00 : (c : Int) = 0
            · rw [if_pos h00, if_neg (by omega), h5]
              rfl
            · rw [if_neg h00, h5]
              rfl
          · rw [hl]
            by_cases h00 : (c : Int) = 0
            · rw [if_pos h00, if_neg (by omega)]
              rfl
            · rw [if_neg h00]
              rfl
      · obtain ⟨c', rfl⟩ : ∃ c', c = 128 + c' := ⟨c - 128, by omega⟩
        have hcm := hmul c' (by omega)
        have e1 := or_shl (acc := acc) (c := c') (i := i) (by omega) hacc (by omega) (by omega) h4 h7 (b := ((128 + c' : Nat) : Int)) (by rw [and127 (by omega) (by omega)]; omega)
        have e2 : (c' : Int) * ((128 ^ i : Nat) : Int) = ((c' * 128 ^ i : Nat) : Int) := by rw [Int.natCast_mul]
        have e3 : IntKind.u64.wrap (y7 + (IntKind.u64.wrap ((Int.tmod ((128 + c' : Nat) : Int) 128) * y8))) = ((acc + c' * 128 ^ i : Nat) : Int) := by
          rw [Int.tmod_eq_emod_of_nonneg (by omega), g8, show ((128 + c' : Nat) : Int) % 128 = c' by omega, e2, vu64 (n := ((c' * 128 ^ i : Nat) : Int)) (by omega) (by omega), g7, vu64 (by omega) (by omega)]
          omega
        have e4 : IntKind.u64.wrap (y8 * 128) = ((128 ^ (i + 1) : Nat) : Int) := by
          rw [g8, vu64 (by omega) (by omega), hps]
          omega
        rw [if_neg (show ¬ ((128 + c' : Nat) : Int) < 128 by omega), if_neg (show ¬ ((128 + c' : Nat) : Int) < 128 by omega), e1, e3, e4, v64 (n := x7 + 7) (by omega) (by omega), v64 (n := y9 + 1) (by omega) (by omega)]
        have hm2 : ∀ m' : Nat, acc + c' * 128 ^ i + m' * 128 ^ (i + 1) = acc + (c' + 128 * m') * 128 ^ i := by
          intro m'
          rw [hps, Nat.add_mul, Nat.mul_comm (128 ^ i) 128, ← Nat.mul_assoc, Nat.mul_comm m' 128]
          omega
        rcases ih (i + 1) (acc + c' * 128 ^ i) k _ (x5 + 1) (x7 + 7) _ _ (y9 + 1) (by omega) (by omega) (by omega) rfl (by omega) (by omega) rfl rfl (by omega) with ⟨m', hS, h0, h64, hX, hY⟩ | ⟨er, her, hno, hX, hY⟩
        · rw [hm2] at h64 hX hY
          have hm0 := h0 (by omega)
          have hen : enc (c' + 128 * m') = ((128 + c' : Nat) : Int) :: enc m' := by
            rw [enc_ge (by omega), show (c' + 128 * m') / 128 = m' by omega, show (c' + 128 * m') % 128 = c' by omega]
          refine Or.inl ⟨c' + 128 * m', ?_, fun _ => by omega, h64, ?_, ?_⟩
          · rw [hen]
            exact ⟨by omega, hc, hS⟩
          · rw [hX, hen]
            congr 3
            simp only [List.length_cons]; omega
          · rw [hY, hen]
            congr 3
            simp only [List.length_cons]; omega
        · refine Or.inr ⟨er, her, fun m hm hm0 h64 => ?_, hX, hY⟩
          obtain ⟨b, l, h1, h2, h3⟩ := hh m hm
          obtain ⟨q1, q2, q3⟩ := h3 (by omega)
          refine hno (m / 128) q3 (fun _ => by omega) ?_
          rw [hm2, show c' + 128 * (m / 128) = m by omega]
          exact h64
theorem num_at (s : ByteArray) (a : Nat) (p e : Int) (ha : a ≤ s.size) (hs : s.size ≤ 1000000000000000) {k : Nat} (hk : 20 ≤ k) {x y : Int} (hx : x = a) (hy : y = a) :
    (∃ m : Nat, m < 18446744073709551616 ∧ St s a (enc m) ∧ wire_Reader_next.f k s p e x = some ((m : Int), ((enc m).length : Int), 0, s, p, e) ∧ sawmillref05_number.f k s y = some ((m : Int), ((a + (enc m).length : Nat) : Int), 0)) ∨
    (∃ er : Int, (er = 3 ∨ er = 5) ∧ (∀ m : Nat, m < 18446744073709551616 → ¬ St s a (enc m)) ∧ wire_Reader_next.f k s p e x = some (0, 0, er, s, p, e) ∧ sawmillref05_number.f k s y = some (0, (a : Int), er)) := by
  subst hx hy
  rcases num_both s a p e ha hs 9 0 0 k 0 0 0 0 1 0 rfl (by decide) (by omega) rfl rfl rfl rfl rfl rfl with ⟨m, h1, h2, h3, h4, h5⟩ | ⟨er, h1, h2, h3, h4⟩
  · simp only [Nat.pow_zero, Nat.mul_one, Nat.zero_add, Nat.add_zero] at h1 h3 h4 h5
    exact Or.inl ⟨m, h3, h1, h4, h5⟩
  · simp only [Nat.pow_zero, Nat.mul_one, Nat.zero_add, Nat.add_zero] at h2
    exact Or.inr ⟨er, h1, fun m hm hS => h2 m hS (fun h => absurd h (Nat.lt_irrefl 0)) hm, h3, h4⟩
end Go.Proofs.YtblmgmhjlbkncaaDoor.PA
namespace Go.Proofs.YtblmgmhjlbkncaaDoor.PA
open Go.RowKit Go.Proofs.YtblmgmhjlbkncaaDoorW.PrintWords
set_option linter.unusedVariables false
theorem bytesOf_byte (s : ByteArray) : ∀ b ∈ bytesOf s, 0 ≤ b ∧ b < 256 := by
  intro b hb
  unfold bytesOf at hb
  obtain ⟨x, -, rfl⟩ := List.mem_map.1 hb
  have := x.toNat_lt
  omega
theorem str_bytesOf (s : ByteArray) : strOfNums (bytesOf s) = s := by
  apply ByteArray.ext
  unfold strOfNums bytesOf
  rw [← Array.toList_inj]
  simp [List.map_map, Function.comp_def]
theorem bytesOf_inj {s t : ByteArray} (h : bytesOf s = bytesOf t) : s = t := by rw [← str_bytesOf s, h, str_bytesOf]
theorem bt_extract (s : ByteArray) (i j : Nat) (h : j ≤ s.size) (n : Nat) (hn : i + n < j) : bt (s.extract i j) (n : Int) = bt s ((i + n : Nat) : Int) := by
  unfold bt
  have hs : (s.extract i j).size = j - i := by rw [ByteArray.size_extract]; omega
  simp only [Int.toNat_natCast]
  rw [dif_pos (by omega), dif_pos (by omega), ByteArray.getElem_extract]
theorem St_of_bt (s t : ByteArray) : ∀ (l : List Int) (i j : Nat), St t j l → (∀ n : Nat, n < l.length → i + n < s.size ∧ bt s ((i + n : Nat) : Int) = bt t ((j + n : Nat) : Int)) → St s i l
  | [], _, _, _, _ => trivial
  | b :: l, i, j, h, hn => by
    refine ⟨(hn 0 (by simp)).1, ?_, St_of_bt s t l (i + 1) (j + 1) h.2.2 fun n hl => ?_⟩
    · have := (hn 0 (by simp)).2
      simp only [Nat.add_zero] at this
      rw [this]
      exact h.2.1
    · have := hn (n + 1) (by simp; omega)
      rw [show i + 1 + n = i + (n + 1) by omega, show j + 1 + n = j + (n + 1) by omega]
      exact this
theorem St_extract (s : ByteArray) (i j : Nat) (hij : i ≤ j) (h : j ≤ s.size) : St s i (bytesOf (s.extract i j)) := by
  have hs : (s.extract i j).size = j - i := by rw [ByteArray.size_extract]; omega
  have h1 := St_str0 (bytesOf (s.extract i j)) (bytesOf_byte _)
  rw [str_bytesOf] at h1
  refine St_of_bt s (s.extract i j) _ i 0 h1 fun n hn => ?_
  rw [bytesOf_length, hs] at hn
  refine ⟨by omega, ?_⟩
  rw [Nat.zero_add, bt_extract s i j h n (by omega)]
def tx (t : ByteArray) : List Int := enc t.size ++ bytesOf t
def zs : List Int → List Int
  | [] => []
  | n :: l => enc (zz n) ++ zs l
def ls (l : List Int) : List Int := enc l.length ++ zs l
def In64 (n : Int) : Prop := -9223372036854775808 ≤ n ∧ n ≤ 9223372036854775807
theorem zs_len : ∀ l : List Int, (∀ n ∈ l, In64 n) → (zs l).length ≤ 10 * l.length
  | [], _ => by simp [zs]
  | n :: l, h => by
    have h1 := h n (by simp)
    have := zs_len l (fun m hm => h m (List.mem_cons_of_mem _ hm))
    have := enc_len10 (zz_lt h1.1 h1.2)
    simp only [zs, List.length_append, List.length_cons]
    omega
theorem tx_uniq (s : ByteArray) {t u : ByteArray} {i : Nat} (h1 : St s i (tx t)) (h2 : St s i (tx u)) : t = u := by
  unfold tx at h1 h2
  rw [St_append] at h1 h2
  have e := enc_uniq s _ _ i h1.1 h2.1
  have h1' := h1.2
  rw [e] at h1'
  exact bytesOf_inj (St_uniq s _ _ _ h1' h2.2 (by rw [bytesOf_length, bytesOf_length, e]))
theorem zs_uniq (s : ByteArray) : ∀ (l m : List Int) (i : Nat), l.length = m.length → St s i (zs l) → St s i (zs m) → l = m
  | [], [], _, _, _, _ => rfl
  | [], _ :: _, _, h, _, _ => by simp at h
  | _ :: _, [], _, h, _, _ => by simp at h
  | a :: l, b :: m, i, h, h1, h2 => by
    simp only [zs] at h1 h2
    rw [St_append] at h1 h2
    have e := enc_uniq s _ _ i h1.1 h2.1
    have e' : a = b := by rw [← uz_zz a, e, uz_zz]
    subst e'
    rw [zs_uniq s l m _ (by simpa using h) h1.2 h2.2]
theorem ls_uniq (s : ByteArray) {l m : List Int} {i : Nat} (h1 : St s i (ls l)) (h2 : St s i (ls m)) : l = m := by
  unfold ls at h1 h2
  rw [St_append] at h1 h2
  have e := enc_uniq s _ _ i h1.1 h2.1
  have h1' := h1.2
  rw [e] at h1'
  exact zs_uniq s _ _ _ e h1' h2.2
theorem zz_uniq (s : ByteArray) {a b : Int} {i : Nat} (h1 : St s i (enc (zz a))) (h2 : St s i (enc (zz b))) : a = b := by
  have e := enc_uniq s _ _ i h1 h2
  rw [← uz_zz a, e, uz_zz]
theorem r_int {a : Int} (h : In64 a) {k : Nat} (hk : 10 ≤ k) : sawmillref05_Int.f k a = some (strOfNums (enc (zz a))) := by
  unfold sawmillref05_Int.f
  rw [r_zigzag h.1 h.2, Option.bind_some, r_uint (zz_lt h.1 h.2) hk rfl]
  rfl
theorem p_text (t : ByteArray) (ht : t.size ≤ 1000000000) {k : Nat} (hk : 10 ≤ k) : wire_Text.f k t = some (strOfNums (tx t)) := by
  unfold wire_Text.f
  have := enc_len10 (n := t.size) (by omega)
  rw [vu64 (n := (t.size : Int)) (by omega) (by omega), put_enc (n := t.size) (by omega) hk [] (by simp) rfl, Option.bind_some, List.nil_append, if_pos (by omega)]
  rfl
theorem r_text (t : ByteArray) (ht : t.size ≤ 1000000000) {k : Nat} (hk : 10 ≤ k) : sawmillref05_Text.f k t = some (strOfNums (tx t)) := by
  unfold sawmillref05_Text.f
  have := enc_len10 (n := t.size) (by omega)
  rw [vu64 (n := (t.size : Int)) (by omega) (by omega), r_uint (n := t.size) (by omega) hk rfl, Option.bind_some, strOfNums_size, if_pos (by omega)]
  conv => lhs; rw [← str_bytesOf t]
  rw [strOfNums_append, str_bytesOf]
  rfl
theorem rd_append (l m : List Int) (i : Int) (h : i = l.length) (x : Int) : rd (l ++ x :: m) i = x := by
  subst h
  simp [rd]
theorem p_ints_l : ∀ (m l : List Int) (xs : List Int) (k : Nat) (i : Int), i = l.length → (∀ n ∈ m, In64 n) → (l ++ m).length ≤ 1000000 → xs.length + 10 * m.length ≤ 50000000 → m.length + 11 ≤ k →
    wire_Ints.l0 k xs (l ++ m) ((l ++ m).length : Int) i = some (strOfNums (xs ++ zs m))
  | m, l, xs, 0, i, hi, hm, hl, hx, hk => by omega
  | [], l, xs, k + 1, i, hi, hm, hl, hx, hk => by
    simp only [wire_Ints.l0]
    rw [if_neg (by simp; omega)]
    simp [zs]
  | n :: m, l, xs, k + 1, i, hi, hm, hl, hx, hk => by
    have hn := hm n (by simp)
    simp only [List.length_append, List.length_cons] at hl hx hk
    simp only [wire_Ints.l0]
    have h10 := enc_len10 (zz_lt hn.1 hn.2)
    rw [if_pos (by simp; omega), if_pos (by omega), if_pos (by simp; omega), rd_append l m i hi n, p_zigzag hn.1 hn.2, Option.bind_some, put_enc (zz_lt hn.1 hn.2) (by omega) xs (by omega) rfl, Option.bind_some, v64 (by omega) (by omega)]
    have := p_ints_l m (l ++ [n]) (xs ++ enc (zz n)) k (i + 1) (by simp; omega) (fun x hx => hm x (List.mem_cons_of_mem _ hx)) (by simp; omega) (by simp only [List.length_append]; omega) (by omega)
    simp only [List.append_assoc, List.cons_append, List.nil_append] at this
    rw [this]
    rfl
theorem p_ints (l : List Int) (hm : ∀ n ∈ l, In64 n) (hl : l.length ≤ 1000000) {k : Nat} (hk : l.length + 11 ≤ k) : wire_Ints.f k l = some (strOfNums (ls l)) := by
  unfold wire_Ints.f
  have h10 := enc_len10 (n := l.length) (by omega)
  rw [vu64 (n := (l.length : Int)) (by omega) (by omega), put_enc (n := l.length) (by omega) (by omega) [] (by simp) rfl, Option.bind_some]
  have := p_ints_l l [] ([] ++ enc l.length) k 0 rfl hm (by simpa using hl) (by simp; omega) hk
  simpa [ls] using this
theorem r_ints_l : ∀ (m l : List Int) (xs : List Int) (k : Nat) (i : Int), i = l.length → (∀ n ∈ m, In64 n) → (l ++ m).length ≤ 1000000 → xs.length + 10 * m.length ≤ 50000000 → m.length + 11 ≤ k →
    sawmillref05_Ints.l0 k (l ++ m) (strOfNums xs) i = some (strOfNums (xs ++ zs m))
  | m, l, xs, 0, i, hi, hm, hl, hx, hk => by omega
  | [], l, xs, k + 1, i, hi, hm, hl, hx, hk => by
    simp only [sawmillref05_Ints.l0]
    rw [if_neg (by simp; omega)]
    simp [zs]
  | n :: m, l, xs, k + 1, i, hi, hm, hl, hx, hk => by
    have hn := hm n (by simp)
    simp only [List.length_append, List.length_cons] at hl hx hk
    simp only [sawmillref05_Ints.l0]
    have h10 := enc_len10 (zz_lt hn.1 hn.2)
    rw [if_pos (by simp; omega), if_pos (by omega), rd_append l m i hi n, r_int hn (by omega), Option.bind_some, strOfNums_size, strOfNums_size, if_pos (by omega), strOfNums_append, v64 (by omega) (by omega)]
    have := r_ints_l m (l ++ [n]) (xs ++ enc (zz n)) k (i + 1) (by simp; omega) (fun x hx => hm x (List.mem_cons_of_mem _ hx)) (by simp; omega) (by simp only [List.length_append]; omega) (by omega)
    simp only [List.append_assoc, List.cons_append, List.nil_append] at this
    rw [this]
    rfl
theorem r_ints (l : List Int) (hm : ∀ n ∈ l, In64 n) (hl : l.length ≤ 1000000) {k : Nat} (hk : l.length + 11 ≤ k) : sawmillref05_Ints.f k l = some (strOfNums (ls l)) := by
  unfold sawmillref05_Ints.f
  have h10 := enc_len10 (n := l.length) (by omega)
  rw [vu64 (n := (l.length : Int)) (by omega) (by omega), r_uint (n := l.length) (by omega) (by omega) rfl, Option.bind_some]
  have := r_ints_l l [] (enc l.length) k 0 rfl hm (by simpa using hl) (by omega) hk
  simpa [ls] using this
theorem i64_xor0 (a : Nat) (ha : a < 9223372036854775808) : Go.bits .xor .i64 (a : Int) 0 = (a : Int) := by
  show IntKind.i64.wrap ((BitVec.ofInt 64 (a : Int) ^^^ BitVec.ofInt 64 0).toNat : Int) = _
  have h1 : BitVec.ofInt 64 0 = 0#64 := by decide
  rw [h1, BitVec.xor_zero, ofInt_u64 a (by omega)]
  simp [IntKind.wrap, IntKind.bits, IntKind.signed]
  omega
theorem i64_xor1 (a : Nat) (ha : a < 9223372036854775808) : Go.bits .xor .i64 (a : Int) (-1) = -1 - (a : Int) := by
  rw [← i64_not a ha]
  show IntKind.i64.wrap ((BitVec.ofInt 64 (a : Int) ^^^ BitVec.ofInt 64 (-1)).toNat : Int) = IntKind.i64.wrap ((BitVec.ofInt 64 (-1) ^^^ BitVec.ofInt 64 (a : Int)).toNat : Int)
  rw [BitVec.xor_comm]
theorem p_uz {m : Nat} (h : m < 18446744073709551616) : Go.bits .xor .i64 (wrap64 ((m : Int) / 2)) (wrap64 (-(wrap64 (Go.bits .and .u64 (m : Int) 1)))) = uz m := by
  have e : Go.bits .and .u64 (m : Int) 1 = ((m % 2 : Nat) : Int) := by
    rw [show (1 : Int) = ((1 : Nat) : Int) from rfl, u64_and_nat m 1 h (by omega), nat_mask1]
  rw [e, v64 (n := ((m % 2 : Nat) : Int)) (by omega) (by omega), v64 (n := -((m % 2 : Nat) : Int)) (by omega) (by omega), v64 (n := (m : Int) / 2) (by omega) (by omega), show (m : Int) / 2 = ((m / 2 : Nat) : Int) by omega]
  unfold uz
  by_cases h1 : m % 2 = 1
  · rw [if_pos h1, h1, show (-((1 : Nat) : Int)) = -1 from rfl, i64_xor1 _ (by omega)]
    omega
  · rw [if_neg h1, show m % 2 = 0 by omega, show (-((0 : Nat) : Int)) = 0 from rfl, i64_xor0 _ (by omega)]
def SgnRes (s : ByteArray) (p e lo hi : Int) (a : Nat) (X : Option (Int × Int × Int × ByteArray × Int × Int)) (Y : Option (Int × Int × Int)) : Prop :=
  (∃ v : Int, lo ≤ v ∧ v ≤ hi ∧ In64 v ∧ St s a (enc (zz v)) ∧ X = some (v, ((enc (zz v)).length : Int), 0, s, p, e) ∧ Y = some (v, ((a + (enc (zz v)).length : Nat) : Int), 0)) ∨
  (∃ er : Int, er ≠ 0 ∧ (∀ v : Int, lo ≤ v → v ≤ hi → In64 v → ¬ St s a (enc (zz v))) ∧ X = some (0, 0, er, s, p, e) ∧ Y = some (0, (a : Int), er))
theorem sgn_at (s : ByteArray) (a : Nat) (p e : Int) (ha : a ≤ s.size) (hs : s.size ≤ 1000000000000000) {k : Nat} (hk : 20 ≤ k) (lo hi : Int) {x y : Int} (hx : x = a) (hy : y = a) :
    SgnRes s p e lo hi a (wire_Reader_signed.f k s p e x lo hi) (sawmillref05_signed.f k s y lo hi) := by
  unfold wire_Reader_signed.f sawmillref05_signed.f
  rcases num_at s a p e ha hs hk hx hy with ⟨m, hm, hS, hX, hY⟩ | ⟨er, her, hno, hX, hY⟩
  · rw [hX, hY]
    simp only [Option.bind_some, if_true]
    rw [p_uz hm]
    have hu := uz_range hm
    have hiu : In64 (uz m) := hu
    have e2 : Int.tmod (m : Int) 2 = ((m % 2 : Nat) : Int) := by rw [Int.tmod_eq_emod_of_nonneg (by omega)]; omega
    have e1 : Int.tdiv (m : Int) 2 = ((m / 2 : Nat) : Int) := by rw [Int.tdiv_eq_ediv_of_nonneg (by omega)]; omega
    rw [e1, e2, vu64 (n := ((m / 2 : Nat) : Int)) (by omega) (by omega), v64 (n := ((m / 2 : Nat) : Int)) (by omega) (by omega), v64 (n := -((m / 2 : Nat) : Int)) (by omega) (by omega), v64 (n := -((m / 2 : Nat) : Int) - 1) (by omega) (by omega)]
    have hYY : (if ((m % 2 : Nat) : Int) = 1 then (if -((m / 2 : Nat) : Int) - 1 < lo then (some ((0 : Int), y, (9 : Int))) else (if -((m / 2 : Nat) : Int) - 1 > hi then (some (0, y, 9)) else (some (-((m / 2 : Nat) : Int) - 1, ((a + (enc m).length : Nat) : Int), 0)))) else (if ((m / 2 : Nat) : Int) < lo then (some (0, y, 9)) else (if ((m / 2 : Nat) : Int) > hi then (some (0, y, 9)) else (some (((m / 2 : Nat) : Int), ((a + (enc m).length : Nat) : Int), 0))))) = (if uz m < lo then (some ((0 : Int), y, (9 : Int))) else (if uz m > hi then (some (0, y, 9)) else (some (uz m, ((a + (enc m).length : Nat) : Int), 0)))) := by
      unfold uz
      by_cases h1 : m % 2 = 1
      · rw [if_pos h1, if_pos (by omega)]
      · rw [if_neg h1, if_neg (by omega)]
    rw [hYY]
    have hno : ∀ v : Int, In64 v → St s a (enc (zz v)) → v = uz m := fun v _ hv => by rw [← enc_uniq s _ _ a hv hS, uz_zz]
    by_cases h1 : uz m < lo
    · rw [if_pos h1, if_pos h1, hy]
      exact Or.inr ⟨9, by decide, fun v h2 h3 h4 h5 => by have := hno v h4 h5; omega, rfl, rfl⟩
    · rw [if_neg h1, if_neg h1]
      by_cases h2 : uz m > hi
      · rw [if_pos h2, if_pos h2, hy]
        exact Or.inr ⟨9, by decide, fun v h2 h3 h4 h5 => by have := hno v h4 h5; omega, rfl, rfl⟩
      · rw [if_neg h2, if_neg h2]
        exact Or.inl ⟨uz m, by omega, by omega, hiu, by rw [zz_uz]; exact hS, by rw [zz_uz], by rw [zz_uz]⟩
  · rw [hX, hY]
    have h0 : ¬ er = 0 := by omega
    simp only [Option.bind_some]
    rw [if_neg h0, if_neg h0, hy]
    exact Or.inr ⟨er, h0, fun v h2 h3 h4 h5 => hno _ (zz_lt h4.1 h4.2) h5, rfl, rfl⟩
def RdRes {α : Type} (s : ByteArray) (a : Nat) (e : Int) (E : α → List Int) (P : α → Prop) (z : α) (X : Option (α × ByteArray × Int × Int)) (Y : Option (ByteArray × Int × Int × α)) : Prop :=
  (∃ v : α, e = 0 ∧ P v ∧ St s a (E v) ∧ X = some (v, s, ((a + (E v).length : Nat) : Int), 0) ∧ Y = some (s, ((a + (E v).length : Nat) : Int), 0, v)) ∨
  (∃ er : Int, er ≠ 0 ∧ (e = 0 → ∀ v, P v → ¬ St s a (E v)) ∧ X = some (z, s, (a : Int), er) ∧ Y = some (s, (a : Int), er, z))
theorem text_j (s : ByteArray) (a : Int) (b m k : Nat) (hb : b ≤ s.size) (hm : m ≤ 1000000000) (hs : s.size ≤ 1000000000000000) : wire_Reader_Text.j0 (k + 1) (m : Int) (b : Int) (decide ((m : Int) > (s.size : Int) - (b : Int))) s a 0 = if b + m ≤ s.size then some (s.extract b (b + m), s, ((b + m : Nat) : Int), 0) else some ((⟨#[]⟩ : ByteArray), s, a, 3) := by
  have e2 : wrap64 ((b : Int) + (m : Int)) = ((b + m : Nat) : Int) := by rw [v64 (by omega) (by omega)]; omega
  simp only [wire_Reader_Text.j0]
  rw [e2]
  by_cases h : b + m ≤ s.size
  · rw [decide_eq_false (by omega), if_neg Bool.false_ne_true, if_pos trivial, if_pos (by omega), if_pos (by omega), if_pos (by omega), if_pos h]
    rfl
  · rw [decide_eq_true (by omega), if_pos rfl, if_neg h]
theorem text_j' (s : ByteArray) (a : Int) (b m k : Nat) (hb : b ≤ s.size) (hm : m ≤ 1000000000) (hs : s.size ≤ 1000000000000000) : sawmillref05_ReadText.j0 (k + 1) (m : Int) (b : Int) false s a 0 = if b + m ≤ s.size then some (s, ((b + m : Nat) : Int), 0, s.extract b (b + m)) else some (s, a, 3, (⟨#[]⟩ : ByteArray)) := by
  have e1 : wrap64 (m : Int) = m := v64 (by omega) (by omega)
  have e2 : wrap64 ((b : Int) + (m : Int)) = ((b + m : Nat) : Int) := by rw [v64 (by omega) (by omega)]; omega
  have e3 : wrap64 ((s.size : Int) - (b : Int)) = (s.size : Int) - (b : Int) := v64 (by omega) (by omega)
  simp only [sawmillref05_ReadText.j0, sawmillref05_fail.f, Option.bind_some]
  rw [e1, e2, e3, vu64 (by omega) (by omega), if_neg Bool.false_ne_true]
  by_cases h : b + m ≤ s.size
  · rw [if_neg (by omega), if_pos (by omega), if_pos (by omega), if_pos (by omega), if_pos h]
    rfl
  · rw [if_pos (by omega), if_neg h]
theorem text_at (s : ByteArray) (a : Nat) (e : Int) (ha : a ≤ s.size) (hs : s.size ≤ 1000000000000000) {k : Nat} (hk : 20 ≤ k) (most : Nat) (hmost : most ≤ 1000000000) {mi : Int} (hmi : mi = most) :
    RdRes s a e tx (fun t => t.size ≤ most) (⟨#[]⟩ : ByteArray) (wire_Reader_Text.f k s a e mi) (sawmillref05_ReadText.f k s a e mi) := by
  subst hmi
  obtain ⟨k, rfl⟩ : ∃ m, k = m + 1 := ⟨k - 1, by omega⟩
  unfold wire_Reader_Text.f sawmillref05_ReadText.f wire_Reader_ready.f
  simp only [Option.bind_some]
  by_cases he : e = 0
  · subst he
    rw [if_pos (by rfl), if_pos rfl]
    unfold wire_Reader_count.f
    rcases num_at s a a 0 ha hs hk (x := a) (y := a) rfl rfl with ⟨m, hm, hS, hX, hY⟩ | ⟨er, her, hno, hX, hY⟩
    · have hl := St_len s _ a ha hS
      rw [hX, hY]
      simp only [Option.bind_some, if_true]
      rw [if_neg (show ¬ (most : Int) < 0 by omega), if_neg (show ¬ (most : Int) < 0 by omega), vu64 (n := (most : Int)) (by omega) (by omega)]
      have hno : ∀ t : ByteArray, St s a (tx t) → t.size = m ∧ St s (a + (enc m).length) (bytesOf t) := by
        intro t ht
        unfold tx at ht
        rw [St_append] at ht
        have e := enc_uniq s _ _ a ht.1 hS
        rw [e] at ht
        exact ⟨e, ht.2⟩
      by_cases h1 : most < m
      · rw [if_pos (show (m : Int) > most by omega), decide_eq_true (show (m : Int) > most by omega)]
        simp only [Option.bind_some]
        rw [if_neg (by decide)]
        simp only [wire_Reader_Text.j0, sawmillref05_ReadText.j0, sawmillref05_fail.f, Option.bind_some]
        rw [if_neg Bool.false_ne_true, if_neg (by decide), if_pos trivial]
        exact Or.inr ⟨4, by decide, fun _ t ht h => by have := (hno t h).1; omega, rfl, rfl⟩
      · rw [if_neg (show ¬ (m : Int) > most by omega), decide_eq_false (show ¬ (m : Int) > most by omega)]
        rw [Option.bind_some]
        rw [if_pos rfl]
        dsimp only
        have e1 : wrap64 (m : Int) = m := v64 (by omega) (by omega)
        have e2 : wrap64 ((a : Int) + ((enc m).length : Int)) = ((a + (enc m).length : Nat) : Int) := by rw [v64 (by omega) (by omega)]; omega
        have e3 : wrap64 ((s.size : Int) - ((a + (enc m).length : Nat) : Int)) = (s.size : Int) - ((a + (enc m).length : Nat) : Int) := v64 (by omega) (by omega)
        rw [e1, e2, e3, text_j s a _ m k hl (by omega) hs, text_j' s a _ m k hl (by omega) hs]
        by_cases h2 : s.size < a + (enc m).length + m
        · rw [if_neg (by omega), if_neg (by omega)]
          refine Or.inr ⟨3, by decide, fun _ t ht h => ?_, rfl, rfl⟩
          obtain ⟨g1, g2⟩ := hno t h
          have := St_len s _ _ (by omega) g2
          rw [bytesOf_length] at this
          omega
        · rw [if_pos (by omega), if_pos (by omega)]
          have hz : (s.extract (a + (enc m).length) (a + (enc m).length + m)).size = m := by rw [ByteArray.size_extract]; omega
          have hl2 : (tx (s.extract (a + (enc m).length) (a + (enc m).length + m))).length = (enc m).length + m := by
            unfold tx
            rw [List.length_append, bytesOf_length, hz]
          refine Or.inl ⟨s.extract (a + (enc m).length) (a + (enc m).length + m), rfl, (by show _ ≤ most; rw [hz]; omega), ?_, ?_, ?_⟩
          · unfold tx
            rw [St_append, hz]
            exact ⟨hS, St_extract s _ _ (by omega) (by omega)⟩
          · rw [hl2, Nat.add_assoc]
          · rw [hl2, Nat.add_assoc]
    · rw [hX, hY]
      have h0 : ¬ er = 0 := by omega
      simp only [Option.bind_some, sawmillref05_fail.f]
      rw [if_neg h0, if_neg h0]
      simp only [Option.bind_some]
      rw [if_neg h0]
      simp only [wire_Reader_Text.j0]
      rw [if_neg Bool.false_ne_true, if_neg h0]
      refine Or.inr ⟨er, h0, fun _ t ht h => ?_, rfl, rfl⟩
      unfold tx at h
      rw [St_append] at h
      exact hno _ (by omega) h.1
  · rw [if_neg (by simpa using he), if_neg he]
    exact Or.inr ⟨e, he, fun h => absurd h he, rfl, rfl⟩
theorem ints_l (s : ByteArray) (p : Int) (hs : s.size ≤ 1000000000000000) (lo hi : Int) (hlo : -9223372036854775808 ≤ lo) (hhi : hi ≤ 9223372036854775807) : ∀ (r : Nat) (l : List Int) (at_ k : Nat) (n x y : Int), n = ((l.length + r : Nat) : Int) → l.length + r ≤ 1000000 → at_ ≤ s.size → x = at_ → y = at_ → r + 30 ≤ k →
    ((∃ m : List Int, m.length = r ∧ (∀ v ∈ m, lo ≤ v ∧ v ≤ hi) ∧ St s at_ (zs m) ∧ wire_Reader_Ints.l0 k lo hi n x l s p 0 = some (l ++ m, s, ((at_ + (zs m).length : Nat) : Int), 0) ∧ sawmillref05_ReadInts.l0 k lo hi n y l s p 0 = some (s, ((at_ + (zs m).length : Nat) : Int), 0, l ++ m)) ∨
     (∃ er : Int, er ≠ 0 ∧ (∀ m : List Int, m.length = r → (∀ v ∈ m, lo ≤ v ∧ v ≤ hi) → ¬ St s at_ (zs m)) ∧ wire_Reader_Ints.l0 k lo hi n x l s p 0 = some ([], s, p, er) ∧ sawmillref05_ReadInts.l0 k lo hi n y l s p 0 = some (s, p, er, []))) := by
  intro r
  induction r with
  | zero =>
    intro l at_ k n x y hn hl ha hx hy hk
    obtain ⟨k, rfl⟩ : ∃ m, k = m + 1 := ⟨k - 1, by omega⟩
    simp only [wire_Reader_Ints.l0, sawmillref05_ReadInts.l0, if_true]
    rw [vu64 (n := (l.length : Int)) (by omega) (by omega), if_neg (by omega), if_neg (by omega)]
    exact Or.inl ⟨[], rfl, fun v hv => by simp at hv, trivial, by simp [zs, hx], by simp [zs, hy]⟩
  | succ r ih =>
    intro l at_ k n x y hn hl ha hx hy hk
    obtain ⟨k, rfl⟩ : ∃ m, k = m + 1 := ⟨k - 1, by omega⟩
    simp only [wire_Reader_Ints.l0, sawmillref05_ReadInts.l0, if_true]
    rw [vu64 (n := (l.length : Int)) (by omega) (by omega), if_pos (by omega), if_pos (by omega)]
    rcases sgn_at s at_ p 0 ha hs (k := k) (by omega) lo hi hx hy with ⟨v, h1, h2, h3, hS, hX, hY⟩ | ⟨er, her, hno, hX, hY⟩
    · have hle := St_len s _ at_ ha hS
      rw [hX, hY]
      simp only [Option.bind_some, if_true]
      rw [if_pos (by omega), if_pos (by omega)]
      rcases ih (l ++ [v]) (at_ + (enc (zz v)).length) k n (wrap64 (x + ((enc (zz v)).length : Int))) (((at_ + (enc (zz v)).length : Nat) : Int)) (by simp; omega) (by simp; omega) hle (by rw [v64 (by omega) (by omega)]; omega) rfl (by omega) with ⟨m, g1, g2, g3, g4, g5⟩ | ⟨er, g1, g2, g3, g4⟩
      · rw [g4, g5]
        refine Or.inl ⟨v :: m, by simp [g1], fun u hu => ?_, ?_, ?_, ?_⟩
        · rcases List.mem_cons.1 hu with rfl | hu
          · exact ⟨h1, h2⟩
          · exact g2 u hu
        · simp only [zs]
          rw [St_append]
          exact ⟨hS, g3⟩
        · simp only [zs, List.length_append, List.append_assoc, List.cons_append, List.nil_append, Nat.add_assoc]
        · simp only [zs, List.length_append, List.append_assoc, List.cons_append, List.nil_append, Nat.add_assoc]
      · rw [g3, g4]
        refine Or.inr ⟨er, g1, fun m hm hmr hSm => ?_, rfl, rfl⟩
        rcases m with _ | ⟨u, m⟩
        · simp at hm
        · simp only [zs] at hSm
          rw [St_append] at hSm
          obtain rfl : u = v := zz_uniq s hSm.1 hS
          exact g2 m (by simpa using hm) (fun w hw => hmr w (List.mem_cons_of_mem _ hw)) hSm.2
    · rw [hX, hY]
      obtain ⟨k, rfl⟩ : ∃ m, k = m + 1 := ⟨k - 1, by omega⟩
      simp only [Option.bind_some, sawmillref05_fail.f, wire_Reader_Ints.l0]
      rw [if_pos (by omega), if_neg her, if_neg her]
      refine Or.inr ⟨er, her, fun m hm hmr hSm => ?_, rfl, rfl⟩
      rcases m with _ | ⟨u, m⟩
      · simp at hm
      · simp only [zs] at hSm
        rw [St_append] at hSm
        have hu := hmr u (by simp)
        exact hno u hu.1 hu.2 ⟨by omega, by omega⟩ hSm.1
theorem ints_at (s : ByteArray) (a : Nat) (e : Int) (ha : a ≤ s.size) (hs : s.size ≤ 1000000000000000) (most : Nat) (hmost : most ≤ 1000000) {k : Nat} (hk : most + 40 ≤ k) {mi : Int} (hmi : mi = most) (lo hi : Int) (hlo : -9223372036854775808 ≤ lo) (hhi : hi ≤ 9223372036854775807) :
    RdRes s a e ls (fun l => l.length ≤ most ∧ ∀ v ∈ l, lo ≤ v ∧ v ≤ hi) ([] : List Int) (wire_Reader_Ints.f k s a e mi lo hi) (sawmillref05_ReadInts.f k s a e mi lo hi) := by
  subst hmi
  obtain ⟨k, rfl⟩ : ∃ m, k = m + 1 := ⟨k - 1, by omega⟩
  unfold wire_Reader_Ints.f sawmillref05_ReadInts.f wire_Reader_ready.f
  simp only [Option.bind_some]
  by_cases he : e = 0
  · subst he
    rw [if_pos (by rfl), if_pos rfl]
    unfold wire_Reader_count.f
    rcases num_at s a a 0 ha hs (k := k + 1) (by omega) (x := a) (y := a) rfl rfl with ⟨m, hm, hS, hX, hY⟩ | ⟨er, her, hno, hX, hY⟩
    · have hl := St_len s _ a ha hS
      rw [hX, hY]
      simp only [Option.bind_some, if_true]
      rw [if_neg (show ¬ (most : Int) < 0 by omega), if_neg (show ¬ (most : Int) < 0 by omega), vu64 (n := (most : Int)) (by omega) (by omega)]
      have hno : ∀ t : List Int, St s a (ls t) → t.length = m ∧ St s (a + (enc m).length) (zs t) := by
        intro t ht
        unfold ls at ht
        rw [St_append] at ht
        have e := enc_uniq s _ _ a ht.1 hS
        rw [e] at ht
        exact ⟨e, ht.2⟩
      by_cases h1 : most < m
      · rw [if_pos (show (m : Int) > most by omega), decide_eq_true (show (m : Int) > most by omega)]
        simp only [Option.bind_some]
        simp only [wire_Reader_Ints.l0, sawmillref05_ReadInts.j0, sawmillref05_fail.f, Option.bind_some]
        rw [if_neg (by decide), if_pos trivial]
        exact Or.inr ⟨4, by decide, fun _ t ht h => by have := (hno t h).1; have := ht.1; omega, rfl, rfl⟩
      · rw [if_neg (show ¬ (m : Int) > most by omega), decide_eq_false (show ¬ (m : Int) > most by omega)]
        rw [Option.bind_some]
        dsimp only
        have e1 : wrap64 (m : Int) = m := v64 (by omega) (by omega)
        have e2 : wrap64 ((a : Int) + ((enc m).length : Int)) = ((a + (enc m).length : Nat) : Int) := by rw [v64 (by omega) (by omega)]; omega
        rw [e1, e2]
        simp only [sawmillref05_ReadInts.j0]
        rw [if_neg Bool.false_ne_true]
        rcases ints_l s a hs lo hi hlo hhi m [] (a + (enc m).length) k (m : Int) ((a + (enc m).length : Nat) : Int) ((a + (enc m).length : Nat) : Int) (by simp) (by simp; omega) hl rfl rfl (by omega) with ⟨r, g1, g2, g3, g4, g5⟩ | ⟨er, g1, g2, g3, g4⟩
        · have g4' := at_rounds (g := fun k => wire_Reader_Ints.l0 k lo hi (m : Int) ((a + (enc m).length : Nat) : Int) [] s a 0) (fun k => wire_Reader_Ints.mono_l k _ _ _ _ _ _ _ _) (k := k) (k' := k + 1) (by omega) g4
          rw [g4', g5]
          refine Or.inl ⟨r, rfl, ⟨by omega, g2⟩, ?_, ?_, ?_⟩
          · unfold ls
            rw [St_append, g1]
            exact ⟨hS, g3⟩
          · simp only [ls, List.nil_append, List.length_append, g1, Nat.add_assoc]
          · simp only [ls, List.nil_append, List.length_append, g1, Nat.add_assoc]
        · have g3' := at_rounds (g := fun k => wire_Reader_Ints.l0 k lo hi (m : Int) ((a + (enc m).length : Nat) : Int) [] s a 0) (fun k => wire_Reader_Ints.mono_l k _ _ _ _ _ _ _ _) (k := k) (k' := k + 1) (by omega) g3
          rw [g3', g4]
          refine Or.inr ⟨er, g1, fun _ t ht h => ?_, rfl, rfl⟩
          obtain ⟨q1, q2⟩ := hno t h
          exact g2 t q1 ht.2 q2
    · rw [hX, hY]
      have h0 : ¬ er = 0 := by omega
      simp only [Option.bind_some, sawmillref05_fail.f]
      rw [if_neg h0, if_neg h0]
      simp only [Option.bind_some, wire_Reader_Ints.l0]
      rw [if_neg h0]
      refine Or.inr ⟨er, h0, fun _ t ht h => ?_, rfl, rfl⟩
      unfold ls at h
      rw [St_append] at h
      exact hno _ (by have := ht.1; omega) h.1
  · rw [if_neg (by simpa using he), if_neg he]
    exact Or.inr ⟨e, he, fun h => absurd h he, rfl, rfl⟩
theorem end_at (s : ByteArray) (a : Nat) (e : Int) (ha : a ≤ s.size) (hs : s.size ≤ 1000000000000000) : wire_Reader_End.f s a e = some (if e = 0 then (if s.size = a then 0 else 4) else e, s, (a : Int), e) ∧ sawmillref05_End.f s a e = some (if e = 0 then (if s.size = a then 0 else 4) else e) := by
  unfold wire_Reader_End.f sawmillref05_End.f wire_Reader_Err.f wire_Reader_Left.f sawmillref05_Left.f
  simp only [Option.bind_some]
  rw [v64 (n := (s.size : Int) - a) (by omega) (by omega)]
  by_cases he : e = 0
  · subst he
    simp only [if_true]
    by_cases h : s.size = a
    · rw [if_pos h, if_pos (by omega), if_neg (by omega)]
      refine ⟨?_, ?_⟩ <;> first | rfl | trivial
    · rw [if_neg h, if_neg (by omega), if_pos (by omega)]
      refine ⟨?_, ?_⟩ <;> first | rfl | trivial
  · simp only [he, if_false]
    refine ⟨?_, ?_⟩ <;> first | rfl | trivial
end Go.Proofs.YtblmgmhjlbkncaaDoor.PA
namespace Go.Proofs.YtblmgmhjlbkncaaDoor.PA
open Go.RowKit Go.Proofs.YtblmgmhjlbkncaaDoorW.PrintWords
set_option linter.unusedVariables false
def bigN (n : Int) : Bool := decide (-1099511627776 ≤ n) && decide (n ≤ 1099511627776)
theorem bigN_iff (n : Int) : bigN n = true ↔ -1099511627776 ≤ n ∧ n ≤ 1099511627776 := by simp [bigN]
theorem min_l : ∀ (m l : List Int) (k : Nat) (x i : Int), i = l.length → (l ++ m).length ≤ 1000000 → m.length < k → slices_Min_int_int.l0 k (l ++ m) x i = some (m.foldl mn x)
  | [], l, k, x, i, hi, hl, hk => by
    obtain ⟨k, rfl⟩ : ∃ j, k = j + 1 := ⟨k - 1, by omega⟩
    unfold slices_Min_int_int.l0
    rw [if_neg (by simp; omega)]
    rfl
  | n :: m, l, k, x, i, hi, hl, hk => by
    obtain ⟨k, rfl⟩ : ∃ j, k = j + 1 := ⟨k - 1, by omega⟩
    simp only [List.length_append, List.length_cons] at hl hk
    unfold slices_Min_int_int.l0
    rw [if_pos (by simp; omega), if_pos (by omega), rd_append l m i hi n, ow64 (by omega) (by omega), show l ++ n :: m = (l ++ [n]) ++ m by simp, min_l m (l ++ [n]) k (mn x n) (i + 1) (by simp; omega) (by simp; omega) (by omega)]
    rfl
theorem max_l : ∀ (m l : List Int) (k : Nat) (x i : Int), i = l.length → (l ++ m).length ≤ 1000000 → m.length < k → slices_Max_int_int.l0 k (l ++ m) x i = some (m.foldl mx x)
  | [], l, k, x, i, hi, hl, hk => by
    obtain ⟨k, rfl⟩ : ∃ j, k = j + 1 := ⟨k - 1, by omega⟩
    unfold slices_Max_int_int.l0
    rw [if_neg (by simp; omega)]
    rfl
  | n :: m, l, k, x, i, hi, hl, hk => by
    obtain ⟨k, rfl⟩ : ∃ j, k = j + 1 := ⟨k - 1, by omega⟩
    simp only [List.length_append, List.length_cons] at hl hk
    unfold slices_Max_int_int.l0
    rw [if_pos (by simp; omega), if_pos (by omega), rd_append l m i hi n, ow64 (by omega) (by omega), show l ++ n :: m = (l ++ [n]) ++ m by simp, max_l m (l ++ [n]) k (mx x n) (i + 1) (by simp; omega) (by simp; omega) (by omega)]
    rfl
theorem fold_min (c : Int) : ∀ (m : List Int) (x : Int), m.foldl mn x < c ↔ (x < c ∨ ∃ n ∈ m, n < c)
  | [], x => by simp
  | n :: m, x => by
    rw [List.foldl_cons, fold_min c m (mn x n)]
    have : mn x n < c ↔ x < c ∨ n < c := by unfold mn; split <;> omega
    rw [this]
    simp [or_assoc]
theorem fold_max (c : Int) : ∀ (m : List Int) (x : Int), m.foldl mx x > c ↔ (x > c ∨ ∃ n ∈ m, n > c)
  | [], x => by simp
  | n :: m, x => by
    rw [List.foldl_cons, fold_max c m (mx x n)]
    have : mx x n > c ↔ x > c ∨ n > c := by unfold mx; split <;> omega
    rw [this]
    simp [or_assoc]
def recO (a b : ByteArray) (l : List Int) : List Int := tx a ++ tx b ++ ls l
section
variable {a0 a1 : ByteArray} {a2 a3 a4 a5 a6 a7 a8 a9 a10 : Int}
def encO (a b : ByteArray) (l : List Int) : ByteArray × Int := if 16 < a.size ∨ 16 < b.size then ((⟨#[]⟩ : ByteArray), 6) else if l.all bigN = true then (strOfNums (recO a b l), 0) else ((⟨#[]⟩ : ByteArray), 9)
theorem p_encO {k : Nat} (hk : 100 ≤ k) : order_Encode.f k a0 a1 a2 a3 a4 a5 a6 a7 a8 a9 a10 = some (encO a0 a1 [a2, a3, a4, a5, a6, a7, a8, a9, a10]) := by
  unfold order_Encode.f encO
  by_cases h : 16 < a0.size ∨ 16 < a1.size
  · rw [if_pos h, if_pos (by unfold mx; split <;> omega)]
  · rw [if_neg h, if_neg (by unfold mx; split <;> omega)]
    obtain ⟨k, rfl⟩ : ∃ j, k = j + 1 := ⟨k - 1, by omega⟩
    have e0 : order_numbers.f a0 a1 a2 a3 a4 a5 a6 a7 a8 a9 a10 = some [a2, a3, a4, a5, a6, a7, a8, a9, a10] := rfl
    have emin : slices_Min_int_int.f (k + 1) [a2, a3, a4, a5, a6, a7, a8, a9, a10] = some (([a3, a4, a5, a6, a7, a8, a9, a10] : List Int).foldl mn a2) := by
      unfold slices_Min_int_int.f
      rw [if_neg (by simp), if_pos (by simp)]
      exact min_l [a3, a4, a5, a6, a7, a8, a9, a10] [a2] (k + 1) a2 1 rfl (by simp) (by simp; omega)
    have emax : slices_Max_int_int.f (k + 1) [a2, a3, a4, a5, a6, a7, a8, a9, a10] = some (([a3, a4, a5, a6, a7, a8, a9, a10] : List Int).foldl mx a2) := by
      unfold slices_Max_int_int.f
      rw [if_neg (by simp), if_pos (by simp)]
      exact max_l [a3, a4, a5, a6, a7, a8, a9, a10] [a2] (k + 1) a2 1 rfl (by simp) (by simp; omega)
    rw [e0, Option.bind_some, emin, emax, Option.bind_some, Option.bind_some]
    have h1 := fold_min (-1099511627776) [a3, a4, a5, a6, a7, a8, a9, a10] a2
    have h2 := fold_max 1099511627776 [a3, a4, a5, a6, a7, a8, a9, a10] a2
    generalize List.foldl mn a2 [a3, a4, a5, a6, a7, a8, a9, a10] = p at h1 ⊢
    generalize List.foldl mx a2 [a3, a4, a5, a6, a7, a8, a9, a10] = q at h2 ⊢
    have hall : ([a2, a3, a4, a5, a6, a7, a8, a9, a10] : List Int).all bigN = true ↔ ¬ (p < -1099511627776) ∧ ¬ (q > 1099511627776) := by
      rw [h1, h2, List.all_eq_true]
      simp only [bigN_iff, List.mem_cons, List.not_mem_nil, or_false, forall_eq_or_imp, forall_eq, exists_eq_or_imp, exists_eq_left]
      omega
    have bad : order_Encode.j0 (k + 1) [a2, a3, a4, a5, a6, a7, a8, a9, a10] true a0 a1 a2 a3 a4 a5 a6 a7 a8 a9 a10 = some ((⟨#[]⟩ : ByteArray), 9) := by
      simp only [order_Encode.j0]
      rw [if_pos trivial]
    by_cases c1 : p < -1099511627776
    · rw [if_pos c1, if_neg (fun e => (hall.1 e).1 c1), bad]
    · rw [if_neg c1]
      by_cases c2 : q > 1099511627776
      · rw [decide_eq_true c2, if_neg (fun e => (hall.1 e).2 c2), bad]
      · have hb := hall.2 ⟨c1, c2⟩
        rw [decide_eq_false c2, if_pos hb]
        have hin : ∀ n ∈ ([a2, a3, a4, a5, a6, a7, a8, a9, a10] : List Int), In64 n := fun n hn => by
          have := (bigN_iff n).1 (List.all_eq_true.1 hb n hn)
          exact ⟨by omega, by omega⟩
        simp only [order_Encode.j0]
        rw [if_neg (by simp), p_text a0 (by omega) (by omega), p_text a1 (by omega) (by omega), Option.bind_some, Option.bind_some]
        have l0 : (strOfNums (tx a0)).size ≤ 1000 := by
          rw [strOfNums_size]; unfold tx; rw [List.length_append]; have := enc_len10 (n := a0.size) (by omega); simp [bytesOf]; have : a0.data.size = a0.size := rfl; omega
        have l1 : (strOfNums (tx a1)).size ≤ 1000 := by
          rw [strOfNums_size]; unfold tx; rw [List.length_append]; have := enc_len10 (n := a1.size) (by omega); simp [bytesOf]; have : a1.data.size = a1.size := rfl; omega
        have l2 : (strOfNums (ls [a2, a3, a4, a5, a6, a7, a8, a9, a10])).size ≤ 1000 := by
          rw [strOfNums_size]; unfold ls; rw [List.length_append]; have := enc_len10 (n := 9) (by omega); have := zs_len _ hin; simp at this ⊢; omega
        rw [if_pos (by omega), p_ints _ hin (by simp) (by simp; omega), Option.bind_some, if_pos (by rw [ByteArray.size_append]; omega), strOfNums_append, strOfNums_append]
        rfl
end
end Go.Proofs.YtblmgmhjlbkncaaDoor.PA
namespace Go.Proofs.YtblmgmhjlbkncaaDoor.PA
open Go.RowKit Go.Proofs.YtblmgmhjlbkncaaDoorW.PrintWords
set_option linter.unusedVariables false
section
variable {a0 a1 : ByteArray} {a2 a3 a4 a5 a6 a7 a8 a9 a10 : Int}
theorem r_enc_l : ∀ (m l : List Int) (k : Nat) (i : Int), i = l.length → (l ++ m).length ≤ 1000 → m.length + 30 + (l ++ m).length < k → a0.size ≤ 16 → a1.size ≤ 16 → (∀ n ∈ l, bigN n = true) →
    sawmillref46_Encode.l0 k (l ++ m) i a0 a1 a2 a3 a4 a5 a6 a7 a8 a9 a10 = some (if m.all bigN = true then (strOfNums (recO a0 a1 (l ++ m)), 0) else ((⟨#[]⟩ : ByteArray), 9))
  | [], l, k, i, hi, hl, hk, s0, s1, hb => by
    obtain ⟨k, rfl⟩ : ∃ j, k = j + 1 := ⟨k - 1, by omega⟩
    simp only [List.append_nil] at hl hk ⊢
    have hin : ∀ n ∈ l, In64 n := fun n hn => by
      have := (bigN_iff n).1 (hb n hn)
      exact ⟨by omega, by omega⟩
    simp only [sawmillref46_Encode.l0]
    rw [if_neg (by omega), if_pos (by simp), r_text a0 (by omega) (by omega), r_text a1 (by omega) (by omega), Option.bind_some, Option.bind_some]
    have l0 : (strOfNums (tx a0)).size ≤ 1000 := by
      rw [strOfNums_size]; unfold tx; rw [List.length_append]; have := enc_len10 (n := a0.size) (by omega); simp [bytesOf]; have : a0.data.size = a0.size := rfl; omega
    have l1 : (strOfNums (tx a1)).size ≤ 1000 := by
      rw [strOfNums_size]; unfold tx; rw [List.length_append]; have := enc_len10 (n := a1.size) (by omega); simp [bytesOf]; have : a1.data.size = a1.size := rfl; omega
    have l2 : (strOfNums (ls l)).size ≤ 20000 := by
      rw [strOfNums_size]; unfold ls; rw [List.length_append]; have := enc_len10 (n := l.length) (by omega); have := zs_len _ hin; omega
    rw [if_pos (by omega), r_ints _ hin (by omega) (by omega), Option.bind_some, if_pos (by rw [ByteArray.size_append]; omega), strOfNums_append, strOfNums_append]
    rfl
  | n :: m, l, k, i, hi, hl, hk, s0, s1, hb => by
    obtain ⟨k, rfl⟩ : ∃ j, k = j + 1 := ⟨k - 1, by omega⟩
    simp only [List.length_append, List.length_cons] at hl hk
    simp only [sawmillref46_Encode.l0]
    rw [if_pos (by simp; omega), if_pos (by omega), rd_append l m i hi n]
    by_cases h1 : n < -1099511627776
    · rw [if_pos h1, if_neg]
      intro e
      have := (bigN_iff n).1 (List.all_eq_true.1 e n (by simp))
      omega
    · rw [if_neg h1]
      by_cases h2 : n > 1099511627776
      · rw [if_pos h2, if_neg]
        intro e
        have := (bigN_iff n).1 (List.all_eq_true.1 e n (by simp))
        omega
      · have hn : bigN n = true := (bigN_iff n).2 ⟨by omega, by omega⟩
        have hb' : ∀ x ∈ l ++ [n], bigN x = true := fun x hx => by
          rcases List.mem_append.1 hx with h | h
          · exact hb x h
          · rw [List.mem_singleton.1 h]; exact hn
        rw [if_neg h2, ow64 (by omega) (by omega), show l ++ n :: m = (l ++ [n]) ++ m by simp, r_enc_l m (l ++ [n]) k (i + 1) (by simp; omega) (by simp; omega) (by simp; omega) s0 s1 hb', List.all_cons, hn, Bool.true_and]
theorem r_encO {k : Nat} (hk : 100 ≤ k) : sawmillref46_Encode.f k a0 a1 a2 a3 a4 a5 a6 a7 a8 a9 a10 = some (encO a0 a1 [a2, a3, a4, a5, a6, a7, a8, a9, a10]) := by
  obtain ⟨k, rfl⟩ : ∃ j, k = j + 1 := ⟨k - 1, by omega⟩
  unfold sawmillref46_Encode.f encO
  have bad : sawmillref46_Encode.j0 (k + 1) true a0 a1 a2 a3 a4 a5 a6 a7 a8 a9 a10 = some ((⟨#[]⟩ : ByteArray), 6) := by
    simp only [sawmillref46_Encode.j0]
    rw [if_pos trivial]
  by_cases h0 : 16 < a0.size
  · rw [if_pos (by omega), if_pos (Or.inl h0), bad]
  · rw [if_neg (by omega)]
    by_cases h1 : 16 < a1.size
    · rw [decide_eq_true (by omega), if_pos (Or.inr h1), bad]
    · rw [decide_eq_false (by omega), if_neg (by omega)]
      have e0 : sawmillref46_numbers.f a0 a1 a2 a3 a4 a5 a6 a7 a8 a9 a10 = some [a2, a3, a4, a5, a6, a7, a8, a9, a10] := rfl
      simp only [sawmillref46_Encode.j0]
      have he := r_enc_l (a0 := a0) (a1 := a1) (a2 := a2) (a3 := a3) (a4 := a4) (a5 := a5) (a6 := a6) (a7 := a7) (a8 := a8) (a9 := a9) (a10 := a10) [a2, a3, a4, a5, a6, a7, a8, a9, a10] [] k 0 rfl (by simp) (by simp; omega) (by omega) (by omega) (by simp)
      rw [List.nil_append] at he
      rw [if_neg (by simp), e0, Option.bind_some, he]
end
abbrev OrdT := ByteArray × ByteArray × Int × Int × Int × Int × Int × Int × Int × Int × Int × Int
def OkO (a b : ByteArray) (l : List Int) : Prop := a.size ≤ 16 ∧ b.size ≤ 16 ∧ l.length = 9 ∧ ∀ v ∈ l, -1099511627776 ≤ v ∧ v ≤ 1099511627776
def badO : OrdT := ((⟨#[]⟩ : ByteArray), (⟨#[]⟩ : ByteArray), 0, 0, 0, 0, 0, 0, 0, 0, 0, 5)
def DecO (s : ByteArray) (X Y : Option OrdT) : Prop :=
  (∃ (a b : ByteArray) (c2 c3 c4 c5 c6 c7 c8 c9 c10 : Int), OkO a b [c2, c3, c4, c5, c6, c7, c8, c9, c10] ∧ St s 0 (recO a b [c2, c3, c4, c5, c6, c7, c8, c9, c10]) ∧ (recO a b [c2, c3, c4, c5, c6, c7, c8, c9, c10]).length = s.size ∧
    X = some (a, b, c2, c3, c4, c5, c6, c7, c8, c9, c10, 0) ∧ Y = some (a, b, c2, c3, c4, c5, c6, c7, c8, c9, c10, 0)) ∨
  ((∀ a b l, OkO a b l → St s 0 (recO a b l) → (recO a b l).length = s.size → False) ∧ X = some badO ∧ Y = some badO)
theorem nine {l : List Int} (h : l.length = 9) : ∃ c2 c3 c4 c5 c6 c7 c8 c9 c10, l = [c2, c3, c4, c5, c6, c7, c8, c9, c10] := by
  match l, h with
  | [a, b, c, d, e, f, g, i, j], _ => exact ⟨a, b, c, d, e, f, g, i, j, rfl⟩
theorem rd_step {α : Type} {s : ByteArray} {a : Nat} {e : Int} {E : α → List Int} {P : α → Prop} {z : α} {X : Option (α × ByteArray × Int × Int)} {Y : Option (ByteArray × Int × Int × α)} (ha : a ≤ s.size) (h : RdRes s a e E P z X Y) :
    ∃ (v : α) (b : Nat) (f : Int), b ≤ s.size ∧ X = some (v, s, (b : Int), f) ∧ Y = some (s, (b : Int), f, v) ∧ ((e = 0 ∧ f = 0 ∧ P v ∧ St s a (E v) ∧ b = a + (E v).length) ∨ (f ≠ 0 ∧ (e = 0 → ∀ v, P v → ¬ St s a (E v)))) := by
  rcases h with ⟨v, h1, h2, h3, h4, h5⟩ | ⟨er, h1, h2, h3, h4⟩
  · exact ⟨v, _, 0, St_len s _ a ha h3, h4, h5, Or.inl ⟨h1, rfl, h2, h3, rfl⟩⟩
  · exact ⟨z, a, er, ha, h3, h4, Or.inr ⟨h1, h2⟩⟩
theorem dec_bothO (s : ByteArray) (hs : s.size ≤ 1000000000000000) {k : Nat} (hk : 100 ≤ k) : DecO s (order_Decode.f k s) (sawmillref46_Decode.f k s) := by
  unfold order_Decode.f sawmillref46_Decode.f wire_NewReader.f sawmillref05_NewReader.f
  rw [Option.bind_some, Option.bind_some]
  obtain ⟨v0, b0, f0, q0, x0, y0, t0⟩ := rd_step (Nat.zero_le _) (text_at s 0 0 (Nat.zero_le _) hs (k := k) (by omega) 16 (by omega) (mi := 16) rfl)
  obtain ⟨v1, b1, f1, q1, x1, y1, t1⟩ := rd_step q0 (text_at s b0 f0 q0 hs (k := k) (by omega) 16 (by omega) (mi := 16) rfl)
  obtain ⟨v2, b2, f2, q2, x2, y2, t2⟩ := rd_step q1 (ints_at s b1 f1 q1 hs 9 (by omega) (k := k) (by omega) (mi := 9) rfl (-1099511627776) 1099511627776 (by omega) (by omega))
  obtain ⟨x3, y3⟩ := end_at s b2 f2 q2 hs
  have x0' : wire_Reader_Text.f k s 0 0 16 = some (v0, s, (b0 : Int), f0) := x0
  have y0' : sawmillref05_ReadText.f k s 0 0 16 = some (s, (b0 : Int), f0, v0) := y0
  dsimp only
  rw [x0', y0', Option.bind_some, Option.bind_some]
  dsimp only
  rw [x1, y1, Option.bind_some, Option.bind_some]
  dsimp only
  rw [x2, y2, Option.bind_some, Option.bind_some]
  dsimp only
  rw [x3, y3, Option.bind_some, Option.bind_some]
  dsimp only
  have hno : ∀ a b l, OkO a b l → St s 0 (recO a b l) → (recO a b l).length = s.size → (if f2 = 0 then (if s.size = b2 then (0 : Int) else 4) else f2) = 0 ∧ v0 = a ∧ v1 = b ∧ v2 = l := by
    intro a b l H h hl
    unfold recO at h hl
    simp only [St_append, List.length_append, ← Nat.add_assoc] at h hl
    obtain ⟨⟨h0, h1⟩, h2⟩ := h
    rcases t0 with ⟨-, rfl, -, g0, rfl⟩ | ⟨-, g⟩
    case inr => exact absurd h0 (g rfl a H.1)
    obtain rfl := tx_uniq s g0 h0
    rcases t1 with ⟨-, rfl, -, g1, rfl⟩ | ⟨-, g⟩
    case inr => exact absurd h1 (g rfl b H.2.1)
    obtain rfl := tx_uniq s g1 h1
    rcases t2 with ⟨-, rfl, -, g2, rfl⟩ | ⟨-, g⟩
    case inr => exact absurd h2 (g rfl l ⟨by have := H.2.2.1; omega, H.2.2.2⟩)
    obtain rfl := ls_uniq s g2 h2
    refine ⟨?_, rfl, rfl, rfl⟩
    rw [if_pos rfl, if_pos (by omega)]
  by_cases hE : (if f2 = 0 then (if s.size = b2 then (0 : Int) else 4) else f2) = 0
  · rw [if_pos hE]
    by_cases h9 : (v2.length : Int) = 9
    · obtain ⟨c2, c3, c4, c5, c6, c7, c8, c9, c10, rfl⟩ := nine (l := v2) (by omega)
      have hf2 : f2 = 0 := by
        by_cases h : f2 = 0
        · exact h
        · rw [if_neg h] at hE; exact hE
      rw [if_pos hf2] at hE
      have hsz : s.size = b2 := by
        by_cases h : s.size = b2
        · exact h
        · rw [if_neg h] at hE; simp at hE
      rcases t2 with ⟨rfl, -, p2, g2, e2⟩ | ⟨g, -⟩
      case inr => exact absurd hf2 g
      rcases t1 with ⟨rfl, -, p1, g1, e1⟩ | ⟨g, -⟩
      case inr => exact absurd rfl g
      rcases t0 with ⟨-, -, p0, g0, e0⟩ | ⟨g, -⟩
      case inr => exact absurd rfl g
      refine Or.inl ⟨v0, v1, c2, c3, c4, c5, c6, c7, c8, c9, c10, ⟨p0, p1, rfl, p2.2⟩, ?_, ?_, ?_, ?_⟩
      · unfold recO
        simp only [St_append, List.length_append, ← Nat.add_assoc]
        subst e0 e1
        exact ⟨⟨g0, g1⟩, g2⟩
      · unfold recO
        simp only [List.length_append]
        omega
      · simp [rd]
      · simp [rd]
    · rw [if_neg h9]
      refine Or.inr ⟨fun a b l H h hl => ?_, rfl, rfl⟩
      obtain ⟨-, rfl, rfl, rfl⟩ := hno a b l H h hl
      exact h9 (by have := H.2.2.1; omega)
  · rw [if_neg hE]
    exact Or.inr ⟨fun a b l H h hl => hE (hno a b l H h hl).1, rfl, rfl⟩
end Go.Proofs.YtblmgmhjlbkncaaDoor.PA
namespace Go.Proofs.YtblmgmhjlbkncaaDoor.PA
open Go.RowKit Go.Proofs.YtblmgmhjlbkncaaDoorW.PrintWords
theorem sawmilllaw46_OrderTexts.pure : sawmilllaw46_OrderTexts.Pure := by
  intro a0 a1 a2 a3 a4 a5 a6 a7 a8 a9 a10 s hA hs
  refine ⟨200, ?_⟩
  unfold sawmilllaw46_OrderTexts.f
  by_cases h : (s.size : Int) > 1000
  · rw [if_pos h]; rfl
  rw [if_neg h, p_encO (by omega), r_encO (by omega), Option.bind_some, Option.bind_some]
  rcases dec_bothO s (by omega) (k := 200) (by omega) with ⟨a, b, c2, c3, c4, c5, c6, c7, c8, c9, c10, hO, hS, hl, hX, hY⟩ | ⟨hno, hX, hY⟩
  · rw [hX, hY, Option.bind_some, Option.bind_some, if_pos rfl, if_pos rfl]
    dsimp only
    rw [if_pos (by simp), if_pos rfl]
    rfl
  · rw [hX, hY, Option.bind_some, Option.bind_some, if_pos rfl, if_pos rfl]
    unfold badO
    dsimp only
    rw [if_pos (by simp), if_pos rfl]
    rfl
end Go.Proofs.YtblmgmhjlbkncaaDoor.PA
