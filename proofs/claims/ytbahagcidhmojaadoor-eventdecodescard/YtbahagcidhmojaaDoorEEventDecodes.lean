/- The plain laws: numbers, strings and lists. -/
import Derived.Test.YtbahagcidhmojaaDoorCEventDecodes7
import Derived.ChangeArms
import Derived.ChangeSame
import Derived.DataElems
import Derived.DataReads
import Derived.WideShapes
import Derived.Laws.BitsAllLaws
import Derived.Laws.BitsLemmas
import Derived.Laws.DeepNot64
import Derived.KernelRfl
import Derived.Laws.Strings
namespace Go.Proofs.YtbahagcidhmojaaDoor.PA
open Go.RowKit Go.Proofs.YtbahagcidhmojaaDoorW.PrintWords
set_option linter.unusedVariables false
theorem v64 {n : Int} (h0 : -9223372036854775808 ≤ n) (h1 : n ≤ 9223372036854775807) : wrap64 n = n := by unfold wrap64; omega
theorem wrap_u64 (n : Int) : IntKind.u64.wrap n = n % 18446744073709551616 := by simp [IntKind.wrap, IntKind.bits, IntKind.signed]
theorem vu64 {n : Int} (h0 : 0 ≤ n) (h1 : n < 18446744073709551616) : IntKind.u64.wrap n = n := by rw [wrap_u64]; omega
def enc (n : Nat) : List Int := if n < 128 then [(n : Int)] else (((128 + n % 128 : Nat) : Int)) :: enc (n / 128)
termination_by n
decreasing_by omega
theorem enc_lt {n : Nat} (h : n < 128) : enc n = [(n : Int)] := by rw [enc, if_pos h]
theorem enc_ge {n : Nat} (h : 128 ≤ n) : enc n = (((128 + n % 128 : Nat) : Int)) :: enc (n / 128) := by rw [enc, if_neg (by omega)]
theorem enc_head (n : Nat) : ∃ (b : Nat) (l : List Int), enc n = (b : Int) :: l ∧ b < 256 ∧ (b < 128 → n = b ∧ l = []) ∧ (128 ≤ b → 128 ≤ n ∧ b = 128 + n % 128 ∧ l = enc (n / 128)) := by
  by_cases h : n < 128
  · exact ⟨n, [], enc_lt h, by omega, fun _ => ⟨rfl, rfl⟩, fun h' => by omega⟩
  · exact ⟨128 + n % 128, enc (n / 128), enc_ge (by omega), by omega, fun h' => by omega, fun _ => ⟨by omega, rfl, rfl⟩⟩
theorem enc_len : ∀ (d n : Nat), n < 128 ^ (d + 1) → (enc n).length ≤ d + 1
  | 0, n, h => by rw [enc_lt (by simpa using h)]; simp
  | d + 1, n, h => by
    by_cases hn : n < 128
    · rw [enc_lt hn]; simp
    · rw [enc_ge (by omega)]
      have h2 : n / 128 < 128 ^ (d + 1) := by rw [Nat.pow_succ] at h; omega
      have := enc_len d (n / 128) h2
      simp only [List.length_cons]
      omega
theorem enc_len10 {n : Nat} (h : n < 18446744073709551616) : (enc n).length ≤ 10 := enc_len 9 n (by have : (128 : Nat) ^ 10 = 1180591620717411303424 := rfl; omega)
theorem enc_byte : ∀ (n : Nat), ∀ b ∈ enc n, 0 ≤ b ∧ b < 256 := by
  intro n
  induction n using Nat.strongRecOn with
  | ind n ih =>
    intro b hb
    by_cases h : n < 128
    · rw [enc_lt h] at hb; simp at hb; omega
    · rw [enc_ge (by omega)] at hb
      rcases List.mem_cons.1 hb with rfl | hb
      · omega
      · exact ih (n / 128) (by omega) b hb
def St (s : ByteArray) : Nat → List Int → Prop
  | _, [] => True
  | i, b :: l => i < s.size ∧ bt s i = b ∧ St s (i + 1) l
theorem St_append (s : ByteArray) : ∀ (l m : List Int) (i : Nat), St s i (l ++ m) ↔ St s i l ∧ St s (i + l.length) m
  | [], m, i => by simp [St]
  | b :: l, m, i => by
    have := St_append s l m (i + 1)
    simp only [List.cons_append, St, List.length_cons, this, show i + (l.length + 1) = i + 1 + l.length by omega, and_assoc]
theorem St_len (s : ByteArray) : ∀ (l : List Int) (i : Nat), i ≤ s.size → St s i l → i + l.length ≤ s.size
  | [], i, h, _ => by simpa using h
  | b :: l, i, h, hs => by
    have := St_len s l (i + 1) (by have := hs.1; omega) hs.2.2
    simp only [List.length_cons]; omega
theorem St_uniq (s : ByteArray) : ∀ (l m : List Int) (i : Nat), St s i l → St s i m → l.length = m.length → l = m
  | [], [], _, _, _, _ => rfl
  | [], _ :: _, _, _, _, h => by simp at h
  | _ :: _, [], _, _, _, h => by simp at h
  | b :: l, c :: m, i, hl, hm, h => by
    rw [← hl.2.1, ← hm.2.1, St_uniq s l m (i + 1) hl.2.2 hm.2.2 (by simpa using h)]
theorem enc_uniq (s : ByteArray) : ∀ (n m i : Nat), St s i (enc n) → St s i (enc m) → n = m := by
  intro n
  induction n using Nat.strongRecOn with
  | ind n ih =>
    intro m i hn hm
    obtain ⟨b, l, e1, h1, h2, h3⟩ := enc_head n
    obtain ⟨c, l', e2, h4, h5, h6⟩ := enc_head m
    rw [e1] at hn
    rw [e2] at hm
    have hbc : (b : Int) = c := hn.2.1.symm.trans hm.2.1
    by_cases h : b < 128
    · have := (h2 h).1; have := (h5 (by omega)).1; omega
    · obtain ⟨a1, a2, a3⟩ := h3 (by omega)
      obtain ⟨b1, b2, b3⟩ := h6 (by omega)
      have hn' := hn.2.2
      have hm' := hm.2.2
      rw [a3] at hn'
      rw [b3] at hm'
      have := ih (n / 128) (by omega) (m / 128) (i + 1) hn' hm'
      omega
theorem strOfNums_append (xs ys : List Int) : strOfNums xs ++ strOfNums ys = strOfNums (xs ++ ys) := by
  apply ByteArray.ext
  simp [strOfNums]
theorem bt_str (xs : List Int) (i : Nat) (h : i < xs.length) (hb : 0 ≤ xs[i] ∧ xs[i] < 256) : bt (strOfNums xs) i = xs[i] := by
  unfold bt
  have hs : (strOfNums xs).size = xs.length := strOfNums_size xs
  rw [dif_pos (by rw [hs]; simpa using h)]
  have : (strOfNums xs)[i]'(by rw [hs]; exact h) = UInt8.ofNat xs[i].toNat := by
    simp [strOfNums, ByteArray.getElem_eq_getElem_data]
  simp only [Int.toNat_natCast]
  rw [this, UInt8.toNat_ofNat']
  omega
theorem St_str : ∀ (l p : List Int), (∀ b ∈ l, 0 ≤ b ∧ b < 256) → St (strOfNums (p ++ l)) p.length l
  | [], p, _ => trivial
  | b :: l, p, h => by
    refine ⟨by rw [strOfNums_size]; simp, ?_, ?_⟩
    · have := bt_str (p ++ b :: l) p.length (by simp) (by simpa using h b (by simp))
      simpa using this
    · have := St_str l (p ++ [b]) (fun x hx => h x (List.mem_cons_of_mem _ hx))
      simpa using this
theorem St_str0 (l : List Int) (h : ∀ b ∈ l, 0 ≤ b ∧ b < 256) : St (strOfNums l) 0 l := St_str l [] h
theorem or128 {x : Int} (h0 : 0 ≤ x) (h1 : x < 256) : Go.bits .or .u8 x 128 = 128 + x % 128 := by
  rw [u8_or x 128 h0 h1 (by omega) (by omega)]
  have h : ∀ a : Fin 256, (a.val ||| 128) = 128 + a.val % 128 := by decide +kernel
  have := h ⟨x.toNat, by omega⟩
  simp only at this
  rw [show (128 : Int).toNat = 128 from rfl, this]
  omega
theorem and127 {x : Int} (h0 : 0 ≤ x) (h1 : x < 256) : Go.bits .and .u8 x 127 = x % 128 := bits_mask .u8 8 (by decide) wraps_u8 7 (by decide) x h0 h1
theorem put_l : ∀ (d n k : Nat) (xs : List Int) (x : Int), x = n → n < 128 ^ (d + 1) → d < k → xs.length + d < 1000000000 → wire_put.l0 k xs x = some (xs ++ enc n)
  | d, n, 0, xs, x, hx, h, hk, hl => by omega
  | d, n, k + 1, xs, x, hx, h, hk, hl => by
    simp only [wire_put.l0]
    by_cases hn : n < 128
    · rw [if_neg (by omega), if_pos (by omega), enc_lt hn, show x % 256 = n by omega]
    · obtain ⟨d, rfl⟩ : ∃ m, d = m + 1 := ⟨d - 1, by
        rcases d with _ | d
        · simp at h; omega
        · rfl⟩
      rw [if_pos (by omega), if_pos (by omega), or128 (by omega) (by omega)]
      have := put_l d (n / 128) k (xs ++ [128 + x % 256 % 128]) (x / 128) (by omega) (by rw [Nat.pow_succ] at h; omega) (by omega) (by simp; omega)
      rw [this, enc_ge (n := n) (by omega)]
      have e : 128 + x % 256 % 128 = ((128 + n % 128 : Nat) : Int) := by omega
      rw [e]
      simp
theorem put_enc {n k : Nat} (hn : n < 18446744073709551616) (hk : 10 ≤ k) (xs : List Int) (hl : xs.length < 100000000) {x : Int} (hx : x = n) : wire_put.f k xs x = some (xs ++ enc n) :=
  put_l 9 n k xs x hx (by have : (128 : Nat) ^ 10 = 1180591620717411303424 := rfl; omega) (by omega) (by omega)
theorem r_uint_l : ∀ (d n k : Nat) (x : Int), x = n → n < 18446744073709551616 → n < 128 ^ (d + 1) → d < k → sawmillref05_Uint.f k x = some (strOfNums (enc n))
  | d, n, 0, x, hx, h64, h, hk => by omega
  | d, n, k + 1, x, hx, h64, h, hk => by
    simp only [sawmillref05_Uint.f, Option.bind_some]
    by_cases hn : n < 128
    · rw [if_pos (by omega), enc_lt hn, show x % 256 = n by omega]
    · obtain ⟨d, rfl⟩ : ∃ m, d = m + 1 := ⟨d - 1, by
        rcases d with _ | d
        · simp at h; omega
        · rfl⟩
      have e1 : Int.tdiv x 128 = ((n / 128 : Nat) : Int) := by rw [hx]; rw [Int.tdiv_eq_ediv_of_nonneg (by omega)]; omega
      have e2 : Int.tmod x 128 = ((n % 128 : Nat) : Int) := by rw [hx]; rw [Int.tmod_eq_emod_of_nonneg (by omega)]; omega
      rw [if_neg (by omega), e1, e2, vu64 (n := ((n / 128 : Nat) : Int)) (by omega) (by omega), vu64 (n := 128 + ((n % 128 : Nat) : Int)) (by omega) (by omega)]
      have := r_uint_l d (n / 128) k ((n / 128 : Nat) : Int) rfl (by omega) (by rw [Nat.pow_succ] at h; omega) (by omega)
      rw [this, Option.bind_some, strOfNums_append, strOfNums_size, strOfNums_size, enc_ge (n := n) (by omega)]
      have hl := enc_len10 (n := n / 128) (by omega)
      rw [if_pos (by simp only [List.length_cons, List.length_nil]; omega), show (128 + ((n % 128 : Nat) : Int)) % 256 = ((128 + n % 128 : Nat) : Int) by omega]
      rfl
theorem r_uint {n k : Nat} (hn : n < 18446744073709551616) (hk : 10 ≤ k) {x : Int} (hx : x = n) : sawmillref05_Uint.f k x = some (strOfNums (enc n)) :=
  r_uint_l 9 n k x hx hn (by have : (128 : Nat) ^ 10 = 1180591620717411303424 := rfl; omega) (by omega)
def zz (a : Int) : Nat := if 0 ≤ a then (2 * a).toNat else (-2 * a - 1).toNat
def uz (n : Nat) : Int := if n % 2 = 1 then -((n / 2 : Nat) : Int) - 1 else ((n / 2 : Nat) : Int)
theorem zz_uz (n : Nat) : zz (uz n) = n := by unfold zz uz; split <;> split <;> omega
theorem uz_zz (a : Int) : uz (zz a) = a := by unfold zz uz; split <;> split <;> omega
theorem zz_lt {a : Int} (h0 : -9223372036854775808 ≤ a) (h1 : a ≤ 9223372036854775807) : zz a < 18446744073709551616 := by unfold zz; split <;> omega
theorem uz_range {n : Nat} (h : n < 18446744073709551616) : -9223372036854775808 ≤ uz n ∧ uz n ≤ 9223372036854775807 := by unfold uz; split <;> omega
theorem xor_ones (a : Nat) (ha : a < 18446744073709551616) : Go.bits .xor .u64 (a : Int) 18446744073709551615 = 18446744073709551615 - (a : Int) := by
  show IntKind.u64.wrap ((BitVec.ofInt 64 (a : Int) ^^^ BitVec.ofInt 64 18446744073709551615).toNat : Int) = _
  have h1 : BitVec.ofInt 64 18446744073709551615 = BitVec.allOnes 64 := by decide
  rw [h1, BitVec.xor_allOnes, BitVec.toNat_not, ofInt_u64 a ha, wrap_u64]
  omega
theorem xor_zero (a : Nat) (ha : a < 18446744073709551616) : Go.bits .xor .u64 (a : Int) 0 = (a : Int) := by
  rw [u64_xor a 0 (by omega) (by omega) (by omega) (by omega)]
  simp
theorem p_zigzag {a : Int} (h0 : -9223372036854775808 ≤ a) (h1 : a ≤ 9223372036854775807) : wire_zigzag.f a = some (zz a : Int) := by
  unfold wire_zigzag.f zz
  by_cases h : 0 ≤ a
  · rw [if_pos h, show a / 9223372036854775808 = 0 by omega, vu64 (n := a) h (by omega), vu64 (n := a * 2) (by omega) (by omega), vu64 (n := 0) (by omega) (by omega)]
    have := xor_zero (2 * a).toNat (by omega)
    rw [show a * 2 = ((2 * a).toNat : Int) by omega, this]
  · rw [if_neg h, show a / 9223372036854775808 = -1 by omega, wrap_u64 a, wrap_u64 (-1), wrap_u64]
    have := xor_ones (18446744073709551616 + 2 * a).toNat (by omega)
    rw [show a % 18446744073709551616 * 2 % 18446744073709551616 = ((18446744073709551616 + 2 * a).toNat : Int) by omega, show (-1 : Int) % 18446744073709551616 = 18446744073709551615 by decide, this]
    congr 1
    omega
theorem r_zigzag {a : Int} (h0 : -9223372036854775808 ≤ a) (h1 : a ≤ 9223372036854775807) : sawmillref05_Zigzag.f a = some (zz a : Int) := by
  unfold sawmillref05_Zigzag.f zz
  by_cases h : 0 ≤ a
  · rw [if_pos h, if_pos (by omega), vu64 (n := a) h (by omega), vu64 (n := 2 * a) (by omega) (by omega)]
    congr 1
    omega
  · rw [if_neg h, if_neg (by omega), v64 (n := a + 1) (by omega) (by omega), v64 (n := -(a + 1)) (by omega) (by omega), vu64 (n := -(a + 1)) (by omega) (by omega), vu64 (n := 2 * -(a + 1)) (by omega) (by omega), vu64 (by omega) (by omega)]
    congr 1
    omega
theorem or_join {acc c j : Nat} (h : acc < 2 ^ j) (hc : c * 2 ^ j < 18446744073709551616) (hj : 2 ^ j < 18446744073709551616) : Go.bits .or .u64 (acc : Int) ((c * 2 ^ j : Nat) : Int) = ((acc + c * 2 ^ j : Nat) : Int) := by
  rw [u64_or_nat acc (c * 2 ^ j) (by omega) hc, Nat.or_comm, nat_join j (c * 2 ^ j) acc (Nat.mul_mod_left _ _) h, Nat.add_comm]
theorem pow7 (i : Nat) : 2 ^ (7 * i) = 128 ^ i := by rw [Nat.pow_mul]
theorem pow_le9 {i : Nat} (h : i ≤ 9) : 128 ^ i ≤ 9223372036854775808 := by
  have := Nat.pow_le_pow_right (n := 128) (by omega) h
  have e : (128 : Nat) ^ 9 = 9223372036854775808 := rfl
  omega
theorem pow_le8 {i : Nat} (h : i ≤ 8) : 128 ^ i ≤ 72057594037927936 := by
  have := Nat.pow_le_pow_right (n := 128) (by omega) h
  have e : (128 : Nat) ^ 8 = 72057594037927936 := rfl
  omega
theorem or_shl {acc c i : Nat} (hi : i ≤ 9) (h : acc < 128 ^ i) (hc : c < 128) (hc' : c * 128 ^ i < 18446744073709551616) {x4 x7 : Int} (h4 : x4 = acc) (h7 : x7 = 7 * (i : Int)) {b : Int} (hb : Go.bits .and .u8 b 127 = c) :
    Go.bits .or .u64 x4 (shl .u64 (IntKind.u64.wrap (Go.bits .and .u8 b 127)) x7) = ((acc + c * 128 ^ i : Nat) : Int) := by
  subst h4 h7
  have hp := pow_le9 hi
  rw [hb, vu64 (n := (c : Int)) (by omega) (by omega)]
  unfold shl
  rw [show (7 * (i : Int)).toNat = 7 * i by omega, show min (7 * i) IntKind.u64.bits = 7 * i from Nat.min_eq_left (by show 7 * i ≤ 64; omega)]
  have e : (c : Int) * 2 ^ (7 * i) = ((c * 2 ^ (7 * i) : Nat) : Int) := by simp
  rw [← pow7] at h hc' hp ⊢
  rw [e, vu64 (by omega) (by omega), or_join h hc' (by omega)]
def NumRes (s : ByteArray) (p e : Int) (a i acc : Nat) (X : Option (Int × Int × Int × ByteArray × Int × Int)) (Y : Option (Int × Int × Int)) : Prop :=
  (∃ m : Nat, St s (a + i) (enc m) ∧ (0 < i → 0 < m) ∧ acc + m * 128 ^ i < 18446744073709551616 ∧ X = some (((acc + m * 128 ^ i : Nat) : Int), ((i + (enc m).length : Nat) : Int), 0, s, p, e) ∧ Y = some (((acc + m * 128 ^ i : Nat) : Int), ((a + i + (enc m).length : Nat) : Int), 0)) ∨
  (∃ er : Int, (er = 3 ∨ er = 5) ∧ (∀ m : Nat, St s (a + i) (enc m) → (0 < i → 0 < m) → acc + m * 128 ^ i < 18446744073709551616 → False) ∧ X = some (0, 0, er, s, p, e) ∧ Y = some (0, (a : Int), er))
set_option maxHeartbeats 1000000 in
theorem num_both (s : ByteArray) (a : Nat) (p e : Int) (ha : a ≤ s.size) (hs : s.size ≤ 1000000000000000) : ∀ (d i acc k : Nat) (x4 x5 x7 y7 y8 y9 : Int), i + d = 9 → acc < 128 ^ i → 2 * d + 2 ≤ k → x4 = acc → x5 = i → x7 = 7 * (i : Int) → y7 = acc → y8 = ((128 ^ i : Nat) : Int) → y9 = i →
    NumRes s p e a i acc (wire_Reader_next.l0 k a x4 x5 x7 s p e) (sawmillref05_number.l0 k s a y7 y8 y9) := by
  intro d
  induction d with
  | zero =>
    intro i acc k x4 x5 x7 y7 y8 y9 hi hacc hk h4 h5 h7 g7 g8 g9
    obtain ⟨k, rfl⟩ : ∃ m, k = m + 2 := ⟨k - 2, by omega⟩
    obtain rfl : i = 9 := by omega
    have hp : (128 : Nat) ^ 9 = 9223372036854775808 := rfl
    simp only [wire_Reader_next.l0, sawmillref05_number.l0]
    rw [v64 (n := (a : Int) + x5) (by omega) (by omega), v64 (n := (a : Int) + y9) (by omega) (by omega), v64 (n := x5 + 1) (by omega) (by omega)]
    rw [if_pos (show y9 < 10 by omega)]
    by_cases hsz : s.size ≤ a + 9
    · rw [if_pos (by omega), if_pos (by omega)]
      refine Or.inr ⟨3, Or.inl rfl, fun m hm _ _ => ?_, rfl, rfl⟩
      obtain ⟨b, l, e1, -⟩ := enc_head m
      rw [e1] at hm
      have := hm.1
      omega
    · have hb := bt_range s ((a : Int) + 9)
      have hat : ∀ c : Int, bt s ((a : Int) + 9) = c → bt s ((a + 9 : Nat) : Int) = c := fun _ h => h
      have ea : (a : Int) + x5 = (a : Int) + 9 := by omega
      have eb : (a : Int) + y9 = (a : Int) + 9 := by omega
      rw [ea, eb, if_neg (by omega), if_pos (by omega), if_pos (by omega), if_pos (by omega), if_neg (by omega), if_pos (by omega), if_pos (by omega), if_pos (by omega)]
      rw [vu64 (n := bt s ((a : Int) + 9)) (by omega) (by omega)]
      have hh : ∀ m : Nat, St s (a + 9) (enc m) → ∃ (b : Nat) (l : List Int), bt s ((a : Int) + 9) = b ∧ (b < 128 → m = b ∧ l = []) ∧ (128 ≤ b → 128 ≤ m) := by
        intro m hm
        obtain ⟨b, l, e1, e2, e3, e4⟩ := enc_head m
        rw [e1] at hm
        exact ⟨b, l, hm.2.1, e3, fun h => (e4 h).1⟩
      simp only [wire_Reader_next.j1, sawmillref05_number.j1]
      generalize bt s ((a : Int) + 9) = c at hb hh hat ⊢
      by_cases hc : c > 1
      · rw [decide_eq_true hc, if_pos rfl, if_pos rfl]
        refine Or.inr ⟨5, Or.inr rfl, fun m hm _ h64 => ?_, rfl, rfl⟩
        obtain ⟨b, l, h1, h2, h3⟩ := hh m hm
        rw [hp] at h64
        by_cases h : b < 128
        · have := (h2 h).1; omega
        · have := h3 (by omega); omega
      · rw [decide_eq_false hc, if_neg Bool.false_ne_true, if_pos (show 0 ≤ x7 by omega), if_pos (show c < 128 by omega), if_neg Bool.false_ne_true, if_pos (show c < 128 by omega)]
        by_cases h0 : c = 0
        · rw [if_pos h0, if_pos (by omega), if_pos h0, if_pos (by omega)]
          refine Or.inr ⟨5, Or.inr rfl, fun m hm hm0 h64 => ?_, rfl, rfl⟩
          obtain ⟨b, l, h1, h2, h3⟩ := hh m hm
          have := (h2 (by omega)).1
          have := hm0 (by omega)
          omega
        · have h1 : c = 1 := by omega
          rw [if_neg h0, if_neg h0]
          refine Or.inl ⟨1, ?_, fun _ => by omega, by omega, ?_, ?_⟩
          · rw [enc_lt (by omega)]
            exact ⟨by omega, hat _ (by omega), trivial⟩
          · have e1 := or_shl (acc := acc) (c := 1) (i := 9) (by omega) hacc (by omega) (by omega) h4 h7 (b := c) (by rw [and127 (by omega) (by omega)]; omega)
            rw [e1, enc_lt (by omega), h5]
            rfl
          · have e3 : IntKind.u64.wrap (y7 + (IntKind.u64.wrap ((Int.tmod c 128) * y8))) = ((acc + 1 * 128 ^ 9 : Nat) : Int) := by
              rw [Int.tmod_eq_emod_of_nonneg (by omega), g8, hp, h1, show (1 : Int) % 128 = 1 from rfl, vu64 (n := (1 : Int) * ((9223372036854775808 : Nat) : Int)) (by omega) (by omega), g7, vu64 (by omega) (by omega)]
              omega
            rw [e3, v64 (n := (a : Int) + y9) (by omega) (by omega), v64 (n := (a : Int) + y9 + 1) (by omega) (by omega), enc_lt (by omega), g9]
            rfl
  | succ d ih =>
    intro i acc k x4 x5 x7 y7 y8 y9 hi hacc hk h4 h5 h7 g7 g8 g9
    obtain ⟨k, rfl⟩ : ∃ m, k = m + 2 := ⟨k - 2, by omega⟩
    have hp := pow_le8 (i := i) (by omega)
    have hps : 128 ^ (i + 1) = 128 ^ i * 128 := Nat.pow_succ ..
    have hmul : ∀ c : Nat, c < 128 → c * 128 ^ i ≤ 127 * 128 ^ i := fun c hc => Nat.mul_le_mul_right _ (by omega)
    simp only [wire_Reader_next.l0, sawmillref05_number.l0]
    rw [v64 (n := (a : Int) + x5) (by omega) (by omega), v64 (n := (a : Int) + y9) (by omega) (by omega), v64 (n := x5 + 1) (by omega) (by omega)]
    rw [if_pos (show y9 < 10 by omega)]
    by_cases hsz : s.size ≤ a + i
    · rw [if_pos (by omega), if_pos (by omega)]
      refine Or.inr ⟨3, Or.inl rfl, fun m hm _ _ => ?_, rfl, rfl⟩
      obtain ⟨b, l, e1, -⟩ := enc_head m
      rw [e1] at hm
      have := hm.1
      omega
    · have hb := bt_range s ((a + i : Nat) : Int)
      have ea : (a : Int) + x5 = ((a + i : Nat) : Int) := by omega
      have eb : (a : Int) + y9 = ((a + i : Nat) : Int) := by omega
      rw [ea, eb, if_neg (by omega), if_pos (by omega), if_pos (by omega), if_neg (by omega), if_neg (by omega), if_pos (by omega), if_pos (by omega), if_neg (by omega)]
      rw [vu64 (n := bt s ((a + i : Nat) : Int)) (by omega) (by omega)]
      have hh : ∀ m : Nat, St s (a + i) (enc m) → ∃ (b : Nat) (l : List Int), bt s ((a + i : Nat) : Int) = b ∧ (b < 128 → m = b ∧ l = []) ∧ (128 ≤ b → 128 ≤ m ∧ b = 128 + m % 128 ∧ St s (a + i + 1) (enc (m / 128))) := by
        intro m hm
        obtain ⟨b, l, e1, e2, e3, e4⟩ := enc_head m
        rw [e1] at hm
        exact ⟨b, l, hm.2.1, e3, fun h => ⟨(e4 h).1, (e4 h).2.1, (e4 h).2.2 ▸ hm.2.2⟩⟩
      simp only [wire_Reader_next.j1, sawmillref05_number.j1]
      rw [if_neg Bool.false_ne_true, if_pos (show 0 ≤ x7 by omega), if_neg Bool.false_ne_true]
      obtain ⟨c, hc⟩ : ∃ c : Nat, bt s ((a + i : Nat) : Int) = c := ⟨(bt s ((a + i : Nat) : Int)).toNat, by omega⟩
      rw [hc] at hb hh ⊢
      by_cases hc1 : c < 128
      · have hcm := hmul c hc1
        rw [if_pos (show (c : Int) < 128 by omega), if_pos (show (c : Int) < 128 by omega)]
        by_cases h0 : c = 0 ∧ 0 < i
        · rw [if_pos (by omega), if_pos (by omega), if_pos (by omega), if_pos (by omega)]
          refine Or.inr ⟨5, Or.inr rfl, fun m hm hm0 h64 => ?_, rfl, rfl⟩
          obtain ⟨b, l, h1, h2, h3⟩ := hh m hm
          have := (h2 (by omega)).1
          have := hm0 (by omega)
          omega
        · have e1 := or_shl (acc := acc) (c := c) (i := i) (by omega) hacc hc1 (by omega) h4 h7 (b := (c : Int)) (by rw [and127 (by omega) (by omega)]; omega)
          have hl : (enc c).length = 1 := by rw [enc_lt hc1]; rfl
          have e2 : (c : Int) * ((128 ^ i : Nat) : Int) = ((c * 128 ^ i : Nat) : Int) := by rw [Int.natCast_mul]
          have e3 : IntKind.u64.wrap (y7 + (IntKind.u64.wrap ((Int.tmod (c : Int) 128) * y8))) = ((acc + c * 128 ^ i : Nat) : Int) := by
            rw [Int.tmod_eq_emod_of_nonneg (by omega), g8, show (c : Int) % 128 = c by omega, e2, vu64 (n := ((c * 128 ^ i : Nat) : Int)) (by omega) (by omega), g7, vu64 (by omega) (by omega)]
            omega
          have hS : St s (a + i) (enc c) := by
            rw [enc_lt hc1]
            exact ⟨by omega, hc, trivial⟩
          rw [e1, e3, v64 (n := (a : Int) + y9) (by omega) (by omega), eb, v64 (n := ((a + i : Nat) : Int) + 1) (by omega) (by omega)]
          refine Or.inl ⟨c, hS, fun h => by omega, by omega, ?_, ?_⟩
          · rw [hl]
            by_cases h00 : (c : Int) = 0
            · rw [if_pos h00, if_neg (by omega), h5]
              rfl
            · rw [if_neg h00, h5]
              rfl
          · rw [hl]
            by_cases h00 : (c : Int) = 0
            · rw [if_pos h00, if_neg (by omega)]
              rfl
            · rw [if_neg h00]
              rfl
      · obtain ⟨c', rfl⟩ : ∃ c', c = 128 + c' := ⟨c - 128, by omega⟩
        have hcm := hmul c' (by omega)
        have e1 := or_shl (acc := acc) (c := c') (i := i) (by omega) hacc (by omega) (by omega) h4 h7 (b := ((128 + c' : Nat) : Int)) (by rw [and127 (by omega) (by omega)]; omega)
        have e2 : (c' : Int) * ((128 ^ i : Nat) : Int) = ((c' * 128 ^ i : Nat) : Int) := by rw [Int.natCast_mul]
        have e3 : IntKind.u64.wrap (y7 + (IntKind.u64.wrap ((Int.tmod ((128 + c' : Nat) : Int) 128) * y8))) = ((acc + c' * 128 ^ i : Nat) : Int) := by
          rw [Int.tmod_eq_emod_of_nonneg (by omega), g8, show ((128 + c' : Nat) : Int) % 128 = c' by omega, e2, vu64 (n := ((c' * 128 ^ i : Nat) : Int)) (by omega) (by omega), g7, vu64 (by omega) (by omega)]
          omega
        have e4 : IntKind.u64.wrap (y8 * 128) = ((128 ^ (i + 1) : Nat) : Int) := by
          rw [g8, vu64 (by omega) (by omega), hps]
          omega
        rw [if_neg (show ¬ ((128 + c' : Nat) : Int) < 128 by omega), if_neg (show ¬ ((128 + c' : Nat) : Int) < 128 by omega), e1, e3, e4, v64 (n := x7 + 7) (by omega) (by omega), v64 (n := y9 + 1) (by omega) (by omega)]
        have hm2 : ∀ m' : Nat, acc + c' * 128 ^ i + m' * 128 ^ (i + 1) = acc + (c' + 128 * m') * 128 ^ i := by
          intro m'
          rw [hps, Nat.add_mul, Nat.mul_comm (128 ^ i) 128, ← Nat.mul_assoc, Nat.mul_comm m' 128]
          omega
        rcases ih (i + 1) (acc + c' * 128 ^ i) k _ (x5 + 1) (x7 + 7) _ _ (y9 + 1) (by omega) (by omega) (by omega) rfl (by omega) (by omega) rfl rfl (by omega) with ⟨m', hS, h0, h64, hX, hY⟩ | ⟨er, her, hno, hX, hY⟩
        · rw [hm2] at h64 hX hY
          have hm0 := h0 (by omega)
          have hen : enc (c' + 128 * m') = ((128 + c' : Nat) : Int) :: enc m' := by
            rw [enc_ge (by omega), show (c' + 128 * m') / 128 = m' by omega, show (c' + 128 * m') % 128 = c' by omega]
          refine Or.inl ⟨c' + 128 * m', ?_, fun _ => by omega, h64, ?_, ?_⟩
          · rw [hen]
            exact ⟨by omega, hc, hS⟩
          · rw [hX, hen]
            congr 3
            simp only [List.length_cons]; omega
          · rw [hY, hen]
            congr 3
            simp only [List.length_cons]; omega
        · refine Or.inr ⟨er, her, fun m hm hm0 h64 => ?_, hX, hY⟩
          obtain ⟨b, l, h1, h2, h3⟩ := hh m hm
          obtain ⟨q1, q2, q3⟩ := h3 (by omega)
          refine hno (m / 128) q3 (fun _ => by omega) ?_
          rw [hm2, show c' + 128 * (m / 128) = m by omega]
          exact h64
theorem num_at (s : ByteArray) (a : Nat) (p e : Int) (ha : a ≤ s.size) (hs : s.size ≤ 1000000000000000) {k : Nat} (hk : 20 ≤ k) {x y : Int} (hx : x = a) (hy : y = a) :
    (∃ m : Nat, m < 18446744073709551616 ∧ St s a (enc m) ∧ wire_Reader_next.f k s p e x = some ((m : Int), ((enc m).length : Int), 0, s, p, e) ∧ sawmillref05_number.f k s y = some ((m : Int), ((a + (enc m).length : Nat) : Int), 0)) ∨
    (∃ er : Int, (er = 3 ∨ er = 5) ∧ (∀ m : Nat, m < 18446744073709551616 → ¬ St s a (enc m)) ∧ wire_Reader_next.f k s p e x = some (0, 0, er, s, p, e) ∧ sawmillref05_number.f k s y = some (0, (a : Int), er)) := by
  subst hx hy
  rcases num_both s a p e ha hs 9 0 0 k 0 0 0 0 1 0 rfl (by decide) (by omega) rfl rfl rfl rfl rfl rfl with ⟨m, h1, h2, h3, h4, h5⟩ | ⟨er, h1, h2, h3, h4⟩
  · simp only [Nat.pow_zero, Nat.mul_one, Nat.zero_add, Nat.add_zero] at h1 h3 h4 h5
    exact Or.inl ⟨m, h3, h1, h4, h5⟩
  · simp only [Nat.pow_zero, Nat.mul_one, Nat.zero_add, Nat.add_zero] at h2
    exact Or.inr ⟨er, h1, fun m hm hS => h2 m hS (fun h => absurd h (Nat.lt_irrefl 0)) hm, h3, h4⟩
end Go.Proofs.YtbahagcidhmojaaDoor.PA
namespace Go.Proofs.YtbahagcidhmojaaDoor.PA
open Go.RowKit Go.Proofs.YtbahagcidhmojaaDoorW.PrintWords
set_option linter.unusedVariables false
theorem bytesOf_byte (s : ByteArray) : ∀ b ∈ bytesOf s, 0 ≤ b ∧ b < 256 := by
  intro b hb
  unfold bytesOf at hb
  obtain ⟨x, -, rfl⟩ := List.mem_map.1 hb
  have := x.toNat_lt
  omega
theorem str_bytesOf (s : ByteArray) : strOfNums (bytesOf s) = s := by
  apply ByteArray.ext
  unfold strOfNums bytesOf
  rw [← Array.toList_inj]
  simp [List.map_map, Function.comp_def]
theorem St_whole {s : ByteArray} {l : List Int} (h : St s 0 l) (hl : l.length = s.size) (hb : ∀ b ∈ l, 0 ≤ b ∧ b < 256) : s = strOfNums l := by
  have h1 := St_str0 (bytesOf s) (bytesOf_byte s)
  rw [str_bytesOf] at h1
  have := St_uniq s l (bytesOf s) 0 h h1 (by rw [bytesOf_length, hl])
  rw [this, str_bytesOf]
theorem bytesOf_inj {s t : ByteArray} (h : bytesOf s = bytesOf t) : s = t := by rw [← str_bytesOf s, h, str_bytesOf]
theorem bt_extract (s : ByteArray) (i j : Nat) (h : j ≤ s.size) (n : Nat) (hn : i + n < j) : bt (s.extract i j) (n : Int) = bt s ((i + n : Nat) : Int) := by
  unfold bt
  have hs : (s.extract i j).size = j - i := by rw [ByteArray.size_extract]; omega
  simp only [Int.toNat_natCast]
  rw [dif_pos (by omega), dif_pos (by omega), ByteArray.getElem_extract]
theorem St_of_bt (s t : ByteArray) : ∀ (l : List Int) (i j : Nat), St t j l → (∀ n : Nat, n < l.length → i + n < s.size ∧ bt s ((i + n : Nat) : Int) = bt t ((j + n : Nat) : Int)) → St s i l
  | [], _, _, _, _ => trivial
  | b :: l, i, j, h, hn => by
    refine ⟨(hn 0 (by simp)).1, ?_, St_of_bt s t l (i + 1) (j + 1) h.2.2 fun n hl => ?_⟩
    · have := (hn 0 (by simp)).2
      simp only [Nat.add_zero] at this
      rw [this]
      exact h.2.1
    · have := hn (n + 1) (by simp; omega)
      rw [show i + 1 + n = i + (n + 1) by omega, show j + 1 + n = j + (n + 1) by omega]
      exact this
theorem St_extract (s : ByteArray) (i j : Nat) (hij : i ≤ j) (h : j ≤ s.size) : St s i (bytesOf (s.extract i j)) := by
  have hs : (s.extract i j).size = j - i := by rw [ByteArray.size_extract]; omega
  have h1 := St_str0 (bytesOf (s.extract i j)) (bytesOf_byte _)
  rw [str_bytesOf] at h1
  refine St_of_bt s (s.extract i j) _ i 0 h1 fun n hn => ?_
  rw [bytesOf_length, hs] at hn
  refine ⟨by omega, ?_⟩
  rw [Nat.zero_add, bt_extract s i j h n (by omega)]
def tx (t : ByteArray) : List Int := enc t.size ++ bytesOf t
def zs : List Int → List Int
  | [] => []
  | n :: l => enc (zz n) ++ zs l
def ls (l : List Int) : List Int := enc l.length ++ zs l
theorem tx_byte (t : ByteArray) : ∀ b ∈ tx t, 0 ≤ b ∧ b < 256 := by
  intro b hb
  rcases List.mem_append.1 hb with h | h
  · exact enc_byte _ b h
  · exact bytesOf_byte t b h
theorem zs_byte : ∀ l : List Int, ∀ b ∈ zs l, 0 ≤ b ∧ b < 256
  | [], b, hb => by simp [zs] at hb
  | n :: l, b, hb => by
    rcases List.mem_append.1 hb with h | h
    · exact enc_byte _ b h
    · exact zs_byte l b h
theorem ls_byte (l : List Int) : ∀ b ∈ ls l, 0 ≤ b ∧ b < 256 := by
  intro b hb
  rcases List.mem_append.1 hb with h | h
  · exact enc_byte _ b h
  · exact zs_byte l b h
def In64 (n : Int) : Prop := -9223372036854775808 ≤ n ∧ n ≤ 9223372036854775807
theorem zs_len : ∀ l : List Int, (∀ n ∈ l, In64 n) → (zs l).length ≤ 10 * l.length
  | [], _ => by simp [zs]
  | n :: l, h => by
    have h1 := h n (by simp)
    have := zs_len l (fun m hm => h m (List.mem_cons_of_mem _ hm))
    have := enc_len10 (zz_lt h1.1 h1.2)
    simp only [zs, List.length_append, List.length_cons]
    omega
theorem tx_uniq (s : ByteArray) {t u : ByteArray} {i : Nat} (h1 : St s i (tx t)) (h2 : St s i (tx u)) : t = u := by
  unfold tx at h1 h2
  rw [St_append] at h1 h2
  have e := enc_uniq s _ _ i h1.1 h2.1
  have h1' := h1.2
  rw [e] at h1'
  exact bytesOf_inj (St_uniq s _ _ _ h1' h2.2 (by rw [bytesOf_length, bytesOf_length, e]))
theorem zs_uniq (s : ByteArray) : ∀ (l m : List Int) (i : Nat), l.length = m.length → St s i (zs l) → St s i (zs m) → l = m
  | [], [], _, _, _, _ => rfl
  | [], _ :: _, _, h, _, _ => by simp at h
  | _ :: _, [], _, h, _, _ => by simp at h
  | a :: l, b :: m, i, h, h1, h2 => by
    simp only [zs] at h1 h2
    rw [St_append] at h1 h2
    have e := enc_uniq s _ _ i h1.1 h2.1
    have e' : a = b := by rw [← uz_zz a, e, uz_zz]
    subst e'
    rw [zs_uniq s l m _ (by simpa using h) h1.2 h2.2]
theorem ls_uniq (s : ByteArray) {l m : List Int} {i : Nat} (h1 : St s i (ls l)) (h2 : St s i (ls m)) : l = m := by
  unfold ls at h1 h2
  rw [St_append] at h1 h2
  have e := enc_uniq s _ _ i h1.1 h2.1
  have h1' := h1.2
  rw [e] at h1'
  exact zs_uniq s _ _ _ e h1' h2.2
theorem zz_uniq (s : ByteArray) {a b : Int} {i : Nat} (h1 : St s i (enc (zz a))) (h2 : St s i (enc (zz b))) : a = b := by
  have e := enc_uniq s _ _ i h1 h2
  rw [← uz_zz a, e, uz_zz]
theorem p_int {a : Int} (h : In64 a) {k : Nat} (hk : 10 ≤ k) : wire_Int.f k a = some (strOfNums (enc (zz a))) := by
  unfold wire_Int.f
  rw [p_zigzag h.1 h.2, Option.bind_some, put_enc (zz_lt h.1 h.2) hk [] (by simp) rfl]
  rfl
theorem r_int {a : Int} (h : In64 a) {k : Nat} (hk : 10 ≤ k) : sawmillref05_Int.f k a = some (strOfNums (enc (zz a))) := by
  unfold sawmillref05_Int.f
  rw [r_zigzag h.1 h.2, Option.bind_some, r_uint (zz_lt h.1 h.2) hk rfl]
  rfl
theorem p_text (t : ByteArray) (ht : t.size ≤ 1000000000) {k : Nat} (hk : 10 ≤ k) : wire_Text.f k t = some (strOfNums (tx t)) := by
  unfold wire_Text.f
  have := enc_len10 (n := t.size) (by omega)
  rw [vu64 (n := (t.size : Int)) (by omega) (by omega), put_enc (n := t.size) (by omega) hk [] (by simp) rfl, Option.bind_some, List.nil_append, if_pos (by omega)]
  rfl
theorem r_text (t : ByteArray) (ht : t.size ≤ 1000000000) {k : Nat} (hk : 10 ≤ k) : sawmillref05_Text.f k t = some (strOfNums (tx t)) := by
  unfold sawmillref05_Text.f
  have := enc_len10 (n := t.size) (by omega)
  rw [vu64 (n := (t.size : Int)) (by omega) (by omega), r_uint (n := t.size) (by omega) hk rfl, Option.bind_some, strOfNums_size, if_pos (by omega)]
  conv => lhs; rw [← str_bytesOf t]
  rw [strOfNums_append, str_bytesOf]
  rfl
theorem rd_append (l m : List Int) (i : Int) (h : i = l.length) (x : Int) : rd (l ++ x :: m) i = x := by
  subst h
  simp [rd]
theorem p_ints_l : ∀ (m l : List Int) (xs : List Int) (k : Nat) (i : Int), i = l.length → (∀ n ∈ m, In64 n) → (l ++ m).length ≤ 1000000 → xs.length + 10 * m.length ≤ 50000000 → m.length + 11 ≤ k →
    wire_Ints.l0 k xs (l ++ m) ((l ++ m).length : Int) i = some (strOfNums (xs ++ zs m))
  | m, l, xs, 0, i, hi, hm, hl, hx, hk => by omega
  | [], l, xs, k + 1, i, hi, hm, hl, hx, hk => by
    simp only [wire_Ints.l0]
    rw [if_neg (by simp; omega)]
    simp [zs]
  | n :: m, l, xs, k + 1, i, hi, hm, hl, hx, hk => by
    have hn := hm n (by simp)
    simp only [List.length_append, List.length_cons] at hl hx hk
    simp only [wire_Ints.l0]
    have h10 := enc_len10 (zz_lt hn.1 hn.2)
    rw [if_pos (by simp; omega), if_pos (by omega), if_pos (by simp; omega), rd_append l m i hi n, p_zigzag hn.1 hn.2, Option.bind_some, put_enc (zz_lt hn.1 hn.2) (by omega) xs (by omega) rfl, Option.bind_some, v64 (by omega) (by omega)]
    have := p_ints_l m (l ++ [n]) (xs ++ enc (zz n)) k (i + 1) (by simp; omega) (fun x hx => hm x (List.mem_cons_of_mem _ hx)) (by simp; omega) (by simp only [List.length_append]; omega) (by omega)
    simp only [List.append_assoc, List.cons_append, List.nil_append] at this
    rw [this]
    rfl
theorem p_ints (l : List Int) (hm : ∀ n ∈ l, In64 n) (hl : l.length ≤ 1000000) {k : Nat} (hk : l.length + 11 ≤ k) : wire_Ints.f k l = some (strOfNums (ls l)) := by
  unfold wire_Ints.f
  have h10 := enc_len10 (n := l.length) (by omega)
  rw [vu64 (n := (l.length : Int)) (by omega) (by omega), put_enc (n := l.length) (by omega) (by omega) [] (by simp) rfl, Option.bind_some]
  have := p_ints_l l [] ([] ++ enc l.length) k 0 rfl hm (by simpa using hl) (by simp; omega) hk
  simpa [ls] using this
theorem r_ints_l : ∀ (m l : List Int) (xs : List Int) (k : Nat) (i : Int), i = l.length → (∀ n ∈ m, In64 n) → (l ++ m).length ≤ 1000000 → xs.length + 10 * m.length ≤ 50000000 → m.length + 11 ≤ k →
    sawmillref05_Ints.l0 k (l ++ m) (strOfNums xs) i = some (strOfNums (xs ++ zs m))
  | m, l, xs, 0, i, hi, hm, hl, hx, hk => by omega
  | [], l, xs, k + 1, i, hi, hm, hl, hx, hk => by
    simp only [sawmillref05_Ints.l0]
    rw [if_neg (by simp; omega)]
    simp [zs]
  | n :: m, l, xs, k + 1, i, hi, hm, hl, hx, hk => by
    have hn := hm n (by simp)
    simp only [List.length_append, List.length_cons] at hl hx hk
    simp only [sawmillref05_Ints.l0]
    have h10 := enc_len10 (zz_lt hn.1 hn.2)
    rw [if_pos (by simp; omega), if_pos (by omega), rd_append l m i hi n, r_int hn (by omega), Option.bind_some, strOfNums_size, strOfNums_size, if_pos (by omega), strOfNums_append, v64 (by omega) (by omega)]
    have := r_ints_l m (l ++ [n]) (xs ++ enc (zz n)) k (i + 1) (by simp; omega) (fun x hx => hm x (List.mem_cons_of_mem _ hx)) (by simp; omega) (by simp only [List.length_append]; omega) (by omega)
    simp only [List.append_assoc, List.cons_append, List.nil_append] at this
    rw [this]
    rfl
theorem r_ints (l : List Int) (hm : ∀ n ∈ l, In64 n) (hl : l.length ≤ 1000000) {k : Nat} (hk : l.length + 11 ≤ k) : sawmillref05_Ints.f k l = some (strOfNums (ls l)) := by
  unfold sawmillref05_Ints.f
  have h10 := enc_len10 (n := l.length) (by omega)
  rw [vu64 (n := (l.length : Int)) (by omega) (by omega), r_uint (n := l.length) (by omega) (by omega) rfl, Option.bind_some]
  have := r_ints_l l [] (enc l.length) k 0 rfl hm (by simpa using hl) (by omega) hk
  simpa [ls] using this
theorem i64_xor0 (a : Nat) (ha : a < 9223372036854775808) : Go.bits .xor .i64 (a : Int) 0 = (a : Int) := by
  show IntKind.i64.wrap ((BitVec.ofInt 64 (a : Int) ^^^ BitVec.ofInt 64 0).toNat : Int) = _
  have h1 : BitVec.ofInt 64 0 = 0#64 := by decide
  rw [h1, BitVec.xor_zero, ofInt_u64 a (by omega)]
  simp [IntKind.wrap, IntKind.bits, IntKind.signed]
  omega
theorem i64_xor1 (a : Nat) (ha : a < 9223372036854775808) : Go.bits .xor .i64 (a : Int) (-1) = -1 - (a : Int) := by
  rw [← i64_not a ha]
  show IntKind.i64.wrap ((BitVec.ofInt 64 (a : Int) ^^^ BitVec.ofInt 64 (-1)).toNat : Int) = IntKind.i64.wrap ((BitVec.ofInt 64 (-1) ^^^ BitVec.ofInt 64 (a : Int)).toNat : Int)
  rw [BitVec.xor_comm]
theorem p_uz {m : Nat} (h : m < 18446744073709551616) : Go.bits .xor .i64 (wrap64 ((m : Int) / 2)) (wrap64 (-(wrap64 (Go.bits .and .u64 (m : Int) 1)))) = uz m := by
  have e : Go.bits .and .u64 (m : Int) 1 = ((m % 2 : Nat) : Int) := by
    rw [show (1 : Int) = ((1 : Nat) : Int) from rfl, u64_and_nat m 1 h (by omega), nat_mask1]
  rw [e, v64 (n := ((m % 2 : Nat) : Int)) (by omega) (by omega), v64 (n := -((m % 2 : Nat) : Int)) (by omega) (by omega), v64 (n := (m : Int) / 2) (by omega) (by omega), show (m : Int) / 2 = ((m / 2 : Nat) : Int) by omega]
  unfold uz
  by_cases h1 : m % 2 = 1
  · rw [if_pos h1, h1, show (-((1 : Nat) : Int)) = -1 from rfl, i64_xor1 _ (by omega)]
    omega
  · rw [if_neg h1, show m % 2 = 0 by omega, show (-((0 : Nat) : Int)) = 0 from rfl, i64_xor0 _ (by omega)]
def SgnRes (s : ByteArray) (p e lo hi : Int) (a : Nat) (X : Option (Int × Int × Int × ByteArray × Int × Int)) (Y : Option (Int × Int × Int)) : Prop :=
  (∃ v : Int, lo ≤ v ∧ v ≤ hi ∧ In64 v ∧ St s a (enc (zz v)) ∧ X = some (v, ((enc (zz v)).length : Int), 0, s, p, e) ∧ Y = some (v, ((a + (enc (zz v)).length : Nat) : Int), 0)) ∨
  (∃ er : Int, er ≠ 0 ∧ (∀ v : Int, lo ≤ v → v ≤ hi → In64 v → ¬ St s a (enc (zz v))) ∧ X = some (0, 0, er, s, p, e) ∧ Y = some (0, (a : Int), er))
theorem sgn_at (s : ByteArray) (a : Nat) (p e : Int) (ha : a ≤ s.size) (hs : s.size ≤ 1000000000000000) {k : Nat} (hk : 20 ≤ k) (lo hi : Int) {x y : Int} (hx : x = a) (hy : y = a) :
    SgnRes s p e lo hi a (wire_Reader_signed.f k s p e x lo hi) (sawmillref05_signed.f k s y lo hi) := by
  unfold wire_Reader_signed.f sawmillref05_signed.f
  rcases num_at s a p e ha hs hk hx hy with ⟨m, hm, hS, hX, hY⟩ | ⟨er, her, hno, hX, hY⟩
  · rw [hX, hY]
    simp only [Option.bind_some, if_true]
    rw [p_uz hm]
    have hu := uz_range hm
    have hiu : In64 (uz m) := hu
    have e2 : Int.tmod (m : Int) 2 = ((m % 2 : Nat) : Int) := by rw [Int.tmod_eq_emod_of_nonneg (by omega)]; omega
    have e1 : Int.tdiv (m : Int) 2 = ((m / 2 : Nat) : Int) := by rw [Int.tdiv_eq_ediv_of_nonneg (by omega)]; omega
    rw [e1, e2, vu64 (n := ((m / 2 : Nat) : Int)) (by omega) (by omega), v64 (n := ((m / 2 : Nat) : Int)) (by omega) (by omega), v64 (n := -((m / 2 : Nat) : Int)) (by omega) (by omega), v64 (n := -((m / 2 : Nat) : Int) - 1) (by omega) (by omega)]
    have hYY : (if ((m % 2 : Nat) : Int) = 1 then (if -((m / 2 : Nat) : Int) - 1 < lo then (some ((0 : Int), y, (9 : Int))) else (if -((m / 2 : Nat) : Int) - 1 > hi then (some (0, y, 9)) else (some (-((m / 2 : Nat) : Int) - 1, ((a + (enc m).length : Nat) : Int), 0)))) else (if ((m / 2 : Nat) : Int) < lo then (some (0, y, 9)) else (if ((m / 2 : Nat) : Int) > hi then (some (0, y, 9)) else (some (((m / 2 : Nat) : Int), ((a + (enc m).length : Nat) : Int), 0))))) = (if uz m < lo then (some ((0 : Int), y, (9 : Int))) else (if uz m > hi then (some (0, y, 9)) else (some (uz m, ((a + (enc m).length : Nat) : Int), 0)))) := by
      unfold uz
      by_cases h1 : m % 2 = 1
      · rw [if_pos h1, if_pos (by omega)]
      · rw [if_neg h1, if_neg (by omega)]
    rw [hYY]
    have hno : ∀ v : Int, In64 v → St s a (enc (zz v)) → v = uz m := fun v _ hv => by rw [← enc_uniq s _ _ a hv hS, uz_zz]
    by_cases h1 : uz m < lo
    · rw [if_pos h1, if_pos h1, hy]
      exact Or.inr ⟨9, by decide, fun v h2 h3 h4 h5 => by have := hno v h4 h5; omega, rfl, rfl⟩
    · rw [if_neg h1, if_neg h1]
      by_cases h2 : uz m > hi
      · rw [if_pos h2, if_pos h2, hy]
        exact Or.inr ⟨9, by decide, fun v h2 h3 h4 h5 => by have := hno v h4 h5; omega, rfl, rfl⟩
      · rw [if_neg h2, if_neg h2]
        exact Or.inl ⟨uz m, by omega, by omega, hiu, by rw [zz_uz]; exact hS, by rw [zz_uz], by rw [zz_uz]⟩
  · rw [hX, hY]
    have h0 : ¬ er = 0 := by omega
    simp only [Option.bind_some]
    rw [if_neg h0, if_neg h0, hy]
    exact Or.inr ⟨er, h0, fun v h2 h3 h4 h5 => hno _ (zz_lt h4.1 h4.2) h5, rfl, rfl⟩
def RdRes {α : Type} (s : ByteArray) (a : Nat) (e : Int) (E : α → List Int) (P : α → Prop) (z : α) (X : Option (α × ByteArray × Int × Int)) (Y : Option (ByteArray × Int × Int × α)) : Prop :=
  (∃ v : α, e = 0 ∧ P v ∧ St s a (E v) ∧ X = some (v, s, ((a + (E v).length : Nat) : Int), 0) ∧ Y = some (s, ((a + (E v).length : Nat) : Int), 0, v)) ∨
  (∃ er : Int, er ≠ 0 ∧ (e = 0 → ∀ v, P v → ¬ St s a (E v)) ∧ X = some (z, s, (a : Int), er) ∧ Y = some (s, (a : Int), er, z))
theorem int_at (s : ByteArray) (a : Nat) (e : Int) (ha : a ≤ s.size) (hs : s.size ≤ 1000000000000000) {k : Nat} (hk : 20 ≤ k) (lo hi : Int) (hlo : -9223372036854775808 ≤ lo) (hhi : hi ≤ 9223372036854775807) :
    RdRes s a e (fun v => enc (zz v)) (fun v => lo ≤ v ∧ v ≤ hi) 0 (wire_Reader_Int.f k s a e lo hi) (sawmillref05_ReadInt.f k s a e lo hi) := by
  unfold wire_Reader_Int.f sawmillref05_ReadInt.f wire_Reader_ready.f
  simp only [Option.bind_some]
  by_cases he : e = 0
  · subst he
    rw [if_pos (by rfl), if_pos rfl]
    rcases sgn_at s a a 0 ha hs hk lo hi (x := a) (y := a) rfl rfl with ⟨v, h1, h2, h3, hS, hX, hY⟩ | ⟨er, her, hno, hX, hY⟩
    · rw [hX, hY]
      have hl := St_len s _ a ha hS
      simp only [Option.bind_some, if_true]
      rw [v64 (by omega) (by omega)]
      exact Or.inl ⟨v, rfl, ⟨h1, h2⟩, hS, by rw [Int.natCast_add], rfl⟩
    · rw [hX, hY]
      simp only [Option.bind_some, sawmillref05_fail.f]
      rw [if_neg her, if_neg her]
      exact Or.inr ⟨er, her, fun _ v hv => hno v hv.1 hv.2 ⟨by omega, by omega⟩, rfl, rfl⟩
  · rw [if_neg (by simpa using he), if_neg he]
    exact Or.inr ⟨e, he, fun h => absurd h he, rfl, rfl⟩
theorem text_j (s : ByteArray) (a : Int) (b m k : Nat) (hb : b ≤ s.size) (hm : m ≤ 1000000000) (hs : s.size ≤ 1000000000000000) : wire_Reader_Text.j0 (k + 1) (m : Int) (b : Int) (decide ((m : Int) > (s.size : Int) - (b : Int))) s a 0 = if b + m ≤ s.size then some (s.extract b (b + m), s, ((b + m : Nat) : Int), 0) else some ((⟨#[]⟩ : ByteArray), s, a, 3) := by
  have e2 : wrap64 ((b : Int) + (m : Int)) = ((b + m : Nat) : Int) := by rw [v64 (by omega) (by omega)]; omega
  simp only [wire_Reader_Text.j0]
  rw [e2]
  by_cases h : b + m ≤ s.size
  · rw [decide_eq_false (by omega), if_neg Bool.false_ne_true, if_pos trivial, if_pos (by omega), if_pos (by omega), if_pos (by omega), if_pos h]
    rfl
  · rw [decide_eq_true (by omega), if_pos rfl, if_neg h]
theorem text_j' (s : ByteArray) (a : Int) (b m k : Nat) (hb : b ≤ s.size) (hm : m ≤ 1000000000) (hs : s.size ≤ 1000000000000000) : sawmillref05_ReadText.j0 (k + 1) (m : Int) (b : Int) false s a 0 = if b + m ≤ s.size then some (s, ((b + m : Nat) : Int), 0, s.extract b (b + m)) else some (s, a, 3, (⟨#[]⟩ : ByteArray)) := by
  have e1 : wrap64 (m : Int) = m := v64 (by omega) (by omega)
  have e2 : wrap64 ((b : Int) + (m : Int)) = ((b + m : Nat) : Int) := by rw [v64 (by omega) (by omega)]; omega
  have e3 : wrap64 ((s.size : Int) - (b : Int)) = (s.size : Int) - (b : Int) := v64 (by omega) (by omega)
  simp only [sawmillref05_ReadText.j0, sawmillref05_fail.f, Option.bind_some]
  rw [e1, e2, e3, vu64 (by omega) (by omega), if_neg Bool.false_ne_true]
  by_cases h : b + m ≤ s.size
  · rw [if_neg (by omega), if_pos (by omega), if_pos (by omega), if_pos (by omega), if_pos h]
    rfl
  · rw [if_pos (by omega), if_neg h]
theorem text_at (s : ByteArray) (a : Nat) (e : Int) (ha : a ≤ s.size) (hs : s.size ≤ 1000000000000000) {k : Nat} (hk : 20 ≤ k) (most : Nat) (hmost : most ≤ 1000000000) {mi : Int} (hmi : mi = most) :
    RdRes s a e tx (fun t => t.size ≤ most) (⟨#[]⟩ : ByteArray) (wire_Reader_Text.f k s a e mi) (sawmillref05_ReadText.f k s a e mi) := by
  subst hmi
  obtain ⟨k, rfl⟩ : ∃ m, k = m + 1 := ⟨k - 1, by omega⟩
  unfold wire_Reader_Text.f sawmillref05_ReadText.f wire_Reader_ready.f
  simp only [Option.bind_some]
  by_cases he : e = 0
  · subst he
    rw [if_pos (by rfl), if_pos rfl]
    unfold wire_Reader_count.f
    rcases num_at s a a 0 ha hs hk (x := a) (y := a) rfl rfl with ⟨m, hm, hS, hX, hY⟩ | ⟨er, her, hno, hX, hY⟩
    · have hl := St_len s _ a ha hS
      rw [hX, hY]
      simp only [Option.bind_some, if_true]
      rw [if_neg (show ¬ (most : Int) < 0 by omega), if_neg (show ¬ (most : Int) < 0 by omega), vu64 (n := (most : Int)) (by omega) (by omega)]
      have hno : ∀ t : ByteArray, St s a (tx t) → t.size = m ∧ St s (a + (enc m).length) (bytesOf t) := by
        intro t ht
        unfold tx at ht
        rw [St_append] at ht
        have e := enc_uniq s _ _ a ht.1 hS
        rw [e] at ht
        exact ⟨e, ht.2⟩
      by_cases h1 : most < m
      · rw [if_pos (show (m : Int) > most by omega), decide_eq_true (show (m : Int) > most by omega)]
        simp only [Option.bind_some]
        rw [if_neg (by decide)]
        simp only [wire_Reader_Text.j0, sawmillref05_ReadText.j0, sawmillref05_fail.f, Option.bind_some]
        rw [if_neg Bool.false_ne_true, if_neg (by decide), if_pos trivial]
        exact Or.inr ⟨4, by decide, fun _ t ht h => by have := (hno t h).1; omega, rfl, rfl⟩
      · rw [if_neg (show ¬ (m : Int) > most by omega), decide_eq_false (show ¬ (m : Int) > most by omega)]
        rw [Option.bind_some]
        rw [if_pos rfl]
        dsimp only
        have e1 : wrap64 (m : Int) = m := v64 (by omega) (by omega)
        have e2 : wrap64 ((a : Int) + ((enc m).length : Int)) = ((a + (enc m).length : Nat) : Int) := by rw [v64 (by omega) (by omega)]; omega
        have e3 : wrap64 ((s.size : Int) - ((a + (enc m).length : Nat) : Int)) = (s.size : Int) - ((a + (enc m).length : Nat) : Int) := v64 (by omega) (by omega)
        rw [e1, e2, e3, text_j s a _ m k hl (by omega) hs, text_j' s a _ m k hl (by omega) hs]
        by_cases h2 : s.size < a + (enc m).length + m
        · rw [if_neg (by omega), if_neg (by omega)]
          refine Or.inr ⟨3, by decide, fun _ t ht h => ?_, rfl, rfl⟩
          obtain ⟨g1, g2⟩ := hno t h
          have := St_len s _ _ (by omega) g2
          rw [bytesOf_length] at this
          omega
        · rw [if_pos (by omega), if_pos (by omega)]
          have hz : (s.extract (a + (enc m).length) (a + (enc m).length + m)).size = m := by rw [ByteArray.size_extract]; omega
          have hl2 : (tx (s.extract (a + (enc m).length) (a + (enc m).length + m))).length = (enc m).length + m := by
            unfold tx
            rw [List.length_append, bytesOf_length, hz]
          refine Or.inl ⟨s.extract (a + (enc m).length) (a + (enc m).length + m), rfl, (by show _ ≤ most; rw [hz]; omega), ?_, ?_, ?_⟩
          · unfold tx
            rw [St_append, hz]
            exact ⟨hS, St_extract s _ _ (by omega) (by omega)⟩
          · rw [hl2, Nat.add_assoc]
          · rw [hl2, Nat.add_assoc]
    · rw [hX, hY]
      have h0 : ¬ er = 0 := by omega
      simp only [Option.bind_some, sawmillref05_fail.f]
      rw [if_neg h0, if_neg h0]
      simp only [Option.bind_some]
      rw [if_neg h0]
      simp only [wire_Reader_Text.j0]
      rw [if_neg Bool.false_ne_true, if_neg h0]
      refine Or.inr ⟨er, h0, fun _ t ht h => ?_, rfl, rfl⟩
      unfold tx at h
      rw [St_append] at h
      exact hno _ (by omega) h.1
  · rw [if_neg (by simpa using he), if_neg he]
    exact Or.inr ⟨e, he, fun h => absurd h he, rfl, rfl⟩
theorem ints_l (s : ByteArray) (p : Int) (hs : s.size ≤ 1000000000000000) (lo hi : Int) (hlo : -9223372036854775808 ≤ lo) (hhi : hi ≤ 9223372036854775807) : ∀ (r : Nat) (l : List Int) (at_ k : Nat) (n x y : Int), n = ((l.length + r : Nat) : Int) → l.length + r ≤ 1000000 → at_ ≤ s.size → x = at_ → y = at_ → r + 30 ≤ k →
    ((∃ m : List Int, m.length = r ∧ (∀ v ∈ m, lo ≤ v ∧ v ≤ hi) ∧ St s at_ (zs m) ∧ wire_Reader_Ints.l0 k lo hi n x l s p 0 = some (l ++ m, s, ((at_ + (zs m).length : Nat) : Int), 0) ∧ sawmillref05_ReadInts.l0 k lo hi n y l s p 0 = some (s, ((at_ + (zs m).length : Nat) : Int), 0, l ++ m)) ∨
     (∃ er : Int, er ≠ 0 ∧ (∀ m : List Int, m.length = r → (∀ v ∈ m, lo ≤ v ∧ v ≤ hi) → ¬ St s at_ (zs m)) ∧ wire_Reader_Ints.l0 k lo hi n x l s p 0 = some ([], s, p, er) ∧ sawmillref05_ReadInts.l0 k lo hi n y l s p 0 = some (s, p, er, []))) := by
  intro r
  induction r with
  | zero =>
    intro l at_ k n x y hn hl ha hx hy hk
    obtain ⟨k, rfl⟩ : ∃ m, k = m + 1 := ⟨k - 1, by omega⟩
    simp only [wire_Reader_Ints.l0, sawmillref05_ReadInts.l0, if_true]
    rw [vu64 (n := (l.length : Int)) (by omega) (by omega), if_neg (by omega), if_neg (by omega)]
    exact Or.inl ⟨[], rfl, fun v hv => by simp at hv, trivial, by simp [zs, hx], by simp [zs, hy]⟩
  | succ r ih =>
    intro l at_ k n x y hn hl ha hx hy hk
    obtain ⟨k, rfl⟩ : ∃ m, k = m + 1 := ⟨k - 1, by omega⟩
    simp only [wire_Reader_Ints.l0, sawmillref05_ReadInts.l0, if_true]
    rw [vu64 (n := (l.length : Int)) (by omega) (by omega), if_pos (by omega), if_pos (by omega)]
    rcases sgn_at s at_ p 0 ha hs (k := k) (by omega) lo hi hx hy with ⟨v, h1, h2, h3, hS, hX, hY⟩ | ⟨er, her, hno, hX, hY⟩
    · have hle := St_len s _ at_ ha hS
      rw [hX, hY]
      simp only [Option.bind_some, if_true]
      rw [if_pos (by omega), if_pos (by omega)]
      rcases ih (l ++ [v]) (at_ + (enc (zz v)).length) k n (wrap64 (x + ((enc (zz v)).length : Int))) (((at_ + (enc (zz v)).length : Nat) : Int)) (by simp; omega) (by simp; omega) hle (by rw [v64 (by omega) (by omega)]; omega) rfl (by omega) with ⟨m, g1, g2, g3, g4, g5⟩ | ⟨er, g1, g2, g3, g4⟩
      · rw [g4, g5]
        refine Or.inl ⟨v :: m, by simp [g1], fun u hu => ?_, ?_, ?_, ?_⟩
        · rcases List.mem_cons.1 hu with rfl | hu
          · exact ⟨h1, h2⟩
          · exact g2 u hu
        · simp only [zs]
          rw [St_append]
          exact ⟨hS, g3⟩
        · simp only [zs, List.length_append, List.append_assoc, List.cons_append, List.nil_append, Nat.add_assoc]
        · simp only [zs, List.length_append, List.append_assoc, List.cons_append, List.nil_append, Nat.add_assoc]
      · rw [g3, g4]
        refine Or.inr ⟨er, g1, fun m hm hmr hSm => ?_, rfl, rfl⟩
        rcases m with _ | ⟨u, m⟩
        · simp at hm
        · simp only [zs] at hSm
          rw [St_append] at hSm
          obtain rfl : u = v := zz_uniq s hSm.1 hS
          exact g2 m (by simpa using hm) (fun w hw => hmr w (List.mem_cons_of_mem _ hw)) hSm.2
    · rw [hX, hY]
      obtain ⟨k, rfl⟩ : ∃ m, k = m + 1 := ⟨k - 1, by omega⟩
      simp only [Option.bind_some, sawmillref05_fail.f, wire_Reader_Ints.l0]
      rw [if_pos (by omega), if_neg her, if_neg her]
      refine Or.inr ⟨er, her, fun m hm hmr hSm => ?_, rfl, rfl⟩
      rcases m with _ | ⟨u, m⟩
      · simp at hm
      · simp only [zs] at hSm
        rw [St_append] at hSm
        have hu := hmr u (by simp)
        exact hno u hu.1 hu.2 ⟨by omega, by omega⟩ hSm.1
theorem ints_at (s : ByteArray) (a : Nat) (e : Int) (ha : a ≤ s.size) (hs : s.size ≤ 1000000000000000) (most : Nat) (hmost : most ≤ 1000000) {k : Nat} (hk : most + 40 ≤ k) {mi : Int} (hmi : mi = most) (lo hi : Int) (hlo : -9223372036854775808 ≤ lo) (hhi : hi ≤ 9223372036854775807) :
    RdRes s a e ls (fun l => l.length ≤ most ∧ ∀ v ∈ l, lo ≤ v ∧ v ≤ hi) ([] : List Int) (wire_Reader_Ints.f k s a e mi lo hi) (sawmillref05_ReadInts.f k s a e mi lo hi) := by
  subst hmi
  obtain ⟨k, rfl⟩ : ∃ m, k = m + 1 := ⟨k - 1, by omega⟩
  unfold wire_Reader_Ints.f sawmillref05_ReadInts.f wire_Reader_ready.f
  simp only [Option.bind_some]
  by_cases he : e = 0
  · subst he
    rw [if_pos (by rfl), if_pos rfl]
    unfold wire_Reader_count.f
    rcases num_at s a a 0 ha hs (k := k + 1) (by omega) (x := a) (y := a) rfl rfl with ⟨m, hm, hS, hX, hY⟩ | ⟨er, her, hno, hX, hY⟩
    · have hl := St_len s _ a ha hS
      rw [hX, hY]
      simp only [Option.bind_some, if_true]
      rw [if_neg (show ¬ (most : Int) < 0 by omega), if_neg (show ¬ (most : Int) < 0 by omega), vu64 (n := (most : Int)) (by omega) (by omega)]
      have hno : ∀ t : List Int, St s a (ls t) → t.length = m ∧ St s (a + (enc m).length) (zs t) := by
        intro t ht
        unfold ls at ht
        rw [St_append] at ht
        have e := enc_uniq s _ _ a ht.1 hS
        rw [e] at ht
        exact ⟨e, ht.2⟩
      by_cases h1 : most < m
      · rw [if_pos (show (m : Int) > most by omega), decide_eq_true (show (m : Int) > most by omega)]
        simp only [Option.bind_some]
        simp only [wire_Reader_Ints.l0, sawmillref05_ReadInts.j0, sawmillref05_fail.f, Option.bind_some]
        rw [if_neg (by decide), if_pos trivial]
        exact Or.inr ⟨4, by decide, fun _ t ht h => by have := (hno t h).1; have := ht.1; omega, rfl, rfl⟩
      · rw [if_neg (show ¬ (m : Int) > most by omega), decide_eq_false (show ¬ (m : Int) > most by omega)]
        rw [Option.bind_some]
        dsimp only
        have e1 : wrap64 (m : Int) = m := v64 (by omega) (by omega)
        have e2 : wrap64 ((a : Int) + ((enc m).length : Int)) = ((a + (enc m).length : Nat) : Int) := by rw [v64 (by omega) (by omega)]; omega
        rw [e1, e2]
        simp only [sawmillref05_ReadInts.j0]
        rw [if_neg Bool.false_ne_true]
        rcases ints_l s a hs lo hi hlo hhi m [] (a + (enc m).length) k (m : Int) ((a + (enc m).length : Nat) : Int) ((a + (enc m).length : Nat) : Int) (by simp) (by simp; omega) hl rfl rfl (by omega) with ⟨r, g1, g2, g3, g4, g5⟩ | ⟨er, g1, g2, g3, g4⟩
        · have g4' := at_rounds (g := fun k => wire_Reader_Ints.l0 k lo hi (m : Int) ((a + (enc m).length : Nat) : Int) [] s a 0) (fun k => wire_Reader_Ints.mono_l k _ _ _ _ _ _ _ _) (k := k) (k' := k + 1) (by omega) g4
          rw [g4', g5]
          refine Or.inl ⟨r, rfl, ⟨by omega, g2⟩, ?_, ?_, ?_⟩
          · unfold ls
            rw [St_append, g1]
            exact ⟨hS, g3⟩
          · simp only [ls, List.nil_append, List.length_append, g1, Nat.add_assoc]
          · simp only [ls, List.nil_append, List.length_append, g1, Nat.add_assoc]
        · have g3' := at_rounds (g := fun k => wire_Reader_Ints.l0 k lo hi (m : Int) ((a + (enc m).length : Nat) : Int) [] s a 0) (fun k => wire_Reader_Ints.mono_l k _ _ _ _ _ _ _ _) (k := k) (k' := k + 1) (by omega) g3
          rw [g3', g4]
          refine Or.inr ⟨er, g1, fun _ t ht h => ?_, rfl, rfl⟩
          obtain ⟨q1, q2⟩ := hno t h
          exact g2 t q1 ht.2 q2
    · rw [hX, hY]
      have h0 : ¬ er = 0 := by omega
      simp only [Option.bind_some, sawmillref05_fail.f]
      rw [if_neg h0, if_neg h0]
      simp only [Option.bind_some, wire_Reader_Ints.l0]
      rw [if_neg h0]
      refine Or.inr ⟨er, h0, fun _ t ht h => ?_, rfl, rfl⟩
      unfold ls at h
      rw [St_append] at h
      exact hno _ (by have := ht.1; omega) h.1
  · rw [if_neg (by simpa using he), if_neg he]
    exact Or.inr ⟨e, he, fun h => absurd h he, rfl, rfl⟩
theorem end_at (s : ByteArray) (a : Nat) (e : Int) (ha : a ≤ s.size) (hs : s.size ≤ 1000000000000000) : wire_Reader_End.f s a e = some (if e = 0 then (if s.size = a then 0 else 4) else e, s, (a : Int), e) ∧ sawmillref05_End.f s a e = some (if e = 0 then (if s.size = a then 0 else 4) else e) := by
  unfold wire_Reader_End.f sawmillref05_End.f wire_Reader_Err.f wire_Reader_Left.f sawmillref05_Left.f
  simp only [Option.bind_some]
  rw [v64 (n := (s.size : Int) - a) (by omega) (by omega)]
  by_cases he : e = 0
  · subst he
    simp only [if_true]
    by_cases h : s.size = a
    · rw [if_pos h, if_pos (by omega), if_neg (by omega)]
      refine ⟨?_, ?_⟩ <;> first | rfl | trivial
    · rw [if_neg h, if_neg (by omega), if_pos (by omega)]
      refine ⟨?_, ?_⟩ <;> first | rfl | trivial
  · simp only [he, if_false]
    refine ⟨?_, ?_⟩ <;> first | rfl | trivial
end Go.Proofs.YtbahagcidhmojaaDoor.PA
namespace Go.Proofs.YtbahagcidhmojaaDoor.PA
open Go.RowKit Go.Proofs.YtbahagcidhmojaaDoorW.PrintWords
set_option linter.unusedVariables false
theorem w64 {n : Int} (h0 : -9223372036854775808 ≤ n) (h1 : n ≤ 9223372036854775807) : wrap64 n = n := by unfold wrap64; omega
theorem tmod_pos {a b : Int} (h : 0 ≤ a) : Int.tmod a b = a % b := Int.tmod_eq_emod_of_nonneg h
def letSum (s : ByteArray) : Nat → Int
  | 0 => 0
  | n + 1 => (letSum s n + ((n : Int) + 1) * bt s n) % 23
theorem letSum_range (s : ByteArray) (n : Nat) : 0 ≤ letSum s n ∧ letSum s n < 23 := by
  cases n with
  | zero => simp [letSum]
  | succ n => unfold letSum; omega
theorem mod_mul (i b : Int) : ((i % 23 + 1) * b) % 23 = ((i + 1) * b) % 23 := by
  rw [Int.mul_emod, Int.add_emod, Int.emod_emod_of_dvd _ (Int.dvd_refl 23), ← Int.add_emod, ← Int.mul_emod]
theorem mod_mul' (i b : Int) : (((i + 1) % 23) * b) % 23 = ((i + 1) * b) % 23 := by
  rw [Int.mul_emod, Int.emod_emod_of_dvd _ (Int.dvd_refl 23), ← Int.mul_emod]
theorem bounded_mul {c b : Int} (hc : 0 ≤ c) (hc' : c ≤ 23) (hb : 0 ≤ b) (hb' : b ≤ 255) : 0 ≤ c * b ∧ c * b ≤ 5865 := by
  constructor
  · exact Int.mul_nonneg hc hb
  · calc c * b ≤ 23 * b := Int.mul_le_mul_of_nonneg_right hc' hb
      _ ≤ 23 * 255 := Int.mul_le_mul_of_nonneg_left hb' (by omega)
theorem id_letter_l (s : ByteArray) (hs : s.size ≤ 1000000) (d : Nat) : ∀ (n k : Nat), n + d = s.size → d < k → ident_Letter.l0 k s (letSum s n) (s.size : Int) n = some (65 + letSum s s.size) := by
  induction d with
  | zero =>
    intro n k hn hk
    obtain ⟨k, rfl⟩ : ∃ m, k = m + 1 := ⟨k - 1, by omega⟩
    simp only [ident_Letter.l0]
    rw [if_neg (by omega)]
    have h := letSum_range s n
    obtain rfl : n = s.size := by omega
    congr 1
    omega
  | succ d ih =>
    intro n k hn hk
    obtain ⟨k, rfl⟩ : ∃ m, k = m + 1 := ⟨k - 1, by omega⟩
    have h := letSum_range s n
    have hb := bt_range s n
    have hm := bounded_mul (c := (n : Int) % 23 + 1) (b := bt s n) (by omega) (by omega) hb.1 hb.2
    simp only [ident_Letter.l0]
    rw [if_pos (by omega), if_pos (by omega), if_pos (by omega), tmod_pos (a := (n : Int)) (by omega), w64 (n := (n : Int) % 23 + 1) (by omega) (by omega), w64 (n := bt s n) (by omega) (by omega), w64 (n := ((n : Int) % 23 + 1) * bt s n) (by omega) (by omega), w64 (n := letSum s n + _) (by omega) (by omega), tmod_pos (by omega), w64 (n := (n : Int) + 1) (by omega) (by omega)]
    have e : (letSum s n + ((n : Int) % 23 + 1) * bt s n) % 23 = letSum s (n + 1) := by
      show _ = (letSum s n + ((n : Int) + 1) * bt s n) % 23
      rw [Int.add_emod, mod_mul, ← Int.add_emod]
    rw [e]
    exact ih (n + 1) k (by omega) (by omega)
theorem id_letter (s : ByteArray) (hs : s.size ≤ 1000000) {k : Nat} (hk : s.size < k) : ident_Letter.f k s = some (65 + letSum s s.size) :=
  id_letter_l s hs s.size 0 k (by omega) hk
theorem r_letter_l (s : ByteArray) (hs : s.size ≤ 1000000) (d : Nat) : ∀ (n k : Nat), n + d = s.size → d < k → sawmillref02_Letter.l0 k s (letSum s n) n = some (65 + letSum s s.size) := by
  induction d with
  | zero =>
    intro n k hn hk
    obtain ⟨k, rfl⟩ : ∃ m, k = m + 1 := ⟨k - 1, by omega⟩
    simp only [sawmillref02_Letter.l0]
    have h := letSum_range s n
    obtain rfl : n = s.size := by omega
    rw [if_neg (by omega), w64 (by omega) (by omega)]
    congr 1
    omega
  | succ d ih =>
    intro n k hn hk
    obtain ⟨k, rfl⟩ : ∃ m, k = m + 1 := ⟨k - 1, by omega⟩
    have h := letSum_range s n
    have hb := bt_range s n
    have hm := bounded_mul (c := ((n : Int) + 1) % 23) (b := bt s n) (by omega) (by omega) hb.1 hb.2
    simp only [sawmillref02_Letter.l0]
    rw [if_pos (by omega), if_pos (by omega), w64 (n := (n : Int) + 1) (by omega) (by omega), tmod_pos (a := (n : Int) + 1) (by omega), w64 (n := bt s n) (by omega) (by omega), w64 (n := ((n : Int) + 1) % 23 * bt s n) (by omega) (by omega), w64 (n := letSum s n + _) (by omega) (by omega), tmod_pos (by omega)]
    have e : (letSum s n + (((n : Int) + 1) % 23) * bt s n) % 23 = letSum s (n + 1) := by
      show _ = (letSum s n + ((n : Int) + 1) * bt s n) % 23
      rw [Int.add_emod, mod_mul', ← Int.add_emod]
    rw [e]
    exact ih (n + 1) k (by omega) (by omega)
theorem r_letter (s : ByteArray) (hs : s.size ≤ 1000000) {k : Nat} (hk : s.size < k) : sawmillref02_Letter.f k s = some (65 + letSum s s.size) :=
  r_letter_l s hs s.size 0 k (by omega) hk
def splitV (s : ByteArray) : Int × Int × Int :=
  if s.size = 8 then (if capB (bt s 0) = true then splitRes s (65 + letSum (s.extract 0 7) 7) else (0, 0, 10)) else (0, 0, 3)
def isV (s : ByteArray) (c : Int) : Bool := if (splitV s).2.2 = 0 then (splitV s).1 == c else false
theorem size7 {s : ByteArray} (h : s.size = 8) : (s.extract 0 7).size = 7 := by rw [ByteArray.size_extract, h]; rfl
theorem id_split (s : ByteArray) {k : Nat} (hk : 7 < k) : ident_Split.f k s = some (splitV s) := by
  unfold ident_Split.f splitV
  by_cases h8 : s.size = 8
  · rw [if_pos (by omega), if_pos h8]
    by_cases hc : capB (bt s 0) = true
    · rw [if_pos hc, if_pos hc, id_letter _ (by rw [size7 h8]; decide) (by rw [size7 h8]; exact hk), size7 h8]
      unfold splitRes
      by_cases hd : allDig s = true
      · simp only [if_pos hd, Option.bind_some]
      · rw [if_neg hd, if_neg hd]
    · rw [if_neg hc, if_neg hc]
  · rw [if_neg (by omega), if_neg h8]
theorem id_is (s : ByteArray) (c : Int) {k : Nat} (hk : 7 < k) : ident_Is.f k s c = some (isV s c) := by
  unfold ident_Is.f isV
  rw [id_split s hk, Option.bind_some]
  split <;> rfl
def numTo (s : ByteArray) : Nat → Int
  | 0 => 0
  | n + 1 => 10 * numTo s n + (bt s ((n : Int) + 1) - 48)
theorem r_digit (c : Int) : sawmillref02_digit.f c = some (digB c) := by unfold sawmillref02_digit.f digB; split <;> simp [*]
theorem r_capital (c : Int) : sawmillref02_capital.f c = some (capB c) := by unfold sawmillref02_capital.f capB; split <;> simp [*]
theorem numTo_six (s : ByteArray) : numTo s 6 = codeNum s := by simp [numTo, codeNum]; omega
theorem pow_le6 {n : Nat} (h : n ≤ 6) : ((10 ^ n : Nat) : Int) ≤ 1000000 := by
  have : 10 ^ n ≤ 10 ^ 6 := Nat.pow_le_pow_right (by decide) h
  omega
theorem r_split_l (s : ByteArray) (h8 : s.size = 8) (d : Nat) : ∀ (n k : Nat), n + d = 6 → d + 8 < k → (∀ j : Nat, 1 ≤ j → j ≤ n → digB (bt s j) = true) → 0 ≤ numTo s n → numTo s n < ((10 ^ n : Nat) : Int) →
    sawmillref02_Split.l0 k s (numTo s n) ((n : Int) + 1) = some (splitRes s (65 + letSum (s.extract 0 7) 7)) := by
  induction d with
  | zero =>
    intro n k hn hk hd h0 h1
    obtain ⟨k, rfl⟩ : ∃ m, k = m + 1 := ⟨k - 1, by omega⟩
    obtain rfl : n = 6 := by omega
    have hall : allDig s = true := allDig_true s (fun j hj hj' => hd j hj (by omega))
    simp only [sawmillref02_Split.l0]
    rw [if_neg (by omega), if_pos (by omega), if_pos (by omega), r_letter _ (by rw [size7 h8]; decide) (by rw [size7 h8]; omega), size7 h8, Option.bind_some]
    unfold splitRes
    rw [if_pos hall]
    by_cases e : 65 + letSum (s.extract 0 7) 7 = bt s 7
    · rw [if_pos e.symm, if_pos e, if_pos (by omega), numTo_six]
    · rw [if_neg (fun h => e h.symm), if_neg e]
  | succ d ih =>
    intro n k hn hk hd h0 h1
    obtain ⟨k, rfl⟩ : ∃ m, k = m + 1 := ⟨k - 1, by omega⟩
    simp only [sawmillref02_Split.l0]
    rw [if_pos (by omega), if_pos (by omega), if_pos (by omega), r_digit, Option.bind_some]
    by_cases hg : digB (bt s ((n : Int) + 1)) = true
    · have hg' : 48 ≤ bt s ((n : Int) + 1) ∧ bt s ((n : Int) + 1) ≤ 57 := by simpa [digB] using hg
      have hp := pow_le6 (n := n) (by omega)
      have hp1 : ((10 ^ (n + 1) : Nat) : Int) = 10 * ((10 ^ n : Nat) : Int) := by rw [Nat.pow_succ]; omega
      have e : wrap64 (wrap64 (10 * numTo s n) + (bt s ((n : Int) + 1) - 48) % 256) = numTo s (n + 1) := by
        show _ = 10 * numTo s n + (bt s ((n : Int) + 1) - 48)
        rw [w64 (n := 10 * numTo s n) (by omega) (by omega), w64 (by omega) (by omega)]
        omega
      have e2 : numTo s (n + 1) = 10 * numTo s n + (bt s ((n : Int) + 1) - 48) := rfl
      rw [if_pos hg, e, w64 (n := (n : Int) + 1 + 1) (by omega) (by omega)]
      have := ih (n + 1) k (by omega) (by omega) (fun j hj hj' => by
        by_cases hjn : j ≤ n
        · exact hd j hj hjn
        · obtain rfl : j = n + 1 := by omega
          have : ((n + 1 : Nat) : Int) = (n : Int) + 1 := by omega
          rw [this]
          exact hg) (by omega) (by omega)
      rw [show ((n + 1 : Nat) : Int) = (n : Int) + 1 by omega] at this
      exact this
    · rw [if_neg hg]
      have hf : allDig s = false := allDig_false s (n + 1) (by omega) (by omega) (by rw [show ((n + 1 : Nat) : Int) = (n : Int) + 1 by omega]; simpa using hg)
      unfold splitRes
      rw [hf]
      rfl
theorem r_split (s : ByteArray) {k : Nat} (hk : 14 < k) : sawmillref02_Split.f k s = some (splitV s) := by
  unfold sawmillref02_Split.f splitV
  by_cases h8 : s.size = 8
  · rw [if_pos (by omega), if_pos h8, if_pos (by omega), r_capital, Option.bind_some]
    by_cases hc : capB (bt s 0) = true
    · rw [if_pos hc, if_pos hc]
      exact r_split_l s h8 6 0 k (by omega) (by omega) (fun j hj hj' => by omega) (Int.le_refl 0) (by show (0 : Int) < ((10 ^ 0 : Nat) : Int); decide)
    · rw [if_neg hc, if_neg hc]
  · rw [if_neg (by omega), if_neg h8]
theorem r_is (s : ByteArray) (c : Int) {k : Nat} (hk : 14 < k) : sawmillref02_Is.f k s c = some (isV s c) := by
  unfold sawmillref02_Is.f isV
  rw [r_split s hk, Option.bind_some]
  split <;> rfl
end Go.Proofs.YtbahagcidhmojaaDoor.PA
namespace Go.Proofs.YtbahagcidhmojaaDoor.PA
open Go.RowKit Go.Proofs.YtbahagcidhmojaaDoorW.PrintWords
set_option linter.unusedVariables false
set_option maxRecDepth 100000 in
theorem awake_true : sawmilllaw58_awake.f 40 = some true := by kernel_rfl
theorem awake_ge {k : Nat} (hk : 40 ≤ k) : sawmilllaw58_awake.f k = some true := at_rounds sawmilllaw58_awake.mono hk awake_true
def codeB (a : ByteArray) (c : Int) : Bool := if c = 0 then a.toList == ([] : List UInt8) else isV a c
theorem id_code (a : ByteArray) (c : Int) {k : Nat} (hk : 7 < k) : event_isCode.f k a c = some (codeB a c) := by
  unfold event_isCode.f codeB
  by_cases h : c = 0
  · rw [if_pos h, if_pos h]
  · rw [if_neg h, if_neg h, id_is a c hk, Option.bind_some]
theorem r_code (a : ByteArray) (c : Int) {k : Nat} (hk : 14 < k) : sawmillref58_named.f k a c = some (codeB a c) := by
  unfold sawmillref58_named.f codeB
  by_cases h : c = 0
  · rw [if_pos h, if_pos h]
  · rw [if_neg h, if_neg h, r_is a c hk, Option.bind_some]
theorem r_codes (n : Int) (h1 : 1 ≤ n) (h2 : n ≤ 14) (k : Nat) : sawmillref58_codes.f (k + 2) n = some (kItem n, kOf n) := by
  rcases kind_cases n h1 h2 with rfl | rfl | rfl | rfl | rfl | rfl | rfl | rfl | rfl | rfl | rfl | rfl | rfl | rfl <;> rfl
theorem big_at {l : List Int} (h : l.all inBig = true) {i : Int} (h0 : 0 ≤ i) (h1 : i < l.length) : -1099511627776 ≤ rd l i ∧ rd l i ≤ 1099511627776 := by
  have hm : rd l i ∈ l := by
    unfold rd
    rw [List.getD_eq_getElem?_getD, List.getElem?_eq_getElem (by omega)]
    exact List.getElem_mem _
  have := List.all_eq_true.1 h _ hm
  simpa [inBig] using this
theorem beq_dec (a b : Int) : (a == b) = decide (a = b) := by
  by_cases h : a = b
  · simp [h]
  · simp [h]
theorem r_shaped (n a1 : Int) (a2 a3 : ByteArray) (l : List Int) (a5 : ByteArray) (h1 : 1 ≤ n) (h2 : n ≤ 14) (hl : (l.length : Int) ≤ 600) (hb : l.all inBig = true) : sawmillref58_shaped.f n a1 a2 a3 l a5 = some (kFits n l) := by
  have hn : (0 : Int) ≤ (l.length : Int) := by omega
  rcases kind_cases n h1 h2 with rfl | rfl | rfl | rfl | rfl | rfl | rfl | rfl | rfl | rfl | rfl | rfl | rfl | rfl
  case inr.inr.inr.inr.inr.inl =>
    show (if (l.length : Int) ≥ 2 then _ else _) = some (dryFits l)
    unfold dryFits
    by_cases h : (l.length : Int) ≥ 2
    · have hr := big_at hb (i := 1) (by omega) (by omega)
      rw [if_pos h, if_pos (show 1 < (l.length : Int) by omega), if_neg (show ¬ (l.length : Int) < 2 by omega), w64 (n := (l.length : Int) - 2) (by omega) (by omega)]
      by_cases h3 : rd l 1 ≥ 0
      · rw [if_pos h3]
        by_cases h4 : rd l 1 ≤ (l.length : Int) - 2
        · rw [if_pos h4, w64 (by omega) (by omega), tmod_pos (by omega), beq_dec, decide_eq_true (p := 0 ≤ rd l 1) (by omega), decide_eq_true h4]
          rfl
        · rw [if_neg h4, decide_eq_false h4]
          simp
      · rw [if_neg h3, decide_eq_false (p := 0 ≤ rd l 1) (by omega)]
        rfl
    · rw [if_neg h, if_pos (by omega)]
  all_goals (simp only [sawmillref58_shaped.f, kFits, Int.reduceEq, if_false, if_true]; first | done | rfl | (rw [Option.some.injEq, Bool.eq_iff_iff]; simp; done) | (rw [Option.some.injEq, Bool.eq_iff_iff]; simp; omega))
def checkV (a0 a1 : Int) (a2 a3 : ByteArray) (l : List Int) (a5 : ByteArray) : Int :=
  if a0 < 1 ∨ 14 < a0 then 10 else if a1 < 0 ∨ 10000000 < a1 then 15 else if codeB a2 (kItem a0) = true ∧ codeB a3 (kOf a0) = true then (if 600 < (l.length : Int) ∨ 16384 < (a5.size : Int) then 4 else checkTail a0 l) else 6
theorem p_check (a0 a1 : Int) (a2 a3 : ByteArray) (l : List Int) (a5 : ByteArray) {k : Nat} (hk : 7 < k) : event_Check.f k a0 a1 a2 a3 l a5 = some (checkV a0 a1 a2 a3 l a5) := by
  unfold event_Check.f checkV
  by_cases h1 : a0 < 1 ∨ 14 < a0
  · rw [if_pos h1, if_pos h1]
  rw [if_neg h1, if_neg h1]
  by_cases h2 : a1 < 0
  · rw [if_pos h2, if_pos (show a1 < 0 ∨ 10000000 < a1 from .inl h2)]
  rw [if_neg h2]
  by_cases h3 : a1 > 10000000
  · rw [if_pos h3, if_pos (show a1 < 0 ∨ 10000000 < a1 from .inr h3)]
  rw [if_neg h3, if_neg (show ¬ (a1 < 0 ∨ 10000000 < a1) by omega), id_code _ _ hk, Option.bind_some]
  by_cases h4 : codeB a2 (kItem a0) = true
  · rw [if_pos h4, id_code _ _ hk, Option.bind_some]
    by_cases h5 : codeB a3 (kOf a0) = true
    · rw [if_pos h5, if_pos (And.intro h4 h5)]
      by_cases h6 : (l.length : Int) > 600
      · rw [if_pos h6, if_pos (show 600 < (l.length : Int) ∨ 16384 < (a5.size : Int) from .inl h6)]
      rw [if_neg h6]
      by_cases h7 : (a5.size : Int) > 16384
      · rw [if_pos h7, if_pos (show 600 < (l.length : Int) ∨ 16384 < (a5.size : Int) from .inr h7)]
      rw [if_neg h7, if_neg (show ¬ (600 < (l.length : Int) ∨ 16384 < (a5.size : Int)) by omega)]
    · rw [if_neg h5, if_neg (show ¬ (codeB a2 (kItem a0) = true ∧ codeB a3 (kOf a0) = true) from fun h => h5 h.2)]
  · rw [if_neg h4, if_neg (show ¬ (codeB a2 (kItem a0) = true ∧ codeB a3 (kOf a0) = true) from fun h => h4 h.1)]
theorem r_check_l (a0 a1 : Int) (a2 a3 : ByteArray) (l : List Int) (a5 : ByteArray) (h1 : 1 ≤ a0) (h2 : a0 ≤ 14) (hl : (l.length : Int) ≤ 600) (d : Nat) : ∀ (n k : Nat), n + d = l.length → d < k → AllTo l n →
    sawmillref58_Check.l0 k (n : Int) a0 a1 a2 a3 l a5 = some (checkTail a0 l) := by
  induction d with
  | zero =>
    intro n k hn hk hp
    obtain ⟨k, rfl⟩ : ∃ m, k = m + 1 := ⟨k - 1, by omega⟩
    have hall := hp.all (by omega)
    simp only [sawmillref58_Check.l0]
    rw [if_neg (by omega), r_shaped a0 a1 a2 a3 l a5 h1 h2 hl hall, Option.bind_some]
    unfold checkTail
    rw [if_pos hall]
    by_cases h : kFits a0 l = true
    · rw [if_pos h, if_pos h]
    · rw [if_neg h, if_neg h]
  | succ d ih =>
    intro n k hn hk hp
    obtain ⟨k, rfl⟩ : ∃ m, k = m + 1 := ⟨k - 1, by omega⟩
    simp only [sawmillref58_Check.l0]
    rw [if_pos (by omega), if_pos (by omega)]
    by_cases h3 : rd l n < -1099511627776
    · rw [if_pos h3]
      unfold checkTail
      rw [not_all (k := n) (by omega) rfl (.inl h3)]
      rfl
    rw [if_neg h3]
    by_cases h4 : rd l n > 1099511627776
    · rw [if_pos h4]
      unfold checkTail
      rw [not_all (k := n) (by omega) rfl (.inr h4)]
      rfl
    rw [if_neg h4, w64 (by omega) (by omega)]
    exact ih (n + 1) k (by omega) (by omega) (hp.succ (by omega) rfl h3 (by omega))
theorem r_check (a0 a1 : Int) (a2 a3 : ByteArray) (l : List Int) (a5 : ByteArray) {k : Nat} (hk : 620 < k) : sawmillref58_Check.f k a0 a1 a2 a3 l a5 = some (checkV a0 a1 a2 a3 l a5) := by
  obtain ⟨k, rfl⟩ : ∃ m, k = m + 1 := ⟨k - 1, by omega⟩
  unfold sawmillref58_Check.f checkV
  by_cases h1 : a0 < 1 ∨ 14 < a0
  · rw [if_pos h1]
    by_cases h : a0 < 1
    · rw [if_pos h]; rfl
    · rw [if_neg h, decide_eq_true (by omega)]; rfl
  rw [if_neg h1, if_neg (by omega), decide_eq_false (by omega)]
  obtain ⟨k, rfl⟩ : ∃ m, k = m + 1 := ⟨k - 1, by omega⟩
  simp only [sawmillref58_Check.j0]
  rw [if_neg (by simp)]
  have ht : sawmillref07_IsTime.f a1 = some (decide (0 ≤ a1 ∧ a1 ≤ 10000000)) := by unfold sawmillref07_IsTime.f; split <;> simp [*]
  rw [ht, Option.bind_some]
  by_cases h2 : a1 < 0 ∨ 10000000 < a1
  · rw [if_pos h2, if_neg (by simp; omega)]
  rw [if_neg h2, if_pos (by simp; omega), show k + 1 = (k - 1) + 2 by omega, r_codes a0 (by omega) (by omega), Option.bind_some]
  simp only []
  rw [r_code _ _ (by omega), Option.bind_some]
  have key : ∀ b : Bool, b = (codeB a2 (kItem a0) && codeB a3 (kOf a0)) → sawmillref58_Check.j1 ((k - 1) + 2) (!b) a0 a1 a2 a3 l a5 = some (if codeB a2 (kItem a0) = true ∧ codeB a3 (kOf a0) = true then (if 600 < (l.length : Int) ∨ 16384 < (a5.size : Int) then 4 else checkTail a0 l) else 6) := by
    intro b hb
    simp only [sawmillref58_Check.j1]
    cases b with
    | false => rw [if_pos (by rfl), if_neg (by intro h; rw [h.1, h.2] at hb; exact absurd hb (by decide))]
    | true =>
      have hh : codeB a2 (kItem a0) = true ∧ codeB a3 (kOf a0) = true := by simpa using hb.symm
      rw [if_neg (by simp), if_pos hh]
      by_cases h6 : 600 < (l.length : Int)
      · rw [if_pos (show (l.length : Int) > 600 from h6), if_pos (show 600 < (l.length : Int) ∨ 16384 < (a5.size : Int) from .inl h6)]; rfl
      · rw [if_neg (show ¬ (l.length : Int) > 600 from h6)]
        show sawmillref58_Check.j2 (k - 1 + 1) _ _ _ _ _ _ _ = _
        simp only [sawmillref58_Check.j2]
        by_cases h7 : 16384 < (a5.size : Int)
        · rw [if_pos (by simp; omega), if_pos (show 600 < (l.length : Int) ∨ 16384 < (a5.size : Int) from .inr h7)]
        · rw [if_neg (by simp; omega), if_neg (show ¬ (600 < (l.length : Int) ∨ 16384 < (a5.size : Int)) by omega)]
          exact r_check_l a0 a1 a2 a3 l a5 (by omega) (by omega) (by omega) l.length 0 (k - 1) (by omega) (by omega) (AllTo.zero l)
  by_cases h4 : codeB a2 (kItem a0) = true
  · rw [if_pos h4, r_code _ _ (by omega), Option.bind_some]
    exact key _ (by rw [h4]; rfl)
  · rw [if_neg h4]
    exact key false (by simp at h4; rw [h4]; rfl)
end Go.Proofs.YtbahagcidhmojaaDoor.PA
namespace Go.Proofs.YtbahagcidhmojaaDoor.PA
open Go.RowKit Go.Proofs.YtbahagcidhmojaaDoorW.PrintWords
set_option linter.unusedVariables false
theorem toList_inj {a b : ByteArray} (h : a.toList = b.toList) : a = b := by
  rw [ByteArray.toList_eq, ByteArray.toList_eq] at h
  cases a with
  | mk x => cases b with
    | mk y => exact congrArg ByteArray.mk (by rw [← Array.toList_inj]; exact h)
theorem size_toList (a : ByteArray) : a.toList.length = a.size := by rw [ByteArray.toList_eq]; simp
def recE (a0 a1 : Int) (a2 a3 : ByteArray) (l : List Int) (a5 : ByteArray) : List Int := enc (zz a0) ++ enc (zz a1) ++ tx a2 ++ tx a3 ++ ls l ++ tx a5
structure Fit (a0 a1 : Int) (a2 a3 : ByteArray) (l : List Int) (a5 : ByteArray) : Prop where
  i0 : In64 a0
  i1 : In64 a1
  s2 : a2.size ≤ 1000
  s3 : a3.size ≤ 1000
  sl : l.length ≤ 700
  il : ∀ n ∈ l, In64 n
  s5 : a5.size ≤ 20000
theorem tx_len (t : ByteArray) (h : t.size ≤ 1000000) : (tx t).length ≤ 10 + t.size := by
  have := enc_len10 (n := t.size) (by omega)
  unfold tx
  rw [List.length_append, bytesOf_length]
  omega
theorem ls_len (l : List Int) (h : ∀ n ∈ l, In64 n) (hl : l.length ≤ 1000000) : (ls l).length ≤ 10 + 10 * l.length := by
  have := enc_len10 (n := l.length) (by omega)
  have := zs_len l h
  unfold ls
  rw [List.length_append]
  omega
theorem recE_byte (a0 a1 : Int) (a2 a3 : ByteArray) (l : List Int) (a5 : ByteArray) : ∀ b ∈ recE a0 a1 a2 a3 l a5, 0 ≤ b ∧ b < 256 := by
  intro b hb
  unfold recE at hb
  simp only [List.mem_append] at hb
  rcases hb with ((((h | h) | h) | h) | h) | h
  · exact enc_byte _ b h
  · exact enc_byte _ b h
  · exact tx_byte _ b h
  · exact tx_byte _ b h
  · exact ls_byte _ b h
  · exact tx_byte _ b h
section
variable {a0 a1 : Int} {a2 a3 : ByteArray} {l : List Int} {a5 : ByteArray} (H : Fit a0 a1 a2 a3 l a5)
include H
theorem Fit.lens : (enc (zz a0)).length ≤ 10 ∧ (enc (zz a1)).length ≤ 10 ∧ (tx a2).length ≤ 1010 ∧ (tx a3).length ≤ 1010 ∧ (ls l).length ≤ 7010 ∧ (tx a5).length ≤ 20010 := by
  have := H.s2
  have := H.s3
  have := H.sl
  have := H.s5
  have h1 := tx_len a2 (by omega)
  have h2 := tx_len a3 (by omega)
  have h3 := ls_len l H.il (by omega)
  have h4 := tx_len a5 (by omega)
  exact ⟨enc_len10 (zz_lt H.i0.1 H.i0.2), enc_len10 (zz_lt H.i1.1 H.i1.2), by omega, by omega, by omega, by omega⟩
theorem p_encode {k : Nat} (hk : 800 ≤ k) : event_Encode.f k a0 a1 a2 a3 l a5 = some (if checkV a0 a1 a2 a3 l a5 = 0 then (strOfNums (recE a0 a1 a2 a3 l a5), 0) else ((⟨#[]⟩ : ByteArray), checkV a0 a1 a2 a3 l a5)) := by
  obtain ⟨h0, h1, h2, h3, h4, h5⟩ := H.lens
  have hs2 := H.s2
  have hs3 := H.s3
  have hsl := H.sl
  have hs5 := H.s5
  unfold event_Encode.f
  rw [p_check _ _ _ _ _ _ (by omega), Option.bind_some]
  by_cases h : checkV a0 a1 a2 a3 l a5 = 0
  · rw [if_pos h, if_pos h, p_int H.i0 (by omega), Option.bind_some, p_int H.i1 (by omega), Option.bind_some, strOfNums_size, strOfNums_size, if_pos (by omega), p_text a2 (by omega) (by omega), Option.bind_some, strOfNums_append, strOfNums_size, strOfNums_size, List.length_append, if_pos (by omega),
      p_text a3 (by omega) (by omega), Option.bind_some, strOfNums_append, strOfNums_size, strOfNums_size, List.length_append, List.length_append, if_pos (by omega), p_ints l H.il (by omega) (by omega), Option.bind_some, strOfNums_append, strOfNums_size, strOfNums_size, List.length_append, List.length_append, List.length_append, if_pos (by omega),
      p_text a5 (by omega) (by omega), Option.bind_some, strOfNums_append, strOfNums_size, strOfNums_size, List.length_append, List.length_append, List.length_append, List.length_append, if_pos (by omega), strOfNums_append]
    rfl
  · rw [if_neg h, if_neg h]
theorem r_record {k : Nat} (hk : 800 ≤ k) : sawmillref58_record.f k a0 a1 a2 a3 l a5 = some (strOfNums (recE a0 a1 a2 a3 l a5)) := by
  obtain ⟨h0, h1, h2, h3, h4, h5⟩ := H.lens
  have hs2 := H.s2
  have hs3 := H.s3
  have hsl := H.sl
  have hs5 := H.s5
  unfold sawmillref58_record.f
  rw [r_int H.i0 (by omega), Option.bind_some, r_int H.i1 (by omega), Option.bind_some, strOfNums_size, strOfNums_size, if_pos (by omega), r_text a2 (by omega) (by omega), Option.bind_some, strOfNums_append, strOfNums_size, strOfNums_size, List.length_append, if_pos (by omega),
      r_text a3 (by omega) (by omega), Option.bind_some, strOfNums_append, strOfNums_size, strOfNums_size, List.length_append, List.length_append, if_pos (by omega), r_ints l H.il (by omega) (by omega), Option.bind_some, strOfNums_append, strOfNums_size, strOfNums_size, List.length_append, List.length_append, List.length_append, if_pos (by omega),
      r_text a5 (by omega) (by omega), Option.bind_some, strOfNums_append, strOfNums_size, strOfNums_size, List.length_append, List.length_append, List.length_append, List.length_append, if_pos (by omega), strOfNums_append]
  rfl
end
theorem code_size {a : ByteArray} {c : Int} (h : codeB a c = true) : a.size ≤ 8 := by
  unfold codeB at h
  by_cases hc : c = 0
  · rw [if_pos hc] at h
    have : a.toList = [] := by simpa using h
    rw [← size_toList, this]
    simp
  · rw [if_neg hc] at h
    unfold isV splitV at h
    by_cases h8 : a.size = 8
    · omega
    · rw [if_neg h8] at h
      simp at h
structure Ok (a0 a1 : Int) (a2 a3 : ByteArray) (l : List Int) (a5 : ByteArray) : Prop where
  c : checkV a0 a1 a2 a3 l a5 = 0
  i0 : 1 ≤ a0 ∧ a0 ≤ 14
  i1 : 0 ≤ a1 ∧ a1 ≤ 10000000
  s2 : a2.size ≤ 8
  s3 : a3.size ≤ 8
  sl : l.length ≤ 600
  il : ∀ n ∈ l, -1099511627776 ≤ n ∧ n ≤ 1099511627776
  s5 : a5.size ≤ 16384
theorem ok_of {a0 a1 : Int} {a2 a3 : ByteArray} {l : List Int} {a5 : ByteArray} (h : checkV a0 a1 a2 a3 l a5 = 0) : Ok a0 a1 a2 a3 l a5 := by
  have hc := h
  unfold checkV at h
  by_cases h0 : a0 < 1 ∨ 14 < a0
  · rw [if_pos h0] at h; simp at h
  rw [if_neg h0] at h
  by_cases h1 : a1 < 0 ∨ 10000000 < a1
  · rw [if_pos h1] at h; simp at h
  rw [if_neg h1] at h
  by_cases h2 : codeB a2 (kItem a0) = true ∧ codeB a3 (kOf a0) = true
  · rw [if_pos h2] at h
    by_cases h3 : 600 < (l.length : Int) ∨ 16384 < (a5.size : Int)
    · rw [if_pos h3] at h; simp at h
    rw [if_neg h3] at h
    unfold checkTail at h
    by_cases h4 : l.all inBig = true
    · refine ⟨hc, by omega, by omega, code_size h2.1, code_size h2.2, by omega, fun n hn => ?_, by omega⟩
      have := List.all_eq_true.1 h4 n hn
      simpa [inBig] using this
    · rw [if_neg h4] at h; simp at h
  · rw [if_neg h2] at h; simp at h
theorem Ok.fit {a0 a1 : Int} {a2 a3 : ByteArray} {l : List Int} {a5 : ByteArray} (H : Ok a0 a1 a2 a3 l a5) : Fit a0 a1 a2 a3 l a5 := by
  have := H.i0
  have := H.i1
  have := H.s2
  have := H.s3
  have := H.sl
  have := H.s5
  exact ⟨⟨by omega, by omega⟩, ⟨by omega, by omega⟩, by omega, by omega, by omega, fun n hn => ⟨by have := H.il n hn; omega, by have := H.il n hn; omega⟩, by omega⟩
def DecRes (s : ByteArray) (X Y : Option (Int × Int × ByteArray × ByteArray × List Int × ByteArray × Int)) : Prop :=
  (∃ a0 a1 a2 a3 l a5, Ok a0 a1 a2 a3 l a5 ∧ St s 0 (recE a0 a1 a2 a3 l a5) ∧ (recE a0 a1 a2 a3 l a5).length = s.size ∧ X = some (a0, a1, a2, a3, l, a5, 0) ∧ Y = some (a0, a1, a2, a3, l, a5, 0)) ∨
  ((∀ a0 a1 a2 a3 l a5, Ok a0 a1 a2 a3 l a5 → St s 0 (recE a0 a1 a2 a3 l a5) → (recE a0 a1 a2 a3 l a5).length = s.size → False) ∧ X = some (0, 0, (⟨#[]⟩ : ByteArray), (⟨#[]⟩ : ByteArray), ([] : List Int), (⟨#[]⟩ : ByteArray), 5) ∧ Y = some (0, 0, (⟨#[]⟩ : ByteArray), (⟨#[]⟩ : ByteArray), ([] : List Int), (⟨#[]⟩ : ByteArray), 5))
theorem rd_step {α : Type} {s : ByteArray} {a : Nat} {e : Int} {E : α → List Int} {P : α → Prop} {z : α} {X : Option (α × ByteArray × Int × Int)} {Y : Option (ByteArray × Int × Int × α)} (ha : a ≤ s.size) (h : RdRes s a e E P z X Y) :
    ∃ (v : α) (b : Nat) (f : Int), b ≤ s.size ∧ X = some (v, s, (b : Int), f) ∧ Y = some (s, (b : Int), f, v) ∧ ((e = 0 ∧ f = 0 ∧ P v ∧ St s a (E v) ∧ b = a + (E v).length) ∨ (f ≠ 0 ∧ (e = 0 → ∀ v, P v → ¬ St s a (E v)))) := by
  rcases h with ⟨v, h1, h2, h3, h4, h5⟩ | ⟨er, h1, h2, h3, h4⟩
  · exact ⟨v, _, 0, St_len s _ a ha h3, h4, h5, Or.inl ⟨h1, rfl, h2, h3, rfl⟩⟩
  · exact ⟨z, a, er, ha, h3, h4, Or.inr ⟨h1, h2⟩⟩
theorem dec_both (s : ByteArray) (hs : s.size ≤ 1000000000000000) {k : Nat} (hk : 800 ≤ k) : DecRes s (event_Decode.f k s) (sawmillref58_Decode.f k s) := by
  unfold event_Decode.f sawmillref58_Decode.f wire_NewReader.f sawmillref05_NewReader.f
  rw [Option.bind_some, Option.bind_some]
  obtain ⟨v0, b0, f0, q0, x0, y0, t0⟩ := rd_step (Nat.zero_le _) (int_at s 0 0 (Nat.zero_le _) hs (k := k) (by omega) 1 14 (by omega) (by omega))
  obtain ⟨v1, b1, f1, q1, x1, y1, t1⟩ := rd_step q0 (int_at s b0 f0 q0 hs (k := k) (by omega) 0 10000000 (by omega) (by omega))
  obtain ⟨v2, b2, f2, q2, x2, y2, t2⟩ := rd_step q1 (text_at s b1 f1 q1 hs (k := k) (by omega) 8 (by omega) (mi := 8) rfl)
  obtain ⟨v3, b3, f3, q3, x3, y3, t3⟩ := rd_step q2 (text_at s b2 f2 q2 hs (k := k) (by omega) 8 (by omega) (mi := 8) rfl)
  obtain ⟨v4, b4, f4, q4, x4, y4, t4⟩ := rd_step q3 (ints_at s b3 f3 q3 hs 600 (by omega) (k := k) (by omega) (mi := 600) rfl (-1099511627776) 1099511627776 (by omega) (by omega))
  obtain ⟨v5, b5, f5, q5, x5, y5, t5⟩ := rd_step q4 (text_at s b4 f4 q4 hs (k := k) (by omega) 16384 (by omega) (mi := 16384) rfl)
  obtain ⟨x6, y6⟩ := end_at s b5 f5 q5 hs
  have x0' : wire_Reader_Int.f k s 0 0 1 14 = some (v0, s, (b0 : Int), f0) := x0
  have y0' : sawmillref05_ReadInt.f k s 0 0 1 14 = some (s, (b0 : Int), f0, v0) := y0
  dsimp only
  rw [x0', y0', Option.bind_some, Option.bind_some]
  dsimp only
  rw [x1, y1, Option.bind_some, Option.bind_some]
  dsimp only
  rw [x2, y2, Option.bind_some, Option.bind_some]
  dsimp only
  rw [x3, y3, Option.bind_some, Option.bind_some]
  dsimp only
  rw [x4, y4, Option.bind_some, Option.bind_some]
  dsimp only
  rw [x5, y5, Option.bind_some, Option.bind_some]
  dsimp only
  rw [x6, y6, Option.bind_some, Option.bind_some]
  dsimp only
  rw [p_check _ _ _ _ _ _ (by omega), r_check _ _ _ _ _ _ (by omega), Option.bind_some, Option.bind_some]
  have hno : (∀ a0 a1 a2 a3 l a5, Ok a0 a1 a2 a3 l a5 → St s 0 (recE a0 a1 a2 a3 l a5) → (recE a0 a1 a2 a3 l a5).length = s.size → (if f5 = 0 then (if s.size = b5 then (0 : Int) else 4) else f5) = 0 ∧ v0 = a0 ∧ v1 = a1 ∧ v2 = a2 ∧ v3 = a3 ∧ v4 = l ∧ v5 = a5) := by
    intro a0 a1 a2 a3 l a5 H h hl
    unfold recE at h hl
    simp only [St_append, List.length_append, ← Nat.add_assoc] at h hl
    obtain ⟨⟨⟨⟨⟨h0, h1⟩, h2⟩, h3⟩, h4⟩, h5⟩ := h
    rcases t0 with ⟨-, rfl, -, g0, rfl⟩ | ⟨-, g⟩
    case inr => exact absurd h0 (g rfl a0 H.i0)
    obtain rfl := zz_uniq s g0 h0
    rcases t1 with ⟨-, rfl, -, g1, rfl⟩ | ⟨-, g⟩
    case inr => exact absurd h1 (g rfl a1 H.i1)
    obtain rfl := zz_uniq s g1 h1
    rcases t2 with ⟨-, rfl, -, g2, rfl⟩ | ⟨-, g⟩
    case inr => exact absurd h2 (g rfl a2 H.s2)
    obtain rfl := tx_uniq s g2 h2
    rcases t3 with ⟨-, rfl, -, g3, rfl⟩ | ⟨-, g⟩
    case inr => exact absurd h3 (g rfl a3 H.s3)
    obtain rfl := tx_uniq s g3 h3
    rcases t4 with ⟨-, rfl, -, g4, rfl⟩ | ⟨-, g⟩
    case inr => exact absurd h4 (g rfl l ⟨H.sl, H.il⟩)
    obtain rfl := ls_uniq s g4 h4
    rcases t5 with ⟨-, rfl, -, g5, rfl⟩ | ⟨-, g⟩
    case inr => exact absurd h5 (g rfl a5 H.s5)
    obtain rfl := tx_uniq s g5 h5
    refine ⟨?_, rfl, rfl, rfl, rfl, rfl, rfl⟩
    rw [if_pos rfl, if_pos (by omega)]
  by_cases hE : (if f5 = 0 then (if s.size = b5 then (0 : Int) else 4) else f5) = 0
  · rw [if_pos hE, if_pos hE]
    by_cases hc : checkV v0 v1 v2 v3 v4 v5 = 0
    · rw [if_pos hc, if_pos hc]
      have H := ok_of hc
      rw [r_record H.fit (by omega), Option.bind_some]
      have hf5 : f5 = 0 := by
        by_cases h : f5 = 0
        · exact h
        · rw [if_neg h] at hE; exact hE
      rw [if_pos hf5] at hE
      have hsz : s.size = b5 := by
        by_cases h : s.size = b5
        · exact h
        · rw [if_neg h] at hE; simp at hE
      rcases t5 with ⟨rfl, -, -, g5, e5⟩ | ⟨g, -⟩
      case inr => exact absurd hf5 g
      rcases t4 with ⟨rfl, -, -, g4, e4⟩ | ⟨g, -⟩
      case inr => exact absurd rfl g
      rcases t3 with ⟨rfl, -, -, g3, e3⟩ | ⟨g, -⟩
      case inr => exact absurd rfl g
      rcases t2 with ⟨rfl, -, -, g2, e2⟩ | ⟨g, -⟩
      case inr => exact absurd rfl g
      rcases t1 with ⟨rfl, -, -, g1, e1⟩ | ⟨g, -⟩
      case inr => exact absurd rfl g
      rcases t0 with ⟨-, -, -, g0, e0⟩ | ⟨g, -⟩
      case inr => exact absurd rfl g
      have hSt : St s 0 (recE v0 v1 v2 v3 v4 v5) := by
        unfold recE
        simp only [St_append, List.length_append, ← Nat.add_assoc]
        subst e0 e1 e2 e3 e4
        exact ⟨⟨⟨⟨⟨g0, g1⟩, g2⟩, g3⟩, g4⟩, g5⟩
      have hlen : (recE v0 v1 v2 v3 v4 v5).length = s.size := by
        unfold recE
        simp only [List.length_append]
        omega
      have hw := St_whole hSt hlen (recE_byte _ _ _ _ _ _)
      rw [← hw, if_pos rfl]
      exact Or.inl ⟨v0, v1, v2, v3, v4, v5, H, hSt, hlen, rfl, rfl⟩
    · rw [if_neg hc, if_neg hc]
      refine Or.inr ⟨fun a0 a1 a2 a3 l a5 H h hl => ?_, rfl, rfl⟩
      obtain ⟨-, rfl, rfl, rfl, rfl, rfl, rfl⟩ := hno a0 a1 a2 a3 l a5 H h hl
      exact hc H.c
  · rw [if_neg hE, if_neg hE]
    exact Or.inr ⟨fun a0 a1 a2 a3 l a5 H h hl => hE (hno a0 a1 a2 a3 l a5 H h hl).1, rfl, rfl⟩
theorem same_rl : ∀ (d n k : Nat) (l : List Int) (i : Int), i = n → n + d = l.length → l.length ≤ 1000000 → d < k → sawmillref05_Same.l0 k l l i = some true
  | d, n, 0, l, i, hi, h, hl, hk => by omega
  | 0, n, k + 1, l, i, hi, h, hl, hk => by
    simp only [sawmillref05_Same.l0]
    rw [if_neg (by omega)]
  | d + 1, n, k + 1, l, i, hi, h, hl, hk => by
    simp only [sawmillref05_Same.l0]
    rw [if_pos (by omega), if_pos (by omega), if_pos (by omega), if_pos trivial, v64 (by omega) (by omega)]
    exact same_rl d (n + 1) k l (i + 1) (by omega) (by omega) hl (by omega)
theorem r_same_self (a0 a1 : Int) (a2 a3 : ByteArray) (l : List Int) (a5 : ByteArray) (hl : l.length ≤ 700) {k : Nat} (hk : 800 ≤ k) : sawmillref58_Same.f k a0 a1 a2 a3 l a5 a0 a1 a2 a3 l a5 = some true := by
  unfold sawmillref58_Same.f sawmillref05_Same.f
  rw [if_pos rfl, if_pos rfl, if_pos rfl, if_pos rfl, if_pos rfl, same_rl l.length 0 k l 0 rfl (by omega) (by omega) (by omega), Option.bind_some, if_pos rfl]
  simp
end Go.Proofs.YtbahagcidhmojaaDoor.PA
namespace Go.Proofs.YtbahagcidhmojaaDoor.PA
open Go.RowKit Go.Proofs.YtbahagcidhmojaaDoorW.PrintWords
theorem sawmilllaw58_EventDecodes.pure : ∀ (a0 : ByteArray), a0.size ≤ maxLen → ∃ k, sawmilllaw58_EventDecodes.f k a0 = some true := by
  intro s hs
  refine ⟨801, ?_⟩
  unfold sawmilllaw58_EventDecodes.f
  by_cases h : (s.size : Int) > 20000
  · rw [if_pos h, awake_ge (by omega)]; rfl
  rw [if_neg h]
  rcases dec_both s (by omega) (k := 801) (by omega) with ⟨b0, b1, b2, b3, m, b5, hO, hS, hl, hX, hY⟩ | ⟨hno, hX, hY⟩
  · rw [hX, hY, Option.bind_some, Option.bind_some]
    dsimp only
    rw [r_same_self _ _ _ _ _ _ (by have := hO.sl; omega) (by omega), Option.bind_some, if_pos rfl]
    simp only [sawmilllaw58_EventDecodes.j0]
    rw [if_neg (by simp), if_pos trivial, p_encode hO.fit (by omega), Option.bind_some, if_pos hO.c]
    dsimp only
    have hw := St_whole hS hl (recE_byte _ _ _ _ _ _)
    rw [if_pos rfl, ← hw, if_pos rfl, awake_ge (by omega)]
    rfl
  · rw [hX, hY, Option.bind_some, Option.bind_some]
    dsimp only
    rw [r_same_self _ _ _ _ _ _ (by simp) (by omega), Option.bind_some, if_pos rfl]
    simp only [sawmilllaw58_EventDecodes.j0]
    rw [if_neg (by simp), if_neg (by omega), awake_ge (by omega)]
    rfl
end Go.Proofs.YtbahagcidhmojaaDoor.PA
