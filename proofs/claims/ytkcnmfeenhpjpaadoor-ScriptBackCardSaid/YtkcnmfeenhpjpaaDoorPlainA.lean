/- Plain laws of numerals and of lines: what num.Parse and script.one return, without memory. -/
import Derived.Test.YtkcnmfeenhpjpaaDoorGivenC
import Derived.Lib.ItoaLen
set_option linter.unusedVariables false
set_option linter.unusedSimpArgs false
namespace Go.Proofs.YtkcnmfeenhpjpaaDoor
open Go.Lib

theorem parse_snoc (l : List UInt8) (c : UInt8) (v : Nat) : ∀ acc, parseUint10 acc l = .ok v → 48 ≤ c.toNat → c.toNat ≤ 57 → v < 1844674407370955161 → parseUint10 acc (l ++ [c]) = .ok (v * 10 + (c.toNat - 48)) := by
  induction l with
  | nil =>
    intro acc h h0 h1 hv
    simp only [parseUint10, NumEnd.ok.injEq] at h
    subst h
    simp only [List.nil_append, parseUint10]
    rw [if_pos ⟨h0, h1⟩, if_neg (by omega), if_neg (by omega)]
  | cons d l ih =>
    intro acc h h0 h1 hv
    simp only [parseUint10] at h
    simp only [List.cons_append, parseUint10]
    split at h
    case isFalse => cases h
    case isTrue c1 =>
      rw [if_pos c1]
      split at h
      case isTrue => cases h
      case isFalse c2 =>
        rw [if_neg c2]
        split at h
        case isTrue => cases h
        case isFalse c3 =>
          rw [if_neg c3]
          exact ih _ h h0 h1 hv

theorem digit_nat (d : Nat) (h : d < 10) : (UInt8.ofNat (48 + d)).toNat = 48 + d := by
  rw [UInt8.toNat_ofNat']; omega

theorem parse_digits (u : Nat) : u < 10000000000000000000 → parseUint10 0 (decDigits u) = .ok u := by
  induction u using Nat.strongRecOn with
  | _ u ih =>
    intro hu
    rw [decDigits]
    split
    case isTrue h =>
      simp only [parseUint10]
      rw [digit_nat u h, if_pos (by omega), if_neg (by omega), if_neg (by omega)]
      congr 1; omega
    case isFalse h =>
      have h2 := parse_snoc (decDigits (u / 10)) (UInt8.ofNat (48 + u % 10)) (u / 10) 0 (ih (u / 10) (by omega) (by omega)) (by rw [digit_nat _ (by omega)]; omega) (by rw [digit_nat _ (by omega)]; omega) (by omega)
      rw [h2, digit_nat _ (by omega)]
      congr 1; omega

theorem decDigits_all (u : Nat) : ∀ c ∈ decDigits u, 48 ≤ c.toNat ∧ c.toNat ≤ 57 := by
  induction u using Nat.strongRecOn with
  | _ u ih =>
    rw [decDigits]
    split
    case isTrue h =>
      intro c hc
      rw [List.mem_singleton] at hc
      subst hc
      rw [digit_nat u h]; omega
    case isFalse h =>
      intro c hc
      rw [List.mem_append, List.mem_singleton] at hc
      rcases hc with hc | hc
      · exact ih (u / 10) (by omega) c hc
      · subst hc
        rw [digit_nat _ (by omega)]; omega

theorem decDigits_ne (u : Nat) : decDigits u ≠ [] := by
  rw [decDigits]; split <;> simp

theorem itoa_all (n : Int) : ∀ c ∈ itoa n, c = 45 ∨ (48 ≤ c.toNat ∧ c.toNat ≤ 57) := by
  intro c hc
  unfold itoa at hc
  split at hc
  · rw [List.mem_cons] at hc
    rcases hc with hc | hc
    · exact .inl hc
    · exact .inr (decDigits_all _ c hc)
  · exact .inr (decDigits_all _ c hc)

theorem atoi_itoa (n : Int) (h0 : -1000000000000000 ≤ n) (h1 : n ≤ 1000000000000000) : atoiAll (itoa n) = .ok n := by
  by_cases hn : n < 0
  · obtain ⟨u, rfl⟩ : ∃ u : Nat, n = -(u : Int) := ⟨n.natAbs, by omega⟩
    rw [itoa_neg u (by omega)]
    unfold atoiAll
    simp only
    rw [if_pos (by decide)]
    unfold parseMag
    rw [if_neg (decDigits_ne u), parse_digits u (by omega)]
    simp only
    rw [if_neg (by intro h; exact h.1 (by decide)), if_neg (by intro h; omega), if_pos (by decide)]
  · obtain ⟨u, rfl⟩ : ∃ u : Nat, n = u := ⟨n.toNat, by omega⟩
    rw [itoa_nonneg]
    cases hd : decDigits u with
    | nil => exact absurd hd (decDigits_ne u)
    | cons c r =>
      have hc := decDigits_all u c (by rw [hd]; exact List.mem_cons_self ..)
      unfold atoiAll
      simp only
      rw [if_neg (by omega), ← hd]
      unfold parseMag
      rw [if_neg (decDigits_ne u), parse_digits u (by omega)]
      simp only
      rw [if_neg (by omega), if_neg (by omega), if_neg (by omega)]

/-- A text as bytes. -/
abbrev B (l : List UInt8) : ByteArray := ⟨l.toArray⟩
theorem B_data (s : ByteArray) : B s.data.toList = s := rfl
theorem B_size (l : List UInt8) : (B l).size = l.length := by
  show l.toArray.size = l.length
  simp

theorem num_itoa (n : Int) (h0 : -1000000000000000 ≤ n) (h1 : n ≤ 1000000000000000) : num_Parse.f (B (itoa n)) = some (n, true) := by
  have hl := itoa_length_le n (by omega) (by omega)
  unfold num_Parse.f
  rw [if_pos (by rw [B_size]; omega)]
  rw [atoi_itoa n h0 h1]
  simp only
  rw [if_pos h0, if_pos h1, if_pos trivial]

theorem num_total (s : ByteArray) (hs : s.size ≤ 281474976710656) : ∃ n b, num_Parse.f s = some (n, b) ∧ (b = false → n = 0) ∧ (b = true → -1000000000000000 ≤ n ∧ n ≤ 1000000000000000 ∧ itoa n = s.data.toList) := by
  unfold num_Parse.f
  rw [if_pos hs]
  split
  case h_1 v hv =>
    split
    case isFalse => exact ⟨0, false, rfl, (fun _ => rfl), (fun h => absurd h (by decide))⟩
    case isTrue h0 =>
      split
      case isFalse => exact ⟨0, false, rfl, (fun _ => rfl), (fun h => absurd h (by decide))⟩
      case isTrue h1 =>
        split
        case isFalse => exact ⟨0, false, rfl, (fun _ => rfl), (fun h => absurd h (by decide))⟩
        case isTrue h2 => exact ⟨v, true, rfl, (fun h => absurd h (by decide)), (fun _ => ⟨h0, h1, h2⟩)⟩
  case h_2 => exact ⟨0, false, rfl, (fun _ => rfl), (fun h => absurd h (by decide))⟩

/-! Where a text is cut. -/
theorem index_one (l : List UInt8) (c : UInt8) : index l [c] = indexByte l c := by
  induction l with
  | nil => rfl
  | cons b l ih =>
    simp only [index, indexByte, ih, List.isPrefixOf, Bool.and_true]
    by_cases h : c = b
    · subst h; simp
    · have h' : ¬ b = c := fun e => h e.symm
      simp [h, h']

theorem index_split (s sub : List UInt8) (hs : sub ≠ []) : ∀ i : Nat, index s sub = i → s = s.take i ++ sub ++ s.drop (i + sub.length) ∧ i + sub.length ≤ s.length := by
  induction s with
  | nil =>
    intro i h
    simp only [index] at h
    rw [if_neg (by simpa using hs)] at h
    omega
  | cons b l ih =>
    intro i h
    simp only [index] at h
    split at h
    case isTrue hp =>
      obtain rfl : i = 0 := by omega
      obtain ⟨r, hr⟩ := List.isPrefixOf_iff_prefix.1 hp
      rw [← hr]
      simp
    case isFalse =>
      split at h
      case isTrue => omega
      case isFalse h1 =>
        have hge := index_ge l sub
        have hne : index l sub ≠ -1 := by simpa using h1
        obtain ⟨j, hj⟩ : ∃ j : Nat, index l sub = j := ⟨(index l sub).toNat, by omega⟩
        obtain rfl : i = j + 1 := by omega
        obtain ⟨h2, h3⟩ := ih j hj
        constructor
        · rw [List.take_succ_cons, show j + 1 + sub.length = (j + sub.length) + 1 by omega, List.drop_succ_cons, List.cons_append, List.cons_append, ← h2]
        · simp only [List.length_cons]; omega

theorem cut_hit (s sep : List UInt8) (hs : sep ≠ []) (h : (cut s sep).2.2 = true) : s = (cut s sep).1 ++ sep ++ (cut s sep).2.1 := by
  unfold cut at h ⊢
  split at h
  case isFalse => cases h
  case isTrue h0 =>
    rw [if_pos h0]
    exact (index_split s sep hs _ (by omega)).1

theorem cut_byte (t r : List UInt8) (c : UInt8) (h : c ∉ t) : cut (t ++ c :: r) [c] = (t, r, true) := by
  have hi : ∀ t : List UInt8, c ∉ t → indexByte (t ++ c :: r) c = t.length := by
    intro t
    induction t with
    | nil => intro _; simp [indexByte]
    | cons b l ih =>
      intro hm
      rw [List.mem_cons] at hm
      have h1 : ¬ b = c := fun e => hm (.inl e.symm)
      have h2 := ih (fun e => hm (.inr e))
      simp only [List.cons_append, indexByte, h2]
      rw [if_neg (by simpa using h1), if_neg (by simp)]
      simp
  unfold cut
  rw [index_one, hi t h, if_pos (by omega)]
  simp

theorem cut_none (s : List UInt8) (c : UInt8) (h : c ∉ s) : cut s [c] = (s, [], false) := by
  have hi : indexByte s c = -1 := by
    induction s with
    | nil => rfl
    | cons b l ih =>
      rw [List.mem_cons] at h
      have h1 : ¬ b = c := fun e => h (.inl e.symm)
      simp only [indexByte, ih (fun e => h (.inr e))]
      rw [if_neg (by simpa using h1)]
      rfl
  unfold cut
  rw [index_one, hi, if_neg (by decide)]

theorem index_of_mem (s : List UInt8) (c : UInt8) : (0 ≤ indexByte s c) ↔ c ∈ s := by
  induction s with
  | nil => simp [indexByte]
  | cons b l ih =>
    have hg := indexByte_ge l c
    simp only [indexByte, List.mem_cons]
    by_cases h1 : b = c
    · subst h1; simp
    · rw [if_neg (by simpa using h1)]
      by_cases h2 : indexByte l c = -1
      · rw [if_pos (by simpa using h2)]
        have : c ∉ l := fun e => by have := ih.2 e; omega
        simp [this]
        exact fun e => h1 e.symm
      · rw [if_neg (by simpa using h2)]
        have : c ∈ l := ih.1 (by omega)
        simp [this]; omega
end Go.Proofs.YtkcnmfeenhpjpaaDoor
