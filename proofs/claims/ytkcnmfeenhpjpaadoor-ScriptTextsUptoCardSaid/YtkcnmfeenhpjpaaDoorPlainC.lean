/- Plain laws of script.Print and script.Parse: each line is an act and each act is a line. -/
import Derived.Test.YtkcnmfeenhpjpaaDoorGivenC
import Derived.Lib.ItoaLen
import Derived.Test.YtkcnmfeenhpjpaaDoorTx6
import Derived.Test.YtkcnmfeenhpjpaaDoorTx22
import Derived.Test.YtkcnmfeenhpjpaaDoorTx3
set_option linter.unusedVariables false
set_option linter.unusedSimpArgs false
namespace Go.Proofs.YtkcnmfeenhpjpaaDoor
open Go.Lib
theorem parse_snoc (l : List UInt8) (c : UInt8) (v : Nat) : ∀ acc, parseUint10 acc l = .ok v → 48 ≤ c.toNat → c.toNat ≤ 57 → v < 1844674407370955161 → parseUint10 acc (l ++ [c]) = .ok (v * 10 + (c.toNat - 48)) := by
  induction l with
  | nil =>
    intro acc h h0 h1 hv
    simp only [parseUint10, NumEnd.ok.injEq] at h
    subst h
    simp only [List.nil_append, parseUint10]
    rw [if_pos ⟨h0, h1⟩, if_neg (by omega), if_neg (by omega)]
  | cons d l ih =>
    intro acc h h0 h1 hv
    simp only [parseUint10] at h
    simp only [List.cons_append, parseUint10]
    split at h
    case isFalse => cases h
    case isTrue c1 =>
      rw [if_pos c1]
      split at h
      case isTrue => cases h
      case isFalse c2 =>
        rw [if_neg c2]
        split at h
        case isTrue => cases h
        case isFalse c3 =>
          rw [if_neg c3]
          exact ih _ h h0 h1 hv
theorem digit_nat (d : Nat) (h : d < 10) : (UInt8.ofNat (48 + d)).toNat = 48 + d := by
  rw [UInt8.toNat_ofNat']; omega
theorem parse_digits (u : Nat) : u < 10000000000000000000 → parseUint10 0 (decDigits u) = .ok u := by
  induction u using Nat.strongRecOn with
  | _ u ih =>
    intro hu
    rw [decDigits]
    split
    case isTrue h =>
      simp only [parseUint10]
      rw [digit_nat u h, if_pos (by omega), if_neg (by omega), if_neg (by omega)]
      congr 1; omega
    case isFalse h =>
      have h2 := parse_snoc (decDigits (u / 10)) (UInt8.ofNat (48 + u % 10)) (u / 10) 0 (ih (u / 10) (by omega) (by omega)) (by rw [digit_nat _ (by omega)]; omega) (by rw [digit_nat _ (by omega)]; omega) (by omega)
      rw [h2, digit_nat _ (by omega)]
      congr 1; omega
theorem decDigits_all (u : Nat) : ∀ c ∈ decDigits u, 48 ≤ c.toNat ∧ c.toNat ≤ 57 := by
  induction u using Nat.strongRecOn with
  | _ u ih =>
    rw [decDigits]
    split
    case isTrue h =>
      intro c hc
      rw [List.mem_singleton] at hc
      subst hc
      rw [digit_nat u h]; omega
    case isFalse h =>
      intro c hc
      rw [List.mem_append, List.mem_singleton] at hc
      rcases hc with hc | hc
      · exact ih (u / 10) (by omega) c hc
      · subst hc
        rw [digit_nat _ (by omega)]; omega
theorem decDigits_ne (u : Nat) : decDigits u ≠ [] := by
  rw [decDigits]; split <;> simp
theorem itoa_all (n : Int) : ∀ c ∈ itoa n, c = 45 ∨ (48 ≤ c.toNat ∧ c.toNat ≤ 57) := by
  intro c hc
  unfold itoa at hc
  split at hc
  · rw [List.mem_cons] at hc
    rcases hc with hc | hc
    · exact .inl hc
    · exact .inr (decDigits_all _ c hc)
  · exact .inr (decDigits_all _ c hc)
theorem atoi_itoa (n : Int) (h0 : -1000000000000000 ≤ n) (h1 : n ≤ 1000000000000000) : atoiAll (itoa n) = .ok n := by
  by_cases hn : n < 0
  · obtain ⟨u, rfl⟩ : ∃ u : Nat, n = -(u : Int) := ⟨n.natAbs, by omega⟩
    rw [itoa_neg u (by omega)]
    unfold atoiAll
    simp only
    rw [if_pos (by decide)]
    unfold parseMag
    rw [if_neg (decDigits_ne u), parse_digits u (by omega)]
    simp only
    rw [if_neg (by intro h; exact h.1 (by decide)), if_neg (by intro h; omega), if_pos (by decide)]
  · obtain ⟨u, rfl⟩ : ∃ u : Nat, n = u := ⟨n.toNat, by omega⟩
    rw [itoa_nonneg]
    cases hd : decDigits u with
    | nil => exact absurd hd (decDigits_ne u)
    | cons c r =>
      have hc := decDigits_all u c (by rw [hd]; exact List.mem_cons_self ..)
      unfold atoiAll
      simp only
      rw [if_neg (by omega), ← hd]
      unfold parseMag
      rw [if_neg (decDigits_ne u), parse_digits u (by omega)]
      simp only
      rw [if_neg (by omega), if_neg (by omega), if_neg (by omega)]
/-- A text as bytes. -/
abbrev B (l : List UInt8) : ByteArray := ⟨l.toArray⟩
theorem B_data (s : ByteArray) : B s.data.toList = s := rfl
theorem B_size (l : List UInt8) : (B l).size = l.length := by
  show l.toArray.size = l.length
  simp
theorem num_itoa (n : Int) (h0 : -1000000000000000 ≤ n) (h1 : n ≤ 1000000000000000) : num_Parse.f (B (itoa n)) = some (n, true) := by
  have hl := itoa_length_le n (by omega) (by omega)
  unfold num_Parse.f
  rw [if_pos (by rw [B_size]; omega)]
  rw [atoi_itoa n h0 h1]
  simp only
  rw [if_pos h0, if_pos h1, if_pos trivial]
theorem num_total (s : ByteArray) (hs : s.size ≤ 281474976710656) : ∃ n b, num_Parse.f s = some (n, b) ∧ (b = false → n = 0) ∧ (b = true → -1000000000000000 ≤ n ∧ n ≤ 1000000000000000 ∧ itoa n = s.data.toList) := by
  unfold num_Parse.f
  rw [if_pos hs]
  split
  case h_1 v hv =>
    split
    case isFalse => exact ⟨0, false, rfl, (fun _ => rfl), (fun h => absurd h (by decide))⟩
    case isTrue h0 =>
      split
      case isFalse => exact ⟨0, false, rfl, (fun _ => rfl), (fun h => absurd h (by decide))⟩
      case isTrue h1 =>
        split
        case isFalse => exact ⟨0, false, rfl, (fun _ => rfl), (fun h => absurd h (by decide))⟩
        case isTrue h2 => exact ⟨v, true, rfl, (fun h => absurd h (by decide)), (fun _ => ⟨h0, h1, h2⟩)⟩
  case h_2 => exact ⟨0, false, rfl, (fun _ => rfl), (fun h => absurd h (by decide))⟩
/-! Where a text is cut. -/
theorem index_one (l : List UInt8) (c : UInt8) : index l [c] = indexByte l c := by
  induction l with
  | nil => rfl
  | cons b l ih =>
    simp only [index, indexByte, ih, List.isPrefixOf, Bool.and_true]
    by_cases h : c = b
    · subst h; simp
    · have h' : ¬ b = c := fun e => h e.symm
      simp [h, h']
theorem index_split (s sub : List UInt8) (hs : sub ≠ []) : ∀ i : Nat, index s sub = i → s = s.take i ++ sub ++ s.drop (i + sub.length) ∧ i + sub.length ≤ s.length := by
  induction s with
  | nil =>
    intro i h
    simp only [index] at h
    rw [if_neg (by simpa using hs)] at h
    omega
  | cons b l ih =>
    intro i h
    simp only [index] at h
    split at h
    case isTrue hp =>
      obtain rfl : i = 0 := by omega
      obtain ⟨r, hr⟩ := List.isPrefixOf_iff_prefix.1 hp
      rw [← hr]
      simp
    case isFalse =>
      split at h
      case isTrue => omega
      case isFalse h1 =>
        have hge := index_ge l sub
        have hne : index l sub ≠ -1 := by simpa using h1
        obtain ⟨j, hj⟩ : ∃ j : Nat, index l sub = j := ⟨(index l sub).toNat, by omega⟩
        obtain rfl : i = j + 1 := by omega
        obtain ⟨h2, h3⟩ := ih j hj
        constructor
        · rw [List.take_succ_cons, show j + 1 + sub.length = (j + sub.length) + 1 by omega, List.drop_succ_cons, List.cons_append, List.cons_append, ← h2]
        · simp only [List.length_cons]; omega
theorem cut_hit (s sep : List UInt8) (hs : sep ≠ []) (h : (cut s sep).2.2 = true) : s = (cut s sep).1 ++ sep ++ (cut s sep).2.1 := by
  unfold cut at h ⊢
  split at h
  case isFalse => cases h
  case isTrue h0 =>
    rw [if_pos h0]
    exact (index_split s sep hs _ (by omega)).1
theorem cut_byte (t r : List UInt8) (c : UInt8) (h : c ∉ t) : cut (t ++ c :: r) [c] = (t, r, true) := by
  have hi : ∀ t : List UInt8, c ∉ t → indexByte (t ++ c :: r) c = t.length := by
    intro t
    induction t with
    | nil => intro _; simp [indexByte]
    | cons b l ih =>
      intro hm
      rw [List.mem_cons] at hm
      have h1 : ¬ b = c := fun e => hm (.inl e.symm)
      have h2 := ih (fun e => hm (.inr e))
      simp only [List.cons_append, indexByte, h2]
      rw [if_neg (by simpa using h1), if_neg (by simp)]
      simp
  unfold cut
  rw [index_one, hi t h, if_pos (by omega)]
  simp
theorem cut_none (s : List UInt8) (c : UInt8) (h : c ∉ s) : cut s [c] = (s, [], false) := by
  have hi : indexByte s c = -1 := by
    induction s with
    | nil => rfl
    | cons b l ih =>
      rw [List.mem_cons] at h
      have h1 : ¬ b = c := fun e => h (.inl e.symm)
      simp only [indexByte, ih (fun e => h (.inr e))]
      rw [if_neg (by simpa using h1)]
      rfl
  unfold cut
  rw [index_one, hi, if_neg (by decide)]
theorem index_of_mem (s : List UInt8) (c : UInt8) : (0 ≤ indexByte s c) ↔ c ∈ s := by
  induction s with
  | nil => simp [indexByte]
  | cons b l ih =>
    have hg := indexByte_ge l c
    simp only [indexByte, List.mem_cons]
    by_cases h1 : b = c
    · subst h1; simp
    · rw [if_neg (by simpa using h1)]
      by_cases h2 : indexByte l c = -1
      · rw [if_pos (by simpa using h2)]
        have : c ∉ l := fun e => by have := ih.2 e; omega
        simp [this]
        exact fun e => h1 e.symm
      · rw [if_neg (by simpa using h2)]
        have : c ∈ l := ih.1 (by omega)
        simp [this]; omega
end Go.Proofs.YtkcnmfeenhpjpaaDoor
set_option linter.unusedVariables false
set_option linter.unusedSimpArgs false
namespace Go.Proofs.YtkcnmfeenhpjpaaDoor
open Go.Lib
/-- May an act be? -/
def mayB (k who n : Int) (t : List UInt8) : Bool :=
  if k = 1 then decide (0 ≤ who) && decide (who < 4) && decide ((10 : UInt8) ∉ t) && decide (n = 0)
  else if k = 2 then decide (-1 ≤ n) && decide (n ≤ 65536) && decide (who = 0) && decide (t = [])
  else if k = 4 then decide (0 ≤ n) && decide (n ≤ 2000) && decide (who = 0) && decide (t = [])
  else if k = 3 ∨ k = 5 then decide (who = 0) && decide (n = 0) && decide (t = [])
  else false
theorem toList_nil (t : ByteArray) : (t.toList == ([] : List UInt8)) = decide (t.data.toList = []) := by
  rw [toList_data]
  cases t.data.toList <;> rfl
theorem may_eq (k who n : Int) (t : ByteArray) : script_may.f k who n t = some (mayB k who n t.data.toList) := by
  unfold script_may.f mayB
  by_cases c1 : k = 1
  · rw [if_pos c1, if_pos c1]
    by_cases h0 : who ≥ 0
    · rw [if_pos h0]
      by_cases h1 : who < 4
      · rw [if_pos h1]
        unfold strings_Contains.f
        show (some (decide (0 ≤ indexByte t.data.toList 10))).bind _ = _
        rw [Option.bind_some]
        by_cases h2 : (10 : UInt8) ∈ t.data.toList
        · rw [if_pos (by simpa using (index_of_mem _ _).2 h2)]
          simp [h2]
        · rw [if_neg (by rw [decide_eq_true_eq]; intro h; exact h2 ((index_of_mem _ _).1 h))]
          have e : (n == 0) = decide (n = 0) := by by_cases h : n = 0 <;> simp [h]
          simp [h2, h1, e]
          intro _; omega
      · rw [if_neg h1]; simp [h1]
    · rw [if_neg h0]; simp; omega
  rw [if_neg c1, if_neg c1]
  by_cases c2 : k = 2
  · rw [if_pos c2, if_pos c2]
    by_cases h0 : n ≥ -1
    · rw [if_pos h0]
      by_cases h1 : n ≤ 65536
      · rw [if_pos h1, toList_nil]
        have e : (who == 0) = decide (who = 0) := by by_cases h : who = 0 <;> simp [h]
        have h0' : -1 ≤ n := h0
        simp [h0', h1, e]
      · rw [if_neg h1]; simp [h1]
    · rw [if_neg h0]
      have h0' : ¬ -1 ≤ n := h0
      simp [h0']
  rw [if_neg c2, if_neg c2]
  by_cases c4 : k = 4
  · rw [if_pos c4, if_pos c4]
    by_cases h0 : n ≥ 0
    · rw [if_pos h0]
      by_cases h1 : n ≤ 2000
      · rw [if_pos h1, toList_nil]
        have e : (who == 0) = decide (who = 0) := by by_cases h : who = 0 <;> simp [h]
        have h0' : 0 ≤ n := h0
        simp [h0', h1, e]
      · rw [if_neg h1]; simp [h1]
    · rw [if_neg h0]
      have h0' : ¬ 0 ≤ n := h0
      simp [h0']
  rw [if_neg c4, if_neg c4]
  have e : (who == 0) = decide (who = 0) := by by_cases h : who = 0 <;> simp [h]
  have e2 : (n == 0) = decide (n = 0) := by by_cases h : n = 0 <;> simp [h]
  by_cases c3 : k = 3
  · rw [if_pos c3, if_pos (.inl c3), toList_nil, e, e2, Bool.and_assoc]
  rw [if_neg c3]
  by_cases c5 : k = 5
  · rw [if_pos c5, if_pos (.inr c5), toList_nil, e, e2, Bool.and_assoc]
  rw [if_neg c5, if_neg (fun h => h.elim c3 c5)]
/-- An act's line. -/
def lineL (k who n : Int) (t : List UInt8) : List UInt8 :=
  if k = 1 then itoa who ++ [58, 32] ++ t
  else if k = 2 then sPower.data.toList ++ itoa n
  else if k = 4 then sFlush.data.toList ++ itoa n
  else if k = 3 then [111, 112, 101, 110] else [99, 104, 101, 99, 107, 112, 111, 105, 110, 116]
theorem itoa_small (who : Int) (h0 : 0 ≤ who) (h1 : who < 4) : ∃ c : UInt8, itoa who = [c] ∧ c ≠ 111 ∧ c ≠ 99 ∧ c ≠ 112 ∧ c ≠ 102 ∧ c ≠ 58 ∧ c ≠ 10 := by
  obtain ⟨u, rfl⟩ : ∃ u : Nat, who = u := ⟨who.toNat, by omega⟩
  refine ⟨UInt8.ofNat (48 + u), by rw [itoa_nonneg, decDigits_one (by omega)], ?_⟩
  have hu : u < 4 := by omega
  match u, hu with
  | 0, _ => decide
  | 1, _ => decide
  | 2, _ => decide
  | 3, _ => decide
theorem line_no10 (k who n : Int) (t : List UInt8) (h : mayB k who n t = true) : (10 : UInt8) ∉ lineL k who n t := by
  have hi : ∀ n, (10 : UInt8) ∉ itoa n := fun n hm => by
    rcases itoa_all n _ hm with h | h
    · exact absurd h (by decide)
    · exact absurd h.1 (by decide)
  unfold mayB at h
  unfold lineL
  split at h
  case isTrue c1 =>
    rw [if_pos c1]
    simp only [Bool.and_eq_true, decide_eq_true_eq] at h
    simp only [List.mem_append, not_or]
    exact ⟨⟨hi _, by decide⟩, h.1.2⟩
  case isFalse c1 =>
    rw [if_neg c1]
    split
    · simp only [List.mem_append, not_or]; exact ⟨by decide, hi _⟩
    · split
      · simp only [List.mem_append, not_or]; exact ⟨by decide, hi _⟩
      · split <;> decide
theorem line_length (k who n : Int) (t : List UInt8) (h : mayB k who n t = true) : (lineL k who n t).length ≤ t.length + 60 := by
  unfold mayB at h
  unfold lineL
  split at h
  case isTrue c1 =>
    rw [if_pos c1]
    simp only [Bool.and_eq_true, decide_eq_true_eq] at h
    have := itoa_length_le who (by omega) (by omega)
    simp only [List.length_append, List.length_cons, List.length_nil]; omega
  case isFalse c1 =>
    rw [if_neg c1]
    split at h
    case isTrue c2 =>
      rw [if_pos c2]
      simp only [Bool.and_eq_true, decide_eq_true_eq] at h
      have := itoa_length_le n (by omega) (by omega)
      have e : sPower.data.toList.length = 6 := rfl
      simp only [List.length_append, e]; omega
    case isFalse c2 =>
      rw [if_neg c2]
      split at h
      case isTrue c4 =>
        rw [if_pos c4]
        simp only [Bool.and_eq_true, decide_eq_true_eq] at h
        have := itoa_length_le n (by omega) (by omega)
        have e : sFlush.data.toList.length = 6 := rfl
        simp only [List.length_append, e]; omega
      case isFalse c4 =>
        rw [if_neg c4]
        split <;> simp <;> omega
theorem hasPrefix_app (p l : List UInt8) : hasPrefix (p ++ l) p = true := by
  unfold hasPrefix
  rw [List.isPrefixOf_iff_prefix]
  exact List.prefix_append p l
theorem trim_app (p l : List UInt8) : trimPrefix (p ++ l) p = l := by
  unfold trimPrefix
  rw [if_pos (hasPrefix_app p l)]
  simp
theorem hasPrefix_cons_ne (c d : UInt8) (l p : List UInt8) (h : c ≠ d) : hasPrefix (c :: l) (d :: p) = false := by
  unfold hasPrefix
  have h' : ¬ d = c := fun e => h e.symm
  simp [List.isPrefixOf, h']
/-- The line of an act that may be is read as that act. -/
theorem one_of_line (k who n : Int) (t : List UInt8) (h : mayB k who n t = true) (hs : t.length ≤ 4000000000) : script_one.f (B (lineL k who n t)) = some (k, who, n, B t, 0) := by
  have hlen := line_length k who n t h
  have hB : (B (lineL k who n t)).toList = lineL k who n t := by rw [toList_data]
  have hcut : ∃ c, strings_Cut.f (B (lineL k who n t)) ⟨#[58, 32]⟩ = some c ∧ c = (B (cut (lineL k who n t) [58, 32]).1, B (cut (lineL k who n t) [58, 32]).2.1, (cut (lineL k who n t) [58, 32]).2.2) := by
    refine ⟨_, ?_, rfl⟩
    unfold strings_Cut.f
    rw [if_pos (by rw [B_size]; omega)]
  obtain ⟨c, hc, hcc⟩ := hcut
  unfold script_one.f
  rw [hB, hc, Option.bind_some]
  clear hc hB
  have h2 := h
  unfold mayB at h2
  split at h2
  case isTrue c1 =>
    subst c1
    simp only [Bool.and_eq_true, decide_eq_true_eq] at h2
    obtain ⟨⟨⟨w0, w1⟩, ht⟩, rfl⟩ := h2
    obtain ⟨d, hd, d1, d2, d3, d4, d5, d6⟩ := itoa_small who w0 w1
    have hl : lineL 1 who 0 t = d :: 58 :: 32 :: t := by unfold lineL; rw [if_pos rfl, hd]; rfl
    have hcd : cut (d :: 58 :: 32 :: t) [58, 32] = ([d], t, true) := by
      have hi : index (d :: 58 :: 32 :: t) [58, 32] = 1 := by
        rw [index, if_neg (by simp [List.isPrefixOf])]
        rfl
      unfold cut
      rw [hi, if_pos (by decide)]
      rfl
    rw [hl] at hcc
    rw [hl, if_neg (fun e => d1 (List.cons.inj e).1), if_neg (fun e => d2 (List.cons.inj e).1)]
    rw [if_neg (by rw [show (B (d :: 58 :: 32 :: t)).data.toList = d :: 58 :: 32 :: t from rfl, show sPower.data.toList = 112 :: [111, 119, 101, 114, 32] from rfl, hasPrefix_cons_ne _ _ _ _ d3]; decide)]
    rw [if_neg (by rw [show (B (d :: 58 :: 32 :: t)).data.toList = d :: 58 :: 32 :: t from rfl, show sFlush.data.toList = 102 :: [108, 117, 115, 104, 32] from rfl, hasPrefix_cons_ne _ _ _ _ d4]; decide)]
    rw [hcc, hcd]
    unfold script_one.g
    have hn := num_itoa who (by omega) (by omega)
    rw [hd] at hn
    simp only [hn, Option.bind_some, if_true, may_eq]
    rw [if_pos h]
  case isFalse c1 =>
    split at h2
    case isTrue c2 =>
      subst c2
      simp only [Bool.and_eq_true, decide_eq_true_eq] at h2
      obtain ⟨⟨⟨n0, n1⟩, rfl⟩, rfl⟩ := h2
      have hl : lineL 2 0 n [] = sPower.data.toList ++ itoa n := by unfold lineL; rw [if_neg (by decide), if_pos rfl]
      have hne : ∀ (d : UInt8) r, d ≠ 112 → sPower.data.toList ++ itoa n ≠ d :: r := fun d r hd e => hd (List.cons.inj e).1.symm
      rw [hl, if_neg (hne _ _ (by decide)), if_neg (hne _ _ (by decide))]
      rw [show (B (sPower.data.toList ++ itoa n)).data.toList = sPower.data.toList ++ itoa n from rfl, if_pos (hasPrefix_app _ _), trim_app]
      unfold script_one.g
      have hn := num_itoa n (by omega) (by omega)
      simp only [hn, Option.bind_some, if_true, may_eq]
      rw [if_neg (by decide)]
      rw [if_pos h]
    case isFalse c2 =>
      split at h2
      case isTrue c4 =>
        subst c4
        simp only [Bool.and_eq_true, decide_eq_true_eq] at h2
        obtain ⟨⟨⟨n0, n1⟩, rfl⟩, rfl⟩ := h2
        have hl : lineL 4 0 n [] = sFlush.data.toList ++ itoa n := by unfold lineL; rw [if_neg (by decide), if_neg (by decide), if_pos rfl]
        have hne : ∀ (d : UInt8) r, d ≠ 102 → sFlush.data.toList ++ itoa n ≠ d :: r := fun d r hd e => hd (List.cons.inj e).1.symm
        rw [hl, if_neg (hne _ _ (by decide)), if_neg (hne _ _ (by decide))]
        rw [show (B (sFlush.data.toList ++ itoa n)).data.toList = sFlush.data.toList ++ itoa n from rfl]
        rw [if_neg (by rw [show sFlush.data.toList ++ itoa n = 102 :: ([108, 117, 115, 104, 32] ++ itoa n) from rfl, show sPower.data.toList = 112 :: [111, 119, 101, 114, 32] from rfl, hasPrefix_cons_ne _ _ _ _ (by decide)]; decide)]
        rw [if_pos (hasPrefix_app _ _), trim_app]
        unfold script_one.g
        have hn := num_itoa n (by omega) (by omega)
        simp only [hn, Option.bind_some, if_true, may_eq]
        rw [if_neg (by decide)]
        rw [if_pos h]
      case isFalse c4 =>
        split at h2
        case isFalse => cases h2
        case isTrue c35 =>
          simp only [Bool.and_eq_true, decide_eq_true_eq] at h2
          obtain ⟨⟨rfl, rfl⟩, rfl⟩ := h2
          rcases c35 with rfl | rfl
          · rw [show lineL 3 0 0 [] = [111, 112, 101, 110] from rfl, if_pos rfl]
          · rw [show lineL 5 0 0 [] = [99, 104, 101, 99, 107, 112, 111, 105, 110, 116] from rfl, if_neg (by decide), if_pos rfl]
theorem hasPrefix_split (s p : List UInt8) (h : hasPrefix s p = true) : s = p ++ trimPrefix s p := by
  unfold trimPrefix
  rw [if_pos h]
  unfold hasPrefix at h
  obtain ⟨r, hr⟩ := List.isPrefixOf_iff_prefix.1 h
  rw [← hr]; simp
theorem g_total (kind : Int) (hk : kind = 1 ∨ kind = 2 ∨ kind = 4) (head rest : ByteArray) (ok : Bool) (hs : head.size ≤ 281474976710656) :
    ∃ k w n x e, script_one.g kind head rest ok = some (k, w, n, x, e) ∧ (e = 0 → ok = true ∧ k = kind ∧ mayB k w n x.data.toList = true ∧ (kind = 1 → itoa w = head.data.toList ∧ x = rest ∧ n = 0) ∧ (kind ≠ 1 → itoa n = head.data.toList ∧ w = 0 ∧ x = ⟨#[]⟩)) := by
  obtain ⟨m, b, hm, _, hb⟩ := num_total head hs
  unfold script_one.g
  rw [hm, Option.bind_some]
  cases ok with
  | false => exact ⟨0, 0, 0, ⟨#[]⟩, 2, rfl, fun e => absurd e (by decide)⟩
  | true =>
    simp only [if_true]
    cases b with
    | false => exact ⟨0, 0, 0, ⟨#[]⟩, 2, rfl, fun e => absurd e (by decide)⟩
    | true =>
      simp only [if_true]
      obtain ⟨_, _, hi⟩ := hb rfl
      by_cases hk1 : kind = 1
      · subst hk1
        rw [if_pos rfl, may_eq, Option.bind_some]
        cases hq : mayB 1 m 0 rest.data.toList with
        | false => exact ⟨0, 0, 0, ⟨#[]⟩, 1, rfl, fun e => absurd e (by decide)⟩
        | true => exact ⟨1, m, 0, rest, 0, rfl, fun _ => ⟨trivial, rfl, hq, fun _ => ⟨hi, rfl, rfl⟩, fun h => absurd rfl h⟩⟩
      · rw [if_neg hk1, may_eq, Option.bind_some]
        cases hq : mayB kind 0 m (⟨#[]⟩ : ByteArray).data.toList with
        | false => exact ⟨0, 0, 0, ⟨#[]⟩, 1, rfl, fun e => absurd e (by decide)⟩
        | true => exact ⟨kind, 0, m, ⟨#[]⟩, 0, rfl, fun _ => ⟨trivial, rfl, hq, fun h => absurd h hk1, fun _ => ⟨hi, rfl, rfl⟩⟩⟩
/-- What is read from a line without an error is an act that may be, and the line is its line. -/
theorem one_total (s : ByteArray) (hs : s.size ≤ 4000000000) :
    ∃ k w n x e, script_one.f s = some (k, w, n, x, e) ∧ (e = 0 → mayB k w n x.data.toList = true ∧ lineL k w n x.data.toList = s.data.toList) := by
  unfold script_one.f
  by_cases c1 : s.toList = ([111, 112, 101, 110] : List UInt8)
  · rw [if_pos c1]
    exact ⟨3, 0, 0, ⟨#[]⟩, 0, rfl, fun _ => ⟨rfl, by rw [← toList_data s, c1]; rfl⟩⟩
  rw [if_neg c1]
  by_cases c2 : s.toList = ([99, 104, 101, 99, 107, 112, 111, 105, 110, 116] : List UInt8)
  · rw [if_pos c2]
    exact ⟨5, 0, 0, ⟨#[]⟩, 0, rfl, fun _ => ⟨rfl, by rw [← toList_data s, c2]; rfl⟩⟩
  rw [if_neg c2]
  unfold strings_Cut.f
  rw [if_pos (by omega), Option.bind_some]
  have hsz : s.data.toList.length = s.size := by rw [Array.length_toList]; rfl
  by_cases p : hasPrefix s.data.toList sPower.data.toList = true
  · rw [if_pos p]
    have hp := hasPrefix_split _ _ p
    have hl : (B (trimPrefix s.data.toList sPower.data.toList)).size ≤ 281474976710656 := by
      rw [B_size]
      have := congrArg List.length hp
      rw [List.length_append] at this
      omega
    obtain ⟨k, w, n, x, e, he, h⟩ := g_total 2 (by decide) _ (B (cut s.data.toList [58, 32]).2.1) true hl
    refine ⟨k, w, n, x, e, he, fun e0 => ?_⟩
    obtain ⟨_, rfl, hm, _, h2⟩ := h e0
    obtain ⟨hi, rfl, rfl⟩ := h2 (by decide)
    refine ⟨hm, ?_⟩
    unfold lineL
    rw [if_neg (by decide), if_pos rfl, hi]
    exact hp.symm
  rw [if_neg p]
  by_cases q : hasPrefix s.data.toList sFlush.data.toList = true
  · rw [if_pos q]
    have hp := hasPrefix_split _ _ q
    have hl : (B (trimPrefix s.data.toList sFlush.data.toList)).size ≤ 281474976710656 := by
      rw [B_size]
      have := congrArg List.length hp
      rw [List.length_append] at this
      omega
    obtain ⟨k, w, n, x, e, he, h⟩ := g_total 4 (by decide) _ (B (cut s.data.toList [58, 32]).2.1) true hl
    refine ⟨k, w, n, x, e, he, fun e0 => ?_⟩
    obtain ⟨_, rfl, hm, _, h2⟩ := h e0
    obtain ⟨hi, rfl, rfl⟩ := h2 (by decide)
    refine ⟨hm, ?_⟩
    unfold lineL
    rw [if_neg (by decide), if_neg (by decide), if_pos rfl, hi]
    exact hp.symm
  rw [if_neg q]
  have hl : (B (cut s.data.toList [58, 32]).1).size ≤ 281474976710656 := by
    rw [B_size]
    unfold cut
    split
    · rw [List.length_take]; omega
    · show s.data.toList.length ≤ _; omega
  obtain ⟨k, w, n, x, e, he, h⟩ := g_total 1 (by decide) _ (B (cut s.data.toList [58, 32]).2.1) (cut s.data.toList [58, 32]).2.2 hl
  refine ⟨k, w, n, x, e, he, fun e0 => ?_⟩
  obtain ⟨hok, rfl, hm, h2, _⟩ := h e0
  obtain ⟨hi, rfl, rfl⟩ := h2 rfl
  refine ⟨hm, ?_⟩
  unfold lineL
  rw [if_pos rfl, hi]
  exact (cut_hit s.data.toList [58, 32] (by decide) hok).symm
end Go.Proofs.YtkcnmfeenhpjpaaDoor
set_option linter.unusedVariables false
set_option linter.unusedSimpArgs false
namespace Go.Proofs.YtkcnmfeenhpjpaaDoor.T
open Go.Lib Go.RowKit Go.Proofs.YtkcnmfeenhpjpaaDoorW.PrintWords Go.Proofs.YtkcnmfeenhpjpaaDoorW.PrintLast Go.Proofs.YtkcnmfeenhpjpaaDoorW.PrintMore
def mayA (a : S40) : Bool := mayB a.f0 a.f1 a.f2 a.f3.data.toList
def lineA (a : S40) : List UInt8 := lineL a.f0 a.f1 a.f2 a.f3.data.toList
/-- All lines, each with its line feed. -/
def printA : List S40 → List UInt8
  | [] => []
  | a :: l => lineA a ++ 10 :: printA l
theorem printA_append (l m : List S40) : printA (l ++ m) = printA l ++ printA m := by
  induction l with
  | nil => rfl
  | cons a l ih => simp [printA, ih]
theorem length_le_printA (l : List S40) : l.length ≤ (printA l).length := by
  induction l with
  | nil => exact Nat.le_refl _
  | cons a l ih => simp only [printA, List.length_cons, List.length_append]; omega
theorem line_eq (a : S40) (h : mayA a = true) (hs : a.f3.size ≤ 4000000000) : script_line.f a.f0 a.f1 a.f2 a.f3 = some (B (lineA a)) := by
  obtain ⟨k, who, n, t⟩ := a
  have hts : t.data.toList.length = t.size := by rw [Array.length_toList]; rfl
  unfold mayA mayB at h
  unfold script_line.f lineA lineL num_Text.f strconv_Itoa.f
  simp only at h hs ⊢
  split at h
  case isTrue c1 =>
    simp only [Bool.and_eq_true, decide_eq_true_eq] at h
    have hl := itoa_length_le who (by omega) (by omega)
    rw [if_pos c1, if_pos c1, if_pos ⟨by omega, by omega⟩]
    simp only [Option.bind_some]
    have hb : (⟨(itoa who).toArray⟩ : ByteArray).size = (itoa who).length := B_size _
    rw [if_pos (by rw [hb]; omega)]
    rw [if_pos (by rw [ByteArray.size_append, hb]; show (itoa who).length + 2 + t.size ≤ _; omega)]
    congr 1
  case isFalse c1 =>
    rw [if_neg c1, if_neg c1]
    split at h
    case isTrue c2 =>
      simp only [Bool.and_eq_true, decide_eq_true_eq] at h
      have hl := itoa_length_le n (by omega) (by omega)
      rw [if_pos c2, if_pos c2, if_pos ⟨by omega, by omega⟩]
      simp only [Option.bind_some]
      have hb : (⟨(itoa n).toArray⟩ : ByteArray).size = (itoa n).length := B_size _
      rw [if_pos (by rw [hb]; omega)]
      congr 1
    case isFalse c2 =>
      rw [if_neg c2, if_neg c2]
      split at h
      case isTrue c4 =>
        simp only [Bool.and_eq_true, decide_eq_true_eq] at h
        have hl := itoa_length_le n (by omega) (by omega)
        rw [if_pos c4, if_pos c4, if_pos ⟨by omega, by omega⟩]
        simp only [Option.bind_some]
        have hb : (⟨(itoa n).toArray⟩ : ByteArray).size = (itoa n).length := B_size _
        rw [if_pos (by rw [hb]; omega)]
        congr 1
      case isFalse c4 =>
        rw [if_neg c4, if_neg c4]
        split at h
        case isFalse => cases h
        case isTrue c35 =>
          by_cases c3 : k = 3
          · rw [if_pos c3, if_pos c3]
          · rw [if_neg c3, if_neg c3]
theorem wrap_small (i : Int) (h0 : 0 ≤ i) (h1 : i ≤ 4611686018427387904) : wrap64 (i + 1) = i + 1 := by
  unfold wrap64; omega
/-- A bound of the lines' bytes. -/
def tot : List S40 → Nat
  | [] => 0
  | a :: l => 64 + a.f3.size + tot l
theorem line_size (a : S40) (h : mayA a = true) : (lineA a).length ≤ a.f3.size + 60 := by
  have := line_length a.f0 a.f1 a.f2 a.f3.data.toList h
  have hts : a.f3.data.toList.length = a.f3.size := by rw [Array.length_toList]; rfl
  unfold lineA; omega
theorem text_le_tot (l : List S40) : ∀ a ∈ l, a.f3.size ≤ tot l := by
  induction l with
  | nil => intro a h; cases h
  | cons b l ih =>
    intro a h
    rw [List.mem_cons] at h
    simp only [tot]
    rcases h with rfl | h
    · omega
    · have := ih a h; omega
theorem printA_le_tot (l : List S40) (h : l.all mayA = true) : (printA l).length ≤ tot l := by
  induction l with
  | nil => exact Nat.le_refl _
  | cons a l ih =>
    rw [List.all_cons, Bool.and_eq_true] at h
    have h1 := line_size a h.1
    have h2 := ih h.2
    simp only [printA, tot, List.length_append, List.length_cons]; omega
theorem B_append (x : ByteArray) (l m : List UInt8) : x ++ B (l ++ m) = (x ++ B l) ++ B m := by
  apply ByteArray.ext
  simp [B]
theorem rd_drop (l : List S40) (i : Nat) (h : i < l.length) : l.drop i = rd_T40 l (i : Int) :: l.drop (i + 1) := by
  unfold rd_T40
  rw [List.drop_eq_getElem_cons h]
  congr 1
  rw [List.getD_eq_getElem?_getD]
  simp [h]
/-- The acts, from the i-th on: all may be, or the first that may not. -/
theorem print_from (l : List S40) (hn : l.length ≤ 2147483648) (d : Nat) : ∀ (k : Nat) (i : Nat) (x : ByteArray), i ≤ l.length → l.length - i = d → d < k → (∀ a ∈ l, a.f3.size ≤ 4000000000) → x.size + tot (l.drop i) ≤ 4611686018427387904 →
    script_Print.l0 k x l (l.length : Int) (i : Int) = if (l.drop i).all mayA = true then some (x ++ B (printA (l.drop i)), 0) else some (⟨#[]⟩, 1) := by
  induction d with
  | zero =>
    intro k i x hi hd hk _ _
    obtain ⟨k, rfl⟩ : ∃ m, k = m + 1 := ⟨k - 1, by omega⟩
    obtain rfl : i = l.length := by omega
    simp only [script_Print.l0]
    rw [if_neg (by omega), List.drop_length, List.all_nil, if_pos rfl]
    congr 1
    congr 1
    apply ByteArray.ext
    simp [B, printA]
  | succ d ih =>
    intro k i x hi hd hk ht hx
    obtain ⟨k, rfl⟩ : ∃ m, k = m + 1 := ⟨k - 1, by omega⟩
    have hlt : i < l.length := by omega
    have hdr := rd_drop l i hlt
    have hmem : rd_T40 l (i : Int) ∈ l := List.mem_of_mem_drop (by rw [hdr]; exact List.mem_cons_self ..)
    simp only [script_Print.l0]
    rw [if_pos (by omega), if_pos (by omega), if_pos (by omega), may_eq, Option.bind_some]
    rw [hdr] at hx ⊢
    rw [List.all_cons]
    simp only [tot] at hx
    obtain ⟨a, ha⟩ : ∃ a, a = rd_T40 l (i : Int) := ⟨_, rfl⟩
    rw [← ha] at hmem hx ⊢
    cases hm : mayA a with
    | false =>
      rw [show mayB a.f0 a.f1 a.f2 a.f3.data.toList = false from hm, Bool.false_and, if_neg (by decide), if_neg (by decide)]
    | true =>
      have hl := line_size a hm
      rw [show mayB a.f0 a.f1 a.f2 a.f3.data.toList = true from hm, if_pos rfl, line_eq a hm (ht a hmem), Option.bind_some]
      have hb : (B (lineA a)).size = (lineA a).length := B_size _
      have hb2 : (B (lineA a) ++ (⟨#[10]⟩ : ByteArray)).size = (lineA a).length + 1 := by rw [ByteArray.size_append, hb]; rfl
      rw [if_pos (by rw [hb]; omega), if_pos (by rw [hb2]; omega), wrap_small _ (by omega) (by omega)]
      have h2 := ih k (i + 1) (x ++ (B (lineA a) ++ (⟨#[10]⟩ : ByteArray))) (by omega) (by omega) (by omega) ht (by rw [ByteArray.size_append, hb2]; omega)
      rw [show ((i + 1 : Nat) : Int) = (i : Int) + 1 by omega] at h2
      rw [h2, Bool.true_and]
      split
      · congr 2
        apply ByteArray.ext
        simp [B, printA]
      · rfl
theorem print_all (l : List S40) (hn : l.length ≤ 2147483648) (k : Nat) (hk : l.length < k) (hs : ∀ a ∈ l, a.f3.size ≤ 4000000000) (ht : tot l ≤ 4611686018427387904) :
    script_Print.f k l = if l.all mayA = true then some (B (printA l), 0) else some (⟨#[]⟩, 1) := by
  have h := print_from l hn l.length k 0 ⟨#[]⟩ (by omega) (by omega) hk hs (by show 0 + _ ≤ _; rw [List.drop_zero]; omega)
  unfold script_Print.f
  rw [show ((0 : Nat) : Int) = 0 from rfl] at h
  rw [h, List.drop_zero]
  split
  · congr 2
  · rfl
/-- A printed text, and what follows, is read as its acts, and what follows. -/
theorem parse_printed (rest : List UInt8) : ∀ (l acc : List S40) (k : Nat) (n : Int), l.all mayA = true → (printA l ++ rest).length ≤ 4000000000 → l.length ≤ k → acc.length + l.length ≤ 3518437208882 → 0 ≤ n → n + l.length ≤ 4611686018427387904 →
    script_Parse.l0 k (B (printA l ++ rest)) acc n = script_Parse.l0 (k - l.length) (B rest) (acc ++ l) (n + l.length) := by
  intro l
  induction l with
  | nil => intro acc k n _ _ _ _ _ _; simp [printA]
  | cons a l ih =>
    intro acc k n hm hs hk hc h0 h1
    rw [List.all_cons, Bool.and_eq_true] at hm
    simp only [List.length_cons] at hk hc h1
    obtain ⟨k, rfl⟩ : ∃ m, k = m + 1 := ⟨k - 1, by omega⟩
    have he : printA (a :: l) ++ rest = lineA a ++ 10 :: (printA l ++ rest) := by simp [printA]
    have hlen : (printA (a :: l) ++ rest).length = (lineA a).length + ((printA l ++ rest).length + 1) := by rw [he, List.length_append, List.length_cons]
    simp only [script_Parse.l0]
    rw [if_neg (by rw [toList_data, he]; simp)]
    unfold strings_Cut.f
    rw [if_pos (by rw [B_size]; omega), Option.bind_some]
    rw [show (B (printA (a :: l) ++ rest)).data.toList = printA (a :: l) ++ rest from rfl, he, show (⟨#[10]⟩ : ByteArray).data.toList = [10] from rfl, cut_byte (lineA a) _ _ (line_no10 _ _ _ _ hm.1)]
    have hts : a.f3.data.toList.length = a.f3.size := by rw [Array.length_toList]; rfl
    have hts2 : a.f3.data.toList.length ≤ (lineA a).length ∨ a.f3.data.toList.length ≤ 4000000000 := by
      by_cases c1 : a.f0 = 1
      · left
        unfold lineA lineL
        rw [if_pos c1]
        simp
        omega
      · right
        have hm1 := hm.1
        unfold mayA mayB at hm1
        rw [if_neg c1] at hm1
        split at hm1
        · simp only [Bool.and_eq_true, decide_eq_true_eq] at hm1; rw [hm1.2]; decide
        · split at hm1
          · simp only [Bool.and_eq_true, decide_eq_true_eq] at hm1; rw [hm1.2]; decide
          · split at hm1
            · simp only [Bool.and_eq_true, decide_eq_true_eq] at hm1; rw [hm1.2]; decide
            · cases hm1
    have ho := one_of_line a.f0 a.f1 a.f2 a.f3.data.toList hm.1 (by have : (lineA a).length ≤ 4000000000 := by omega
                                                                    omega)
    rw [show lineL a.f0 a.f1 a.f2 a.f3.data.toList = lineA a from rfl] at ho
    rw [if_pos rfl]
    rw [show (⟨(lineA a, printA l ++ rest, true).1.toArray⟩ : ByteArray) = B (lineA a) from rfl, ho, Option.bind_some]
    simp only [if_true]
    rw [if_pos (by omega), wrap_small n h0 (by omega)]
    rw [show (⟨a.f0, a.f1, a.f2, B a.f3.data.toList⟩ : S40) = a from rfl]
    have h2 := ih (acc ++ [a]) k (n + 1) hm.2 (by omega) (by omega) (by rw [List.length_append, List.length_singleton]; omega) (by omega) (by omega)
    rw [show k + 1 - (a :: l).length = k - l.length by rw [List.length_cons]; omega]
    rw [show n + ((a :: l).length : Int) = n + 1 + (l.length : Int) by rw [List.length_cons]; omega]
    rw [show acc ++ a :: l = (acc ++ [a]) ++ l by simp]
    exact h2
theorem first_of (s : List UInt8) (c : UInt8) (h : c ∈ s) : ∃ t r, c ∉ t ∧ s = t ++ c :: r := by
  induction s with
  | nil => cases h
  | cons b s ih =>
    by_cases hb : c = b
    · subst hb; exact ⟨[], s, by simp, rfl⟩
    · rw [List.mem_cons] at h
      obtain ⟨t, r, h1, h2⟩ := ih (h.resolve_left hb)
      exact ⟨b :: t, r, by rw [List.mem_cons]; exact fun h => h.elim hb h1, by rw [h2]; rfl⟩
/-- Whatever text is read: its acts, of which it is the print; or an error at a line, and no acts. -/
theorem parse_any (d : Nat) : ∀ (s : List UInt8) (acc : List S40) (k : Nat) (n : Int), s.length ≤ d → d ≤ 4000000000 → d < k → acc.length + d ≤ 3518437208882 → 1 ≤ n → n + d ≤ 4611686018427387904 →
    (∃ l, script_Parse.l0 k (B s) acc n = some (acc ++ l, 0, 0) ∧ l.all mayA = true ∧ printA l = s) ∨ (∃ m e, script_Parse.l0 k (B s) acc n = some ([], m, e) ∧ e ≠ 0 ∧ 1 ≤ m) := by
  induction d with
  | zero =>
    intro s acc k n hs _ hk _ _ _
    obtain ⟨k, rfl⟩ : ∃ m, k = m + 1 := ⟨k - 1, by omega⟩
    obtain rfl : s = [] := List.length_eq_zero_iff.1 (by omega)
    left
    refine ⟨[], ?_, rfl, rfl⟩
    simp only [script_Parse.l0]
    rw [if_pos (by rw [toList_data]), List.append_nil]
  | succ d ih =>
    intro s acc k n hs hd hk hc hn hm
    obtain ⟨k, rfl⟩ : ∃ m, k = m + 1 := ⟨k - 1, by omega⟩
    by_cases hs0 : s = []
    · subst hs0
      left
      refine ⟨[], ?_, rfl, rfl⟩
      simp only [script_Parse.l0]
      rw [if_pos (by rw [toList_data]), List.append_nil]
    · have hcut : strings_Cut.f (B s) ⟨#[10]⟩ = some (B (cut s [10]).1, B (cut s [10]).2.1, (cut s [10]).2.2) := by
        unfold strings_Cut.f
        rw [if_pos (by rw [B_size]; omega)]
      simp only [script_Parse.l0]
      rw [if_neg (by rw [toList_data]; exact hs0), hcut, Option.bind_some]
      simp only
      by_cases h10 : (10 : UInt8) ∈ s
      · obtain ⟨t, r, hne, rfl⟩ : ∃ t r, (10 : UInt8) ∉ t ∧ s = t ++ 10 :: r := by
          exact first_of s 10 h10
        rw [cut_byte t r 10 hne, if_pos rfl]
        rw [List.length_append, List.length_cons] at hs
        obtain ⟨kk, w, m, x, e, ho, hoe⟩ := one_total (B t) (by rw [B_size]; omega)
        rw [ho, Option.bind_some]
        simp only
        by_cases he : e = 0
        · subst he
          obtain ⟨hv, hl⟩ := hoe rfl
          rw [if_pos rfl, if_pos (by omega), wrap_small n (by omega) (by omega)]
          rcases ih r (acc ++ [⟨kk, w, m, x⟩]) k (n + 1) (by omega) (by omega) (by omega) (by rw [List.length_append, List.length_singleton]; omega) (by omega) (by omega) with ⟨l, h1, h2, h3⟩ | ⟨m2, e2, h1, h2, h3⟩
          · left
            refine ⟨⟨kk, w, m, x⟩ :: l, ?_, ?_, ?_⟩
            · rw [h1]; simp
            · rw [List.all_cons, h2, Bool.and_true]; exact hv
            · simp only [printA, lineA]; rw [hl, h3]
          · right
            exact ⟨m2, e2, h1, h2, h3⟩
        · rw [if_neg he]
          right
          exact ⟨n, e, rfl, he, hn⟩
      · rw [cut_none s 10 h10, if_neg (by intro h; cases h)]
        right
        exact ⟨n, 3, rfl, by decide, hn⟩
end Go.Proofs.YtkcnmfeenhpjpaaDoor.T
