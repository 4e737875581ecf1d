/- Plain laws of acts and their lines: a line is read as the act that it was written of, and the other way round. -/
import Derived.Test.YtkcnmfeenhpjpaaDoorPlainA
set_option linter.unusedVariables false
set_option linter.unusedSimpArgs false
namespace Go.Proofs.YtkcnmfeenhpjpaaDoor
open Go.Lib

/-- May an act be? -/
def mayB (k who n : Int) (t : List UInt8) : Bool :=
  if k = 1 then decide (0 ≤ who) && decide (who < 4) && decide ((10 : UInt8) ∉ t) && decide (n = 0)
  else if k = 2 then decide (-1 ≤ n) && decide (n ≤ 65536) && decide (who = 0) && decide (t = [])
  else if k = 4 then decide (0 ≤ n) && decide (n ≤ 2000) && decide (who = 0) && decide (t = [])
  else if k = 3 ∨ k = 5 then decide (who = 0) && decide (n = 0) && decide (t = [])
  else false

theorem toList_nil (t : ByteArray) : (t.toList == ([] : List UInt8)) = decide (t.data.toList = []) := by
  rw [toList_data]
  cases t.data.toList <;> rfl

theorem may_eq (k who n : Int) (t : ByteArray) : script_may.f k who n t = some (mayB k who n t.data.toList) := by
  unfold script_may.f mayB
  by_cases c1 : k = 1
  · rw [if_pos c1, if_pos c1]
    by_cases h0 : who ≥ 0
    · rw [if_pos h0]
      by_cases h1 : who < 4
      · rw [if_pos h1]
        unfold strings_Contains.f
        show (some (decide (0 ≤ indexByte t.data.toList 10))).bind _ = _
        rw [Option.bind_some]
        by_cases h2 : (10 : UInt8) ∈ t.data.toList
        · rw [if_pos (by simpa using (index_of_mem _ _).2 h2)]
          simp [h2]
        · rw [if_neg (by rw [decide_eq_true_eq]; intro h; exact h2 ((index_of_mem _ _).1 h))]
          have e : (n == 0) = decide (n = 0) := by by_cases h : n = 0 <;> simp [h]
          simp [h2, h1, e]
          intro _; omega
      · rw [if_neg h1]; simp [h1]
    · rw [if_neg h0]; simp; omega
  rw [if_neg c1, if_neg c1]
  by_cases c2 : k = 2
  · rw [if_pos c2, if_pos c2]
    by_cases h0 : n ≥ -1
    · rw [if_pos h0]
      by_cases h1 : n ≤ 65536
      · rw [if_pos h1, toList_nil]
        have e : (who == 0) = decide (who = 0) := by by_cases h : who = 0 <;> simp [h]
        have h0' : -1 ≤ n := h0
        simp [h0', h1, e]
      · rw [if_neg h1]; simp [h1]
    · rw [if_neg h0]
      have h0' : ¬ -1 ≤ n := h0
      simp [h0']
  rw [if_neg c2, if_neg c2]
  by_cases c4 : k = 4
  · rw [if_pos c4, if_pos c4]
    by_cases h0 : n ≥ 0
    · rw [if_pos h0]
      by_cases h1 : n ≤ 2000
      · rw [if_pos h1, toList_nil]
        have e : (who == 0) = decide (who = 0) := by by_cases h : who = 0 <;> simp [h]
        have h0' : 0 ≤ n := h0
        simp [h0', h1, e]
      · rw [if_neg h1]; simp [h1]
    · rw [if_neg h0]
      have h0' : ¬ 0 ≤ n := h0
      simp [h0']
  rw [if_neg c4, if_neg c4]
  have e : (who == 0) = decide (who = 0) := by by_cases h : who = 0 <;> simp [h]
  have e2 : (n == 0) = decide (n = 0) := by by_cases h : n = 0 <;> simp [h]
  by_cases c3 : k = 3
  · rw [if_pos c3, if_pos (.inl c3), toList_nil, e, e2, Bool.and_assoc]
  rw [if_neg c3]
  by_cases c5 : k = 5
  · rw [if_pos c5, if_pos (.inr c5), toList_nil, e, e2, Bool.and_assoc]
  rw [if_neg c5, if_neg (fun h => h.elim c3 c5)]

/-- An act's line. -/
def lineL (k who n : Int) (t : List UInt8) : List UInt8 :=
  if k = 1 then itoa who ++ [58, 32] ++ t
  else if k = 2 then sPower.data.toList ++ itoa n
  else if k = 4 then sFlush.data.toList ++ itoa n
  else if k = 3 then [111, 112, 101, 110] else [99, 104, 101, 99, 107, 112, 111, 105, 110, 116]

theorem itoa_small (who : Int) (h0 : 0 ≤ who) (h1 : who < 4) : ∃ c : UInt8, itoa who = [c] ∧ c ≠ 111 ∧ c ≠ 99 ∧ c ≠ 112 ∧ c ≠ 102 ∧ c ≠ 58 ∧ c ≠ 10 := by
  obtain ⟨u, rfl⟩ : ∃ u : Nat, who = u := ⟨who.toNat, by omega⟩
  refine ⟨UInt8.ofNat (48 + u), by rw [itoa_nonneg, decDigits_one (by omega)], ?_⟩
  have hu : u < 4 := by omega
  match u, hu with
  | 0, _ => decide
  | 1, _ => decide
  | 2, _ => decide
  | 3, _ => decide

theorem line_no10 (k who n : Int) (t : List UInt8) (h : mayB k who n t = true) : (10 : UInt8) ∉ lineL k who n t := by
  have hi : ∀ n, (10 : UInt8) ∉ itoa n := fun n hm => by
    rcases itoa_all n _ hm with h | h
    · exact absurd h (by decide)
    · exact absurd h.1 (by decide)
  unfold mayB at h
  unfold lineL
  split at h
  case isTrue c1 =>
    rw [if_pos c1]
    simp only [Bool.and_eq_true, decide_eq_true_eq] at h
    simp only [List.mem_append, not_or]
    exact ⟨⟨hi _, by decide⟩, h.1.2⟩
  case isFalse c1 =>
    rw [if_neg c1]
    split
    · simp only [List.mem_append, not_or]; exact ⟨by decide, hi _⟩
    · split
      · simp only [List.mem_append, not_or]; exact ⟨by decide, hi _⟩
      · split <;> decide

theorem line_length (k who n : Int) (t : List UInt8) (h : mayB k who n t = true) : (lineL k who n t).length ≤ t.length + 60 := by
  unfold mayB at h
  unfold lineL
  split at h
  case isTrue c1 =>
    rw [if_pos c1]
    simp only [Bool.and_eq_true, decide_eq_true_eq] at h
    have := itoa_length_le who (by omega) (by omega)
    simp only [List.length_append, List.length_cons, List.length_nil]; omega
  case isFalse c1 =>
    rw [if_neg c1]
    split at h
    case isTrue c2 =>
      rw [if_pos c2]
      simp only [Bool.and_eq_true, decide_eq_true_eq] at h
      have := itoa_length_le n (by omega) (by omega)
      have e : sPower.data.toList.length = 6 := rfl
      simp only [List.length_append, e]; omega
    case isFalse c2 =>
      rw [if_neg c2]
      split at h
      case isTrue c4 =>
        rw [if_pos c4]
        simp only [Bool.and_eq_true, decide_eq_true_eq] at h
        have := itoa_length_le n (by omega) (by omega)
        have e : sFlush.data.toList.length = 6 := rfl
        simp only [List.length_append, e]; omega
      case isFalse c4 =>
        rw [if_neg c4]
        split <;> simp <;> omega

theorem hasPrefix_app (p l : List UInt8) : hasPrefix (p ++ l) p = true := by
  unfold hasPrefix
  rw [List.isPrefixOf_iff_prefix]
  exact List.prefix_append p l
theorem trim_app (p l : List UInt8) : trimPrefix (p ++ l) p = l := by
  unfold trimPrefix
  rw [if_pos (hasPrefix_app p l)]
  simp
theorem hasPrefix_cons_ne (c d : UInt8) (l p : List UInt8) (h : c ≠ d) : hasPrefix (c :: l) (d :: p) = false := by
  unfold hasPrefix
  have h' : ¬ d = c := fun e => h e.symm
  simp [List.isPrefixOf, h']

/-- The line of an act that may be is read as that act. -/
theorem one_of_line (k who n : Int) (t : List UInt8) (h : mayB k who n t = true) (hs : t.length ≤ 4000000000) : script_one.f (B (lineL k who n t)) = some (k, who, n, B t, 0) := by
  have hlen := line_length k who n t h
  have hB : (B (lineL k who n t)).toList = lineL k who n t := by rw [toList_data]
  have hcut : ∃ c, strings_Cut.f (B (lineL k who n t)) ⟨#[58, 32]⟩ = some c ∧ c = (B (cut (lineL k who n t) [58, 32]).1, B (cut (lineL k who n t) [58, 32]).2.1, (cut (lineL k who n t) [58, 32]).2.2) := by
    refine ⟨_, ?_, rfl⟩
    unfold strings_Cut.f
    rw [if_pos (by rw [B_size]; omega)]
  obtain ⟨c, hc, hcc⟩ := hcut
  unfold script_one.f
  rw [hB, hc, Option.bind_some]
  clear hc hB
  have h2 := h
  unfold mayB at h2
  split at h2
  case isTrue c1 =>
    subst c1
    simp only [Bool.and_eq_true, decide_eq_true_eq] at h2
    obtain ⟨⟨⟨w0, w1⟩, ht⟩, rfl⟩ := h2
    obtain ⟨d, hd, d1, d2, d3, d4, d5, d6⟩ := itoa_small who w0 w1
    have hl : lineL 1 who 0 t = d :: 58 :: 32 :: t := by unfold lineL; rw [if_pos rfl, hd]; rfl
    have hcd : cut (d :: 58 :: 32 :: t) [58, 32] = ([d], t, true) := by
      have hi : index (d :: 58 :: 32 :: t) [58, 32] = 1 := by
        rw [index, if_neg (by simp [List.isPrefixOf])]
        rfl
      unfold cut
      rw [hi, if_pos (by decide)]
      rfl
    rw [hl] at hcc
    rw [hl, if_neg (fun e => d1 (List.cons.inj e).1), if_neg (fun e => d2 (List.cons.inj e).1)]
    rw [if_neg (by rw [show (B (d :: 58 :: 32 :: t)).data.toList = d :: 58 :: 32 :: t from rfl, show sPower.data.toList = 112 :: [111, 119, 101, 114, 32] from rfl, hasPrefix_cons_ne _ _ _ _ d3]; decide)]
    rw [if_neg (by rw [show (B (d :: 58 :: 32 :: t)).data.toList = d :: 58 :: 32 :: t from rfl, show sFlush.data.toList = 102 :: [108, 117, 115, 104, 32] from rfl, hasPrefix_cons_ne _ _ _ _ d4]; decide)]
    rw [hcc, hcd]
    unfold script_one.g
    have hn := num_itoa who (by omega) (by omega)
    rw [hd] at hn
    simp only [hn, Option.bind_some, if_true, may_eq]
    rw [if_pos h]
  case isFalse c1 =>
    split at h2
    case isTrue c2 =>
      subst c2
      simp only [Bool.and_eq_true, decide_eq_true_eq] at h2
      obtain ⟨⟨⟨n0, n1⟩, rfl⟩, rfl⟩ := h2
      have hl : lineL 2 0 n [] = sPower.data.toList ++ itoa n := by unfold lineL; rw [if_neg (by decide), if_pos rfl]
      have hne : ∀ (d : UInt8) r, d ≠ 112 → sPower.data.toList ++ itoa n ≠ d :: r := fun d r hd e => hd (List.cons.inj e).1.symm
      rw [hl, if_neg (hne _ _ (by decide)), if_neg (hne _ _ (by decide))]
      rw [show (B (sPower.data.toList ++ itoa n)).data.toList = sPower.data.toList ++ itoa n from rfl, if_pos (hasPrefix_app _ _), trim_app]
      unfold script_one.g
      have hn := num_itoa n (by omega) (by omega)
      simp only [hn, Option.bind_some, if_true, may_eq]
      rw [if_neg (by decide)]
      rw [if_pos h]
    case isFalse c2 =>
      split at h2
      case isTrue c4 =>
        subst c4
        simp only [Bool.and_eq_true, decide_eq_true_eq] at h2
        obtain ⟨⟨⟨n0, n1⟩, rfl⟩, rfl⟩ := h2
        have hl : lineL 4 0 n [] = sFlush.data.toList ++ itoa n := by unfold lineL; rw [if_neg (by decide), if_neg (by decide), if_pos rfl]
        have hne : ∀ (d : UInt8) r, d ≠ 102 → sFlush.data.toList ++ itoa n ≠ d :: r := fun d r hd e => hd (List.cons.inj e).1.symm
        rw [hl, if_neg (hne _ _ (by decide)), if_neg (hne _ _ (by decide))]
        rw [show (B (sFlush.data.toList ++ itoa n)).data.toList = sFlush.data.toList ++ itoa n from rfl]
        rw [if_neg (by rw [show sFlush.data.toList ++ itoa n = 102 :: ([108, 117, 115, 104, 32] ++ itoa n) from rfl, show sPower.data.toList = 112 :: [111, 119, 101, 114, 32] from rfl, hasPrefix_cons_ne _ _ _ _ (by decide)]; decide)]
        rw [if_pos (hasPrefix_app _ _), trim_app]
        unfold script_one.g
        have hn := num_itoa n (by omega) (by omega)
        simp only [hn, Option.bind_some, if_true, may_eq]
        rw [if_neg (by decide)]
        rw [if_pos h]
      case isFalse c4 =>
        split at h2
        case isFalse => cases h2
        case isTrue c35 =>
          simp only [Bool.and_eq_true, decide_eq_true_eq] at h2
          obtain ⟨⟨rfl, rfl⟩, rfl⟩ := h2
          rcases c35 with rfl | rfl
          · rw [show lineL 3 0 0 [] = [111, 112, 101, 110] from rfl, if_pos rfl]
          · rw [show lineL 5 0 0 [] = [99, 104, 101, 99, 107, 112, 111, 105, 110, 116] from rfl, if_neg (by decide), if_pos rfl]

theorem hasPrefix_split (s p : List UInt8) (h : hasPrefix s p = true) : s = p ++ trimPrefix s p := by
  unfold trimPrefix
  rw [if_pos h]
  unfold hasPrefix at h
  obtain ⟨r, hr⟩ := List.isPrefixOf_iff_prefix.1 h
  rw [← hr]; simp

theorem g_total (kind : Int) (hk : kind = 1 ∨ kind = 2 ∨ kind = 4) (head rest : ByteArray) (ok : Bool) (hs : head.size ≤ 281474976710656) :
    ∃ k w n x e, script_one.g kind head rest ok = some (k, w, n, x, e) ∧ (e = 0 → ok = true ∧ k = kind ∧ mayB k w n x.data.toList = true ∧ (kind = 1 → itoa w = head.data.toList ∧ x = rest ∧ n = 0) ∧ (kind ≠ 1 → itoa n = head.data.toList ∧ w = 0 ∧ x = ⟨#[]⟩)) := by
  obtain ⟨m, b, hm, _, hb⟩ := num_total head hs
  unfold script_one.g
  rw [hm, Option.bind_some]
  cases ok with
  | false => exact ⟨0, 0, 0, ⟨#[]⟩, 2, rfl, fun e => absurd e (by decide)⟩
  | true =>
    simp only [if_true]
    cases b with
    | false => exact ⟨0, 0, 0, ⟨#[]⟩, 2, rfl, fun e => absurd e (by decide)⟩
    | true =>
      simp only [if_true]
      obtain ⟨_, _, hi⟩ := hb rfl
      by_cases hk1 : kind = 1
      · subst hk1
        rw [if_pos rfl, may_eq, Option.bind_some]
        cases hq : mayB 1 m 0 rest.data.toList with
        | false => exact ⟨0, 0, 0, ⟨#[]⟩, 1, rfl, fun e => absurd e (by decide)⟩
        | true => exact ⟨1, m, 0, rest, 0, rfl, fun _ => ⟨trivial, rfl, hq, fun _ => ⟨hi, rfl, rfl⟩, fun h => absurd rfl h⟩⟩
      · rw [if_neg hk1, may_eq, Option.bind_some]
        cases hq : mayB kind 0 m (⟨#[]⟩ : ByteArray).data.toList with
        | false => exact ⟨0, 0, 0, ⟨#[]⟩, 1, rfl, fun e => absurd e (by decide)⟩
        | true => exact ⟨kind, 0, m, ⟨#[]⟩, 0, rfl, fun _ => ⟨trivial, rfl, hq, fun h => absurd h hk1, fun _ => ⟨hi, rfl, rfl⟩⟩⟩

/-- What is read from a line without an error is an act that may be, and the line is its line. -/
theorem one_total (s : ByteArray) (hs : s.size ≤ 4000000000) :
    ∃ k w n x e, script_one.f s = some (k, w, n, x, e) ∧ (e = 0 → mayB k w n x.data.toList = true ∧ lineL k w n x.data.toList = s.data.toList) := by
  unfold script_one.f
  by_cases c1 : s.toList = ([111, 112, 101, 110] : List UInt8)
  · rw [if_pos c1]
    exact ⟨3, 0, 0, ⟨#[]⟩, 0, rfl, fun _ => ⟨rfl, by rw [← toList_data s, c1]; rfl⟩⟩
  rw [if_neg c1]
  by_cases c2 : s.toList = ([99, 104, 101, 99, 107, 112, 111, 105, 110, 116] : List UInt8)
  · rw [if_pos c2]
    exact ⟨5, 0, 0, ⟨#[]⟩, 0, rfl, fun _ => ⟨rfl, by rw [← toList_data s, c2]; rfl⟩⟩
  rw [if_neg c2]
  unfold strings_Cut.f
  rw [if_pos (by omega), Option.bind_some]
  have hsz : s.data.toList.length = s.size := by rw [Array.length_toList]; rfl
  by_cases p : hasPrefix s.data.toList sPower.data.toList = true
  · rw [if_pos p]
    have hp := hasPrefix_split _ _ p
    have hl : (B (trimPrefix s.data.toList sPower.data.toList)).size ≤ 281474976710656 := by
      rw [B_size]
      have := congrArg List.length hp
      rw [List.length_append] at this
      omega
    obtain ⟨k, w, n, x, e, he, h⟩ := g_total 2 (by decide) _ (B (cut s.data.toList [58, 32]).2.1) true hl
    refine ⟨k, w, n, x, e, he, fun e0 => ?_⟩
    obtain ⟨_, rfl, hm, _, h2⟩ := h e0
    obtain ⟨hi, rfl, rfl⟩ := h2 (by decide)
    refine ⟨hm, ?_⟩
    unfold lineL
    rw [if_neg (by decide), if_pos rfl, hi]
    exact hp.symm
  rw [if_neg p]
  by_cases q : hasPrefix s.data.toList sFlush.data.toList = true
  · rw [if_pos q]
    have hp := hasPrefix_split _ _ q
    have hl : (B (trimPrefix s.data.toList sFlush.data.toList)).size ≤ 281474976710656 := by
      rw [B_size]
      have := congrArg List.length hp
      rw [List.length_append] at this
      omega
    obtain ⟨k, w, n, x, e, he, h⟩ := g_total 4 (by decide) _ (B (cut s.data.toList [58, 32]).2.1) true hl
    refine ⟨k, w, n, x, e, he, fun e0 => ?_⟩
    obtain ⟨_, rfl, hm, _, h2⟩ := h e0
    obtain ⟨hi, rfl, rfl⟩ := h2 (by decide)
    refine ⟨hm, ?_⟩
    unfold lineL
    rw [if_neg (by decide), if_neg (by decide), if_pos rfl, hi]
    exact hp.symm
  rw [if_neg q]
  have hl : (B (cut s.data.toList [58, 32]).1).size ≤ 281474976710656 := by
    rw [B_size]
    unfold cut
    split
    · rw [List.length_take]; omega
    · show s.data.toList.length ≤ _; omega
  obtain ⟨k, w, n, x, e, he, h⟩ := g_total 1 (by decide) _ (B (cut s.data.toList [58, 32]).2.1) (cut s.data.toList [58, 32]).2.2 hl
  refine ⟨k, w, n, x, e, he, fun e0 => ?_⟩
  obtain ⟨hok, rfl, hm, h2, _⟩ := h e0
  obtain ⟨hi, rfl, rfl⟩ := h2 rfl
  refine ⟨hm, ?_⟩
  unfold lineL
  rw [if_pos rfl, hi]
  exact (cut_hit s.data.toList [58, 32] (by decide) hok).symm
end Go.Proofs.YtkcnmfeenhpjpaaDoor
