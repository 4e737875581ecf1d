/- Plain laws of the page's own reading of a text: as script reads it. -/
import Derived.Test.YtkcnmfeenhpjpaaDoorPlainC
import Derived.Test.YtkcnmfeenhpjpaaDoorTx13
import Derived.Test.YtkcnmfeenhpjpaaDoorTx20
set_option linter.unusedVariables false
set_option linter.unusedSimpArgs false
namespace Go.Proofs.YtkcnmfeenhpjpaaDoor.T
open Go.Lib Go.RowKit Go.Proofs.YtkcnmfeenhpjpaaDoorW.PrintWords Go.Proofs.YtkcnmfeenhpjpaaDoorW.PrintLast Go.Proofs.YtkcnmfeenhpjpaaDoorW.PrintMore
theorem bt_drop (s : ByteArray) (i : Nat) (h : i < s.size) : ∃ c : UInt8, s.data.toList.drop i = c :: s.data.toList.drop (i + 1) ∧ bt s (i : Int) = (c.toNat : Int) := by
  have hl : i < s.data.toList.length := by rw [Array.length_toList]; exact h
  refine ⟨s.data.toList[i], List.drop_eq_getElem_cons hl, ?_⟩
  unfold bt
  rw [dif_pos (show (i : Int).toNat < s.size by simpa using h)]
  rfl
theorem bt_is (c d : UInt8) : ((c.toNat : Int) = (d.toNat : Int)) ↔ c = d := by
  rw [← UInt8.toNat_inj]
  omega
theorem plain_from (t : ByteArray) (hn : t.size ≤ 4611686018427387904) (d : Nat) : ∀ (k i : Nat), i ≤ t.size → t.size - i = d → d < k → tabellionref58_plain.l0 k t (i : Int) = some (decide ((10 : UInt8) ∉ t.data.toList.drop i)) := by
  induction d with
  | zero =>
    intro k i hi hd hk
    obtain ⟨k, rfl⟩ : ∃ m, k = m + 1 := ⟨k - 1, by omega⟩
    rw [tabellionref58_plain.l0, if_neg (by omega), List.drop_eq_nil_of_le (by rw [Array.length_toList]; show t.size ≤ i; omega)]
    rfl
  | succ d ih =>
    intro k i hi hd hk
    obtain ⟨k, rfl⟩ : ∃ m, k = m + 1 := ⟨k - 1, by omega⟩
    obtain ⟨c, h1, h2⟩ := bt_drop t i (by omega)
    rw [tabellionref58_plain.l0, if_pos (by omega), if_pos (by omega), h1, h2]
    by_cases hc : c = 10
    · subst hc
      rw [if_pos (by decide)]
      simp
    · rw [if_neg (fun h : (c.toNat : Int) = 10 => hc ((bt_is c 10).1 h)), wrap_small _ (by omega) (by omega)]
      have h := ih k (i + 1) (by omega) (by omega) (by omega)
      rw [show ((i + 1 : Nat) : Int) = (i : Int) + 1 by omega] at h
      rw [h]
      have hc' : ¬ (10 : UInt8) = c := fun e => hc e.symm
      simp [hc']
theorem plain_eq (t : ByteArray) (hn : t.size ≤ 4611686018427387904) (k : Nat) (hk : t.size < k) : tabellionref58_plain.f k t = some (decide ((10 : UInt8) ∉ t.data.toList)) := by
  have h := plain_from t hn t.size k 0 (by omega) (by omega) hk
  rw [List.drop_zero] at h
  exact h
theorem Act_eq (kk who n : Int) (t : ByteArray) (hn : t.size ≤ 4611686018427387904) (k : Nat) (hk : t.size < k) : tabellionref58_Act.f k kk who n t = some (mayB kk who n t.data.toList) := by
  unfold tabellionref58_Act.f mayB
  by_cases c1 : kk = 1
  · rw [if_pos c1, if_pos c1]
    by_cases h0 : who ≥ 0
    · rw [if_pos h0]
      have h0' : 0 ≤ who := h0
      by_cases h1 : who ≤ 3
      · rw [if_pos h1]
        have h1' : who < 4 := by omega
        by_cases h2 : n = 0
        · rw [if_pos h2, plain_eq t hn k hk]
          simp [h0', h1', h2]
        · rw [if_neg h2]; simp [h2]
      · rw [if_neg h1]
        have h1' : ¬ who < 4 := by omega
        simp [h1']
    · rw [if_neg h0]
      have h0' : ¬ 0 ≤ who := h0
      simp [h0']
  rw [if_neg c1, if_neg c1]
  by_cases c2 : kk = 2
  · rw [if_pos c2, if_pos c2]
    by_cases hw : who = 0
    · rw [if_pos hw]
      by_cases h0 : n ≥ -1
      · rw [if_pos h0]
        have h0' : -1 ≤ n := h0
        by_cases h1 : n ≤ 65536
        · rw [if_pos h1, toList_nil]
          simp [h0', h1, hw]
        · rw [if_neg h1]; simp [h1]
      · rw [if_neg h0]
        have h0' : ¬ -1 ≤ n := h0
        simp [h0']
    · rw [if_neg hw]; simp [hw]
  rw [if_neg c2, if_neg c2]
  by_cases c4 : kk = 4
  · rw [if_pos c4, if_pos c4]
    by_cases hw : who = 0
    · rw [if_pos hw]
      by_cases h0 : n ≥ 0
      · rw [if_pos h0]
        have h0' : 0 ≤ n := h0
        by_cases h1 : n ≤ 2000
        · rw [if_pos h1, toList_nil]
          simp [h0', h1, hw]
        · rw [if_neg h1]; simp [h1]
      · rw [if_neg h0]
        have h0' : ¬ 0 ≤ n := h0
        simp [h0']
    · rw [if_neg hw]; simp [hw]
  rw [if_neg c4, if_neg c4]
  by_cases c3 : kk = 3
  · rw [if_pos c3, if_pos (show kk = 3 ∨ kk = 5 from .inl c3)]
    by_cases hw : who = 0
    · rw [if_pos hw]
      by_cases h0 : n = 0
      · rw [if_pos h0, toList_nil]; simp [hw, h0]
      · rw [if_neg h0]; simp [h0]
    · rw [if_neg hw]; simp [hw]
  rw [if_neg c3]
  by_cases c5 : kk = 5
  · rw [if_pos c5, if_pos (show kk = 3 ∨ kk = 5 from .inr c5)]
    by_cases hw : who = 0
    · rw [if_pos hw]
      by_cases h0 : n = 0
      · rw [if_pos h0, toList_nil]; simp [hw, h0]
      · rw [if_neg h0]; simp [h0]
    · rw [if_neg hw]; simp [hw]
  rw [if_neg c5, if_neg (fun h => h.elim c3 c5)]
theorem refline_eq (a : S40) (h : mayA a = true) (hs : a.f3.size ≤ 4000000000) : tabellionref58_line.f a.f0 a.f1 a.f2 a.f3 = some (B (lineA a)) := by
  obtain ⟨k, who, n, t⟩ := a
  have hts : t.data.toList.length = t.size := by rw [Array.length_toList]; rfl
  unfold mayA mayB at h
  unfold tabellionref58_line.f lineA lineL tabellionref02_Text.f
  simp only at h hs ⊢
  split at h
  case isTrue c1 =>
    simp only [Bool.and_eq_true, decide_eq_true_eq] at h
    have hl := itoa_length_le who (by omega) (by omega)
    rw [if_pos c1, if_pos c1, if_pos ⟨by omega, by omega⟩]
    simp only [Option.bind_some]
    have hb : (⟨(itoa who).toArray⟩ : ByteArray).size = (itoa who).length := B_size _
    rw [if_pos (by rw [hb]; omega)]
    rw [if_pos (by rw [ByteArray.size_append, hb]; show (itoa who).length + 2 + t.size ≤ _; omega)]
    congr 1
  case isFalse c1 =>
    rw [if_neg c1, if_neg c1]
    split at h
    case isTrue c2 =>
      simp only [Bool.and_eq_true, decide_eq_true_eq] at h
      have hl := itoa_length_le n (by omega) (by omega)
      rw [if_pos c2, if_pos c2, if_pos ⟨by omega, by omega⟩]
      simp only [Option.bind_some]
      have hb : (⟨(itoa n).toArray⟩ : ByteArray).size = (itoa n).length := B_size _
      rw [if_pos (by rw [hb]; omega)]
      congr 1
    case isFalse c2 =>
      rw [if_neg c2, if_neg c2]
      split at h
      case isTrue c4 =>
        simp only [Bool.and_eq_true, decide_eq_true_eq] at h
        have hl := itoa_length_le n (by omega) (by omega)
        rw [if_neg (by omega), if_pos c4, if_pos c4, if_pos ⟨by omega, by omega⟩]
        simp only [Option.bind_some]
        have hb : (⟨(itoa n).toArray⟩ : ByteArray).size = (itoa n).length := B_size _
        rw [if_pos (by rw [hb]; omega)]
        congr 1
      case isFalse c4 =>
        split at h
        case isFalse => cases h
        case isTrue c35 =>
          by_cases c3 : k = 3
          · rw [if_pos c3, if_neg c4, if_pos c3]
          · rw [if_neg c3, if_neg c4, if_neg c4, if_neg c3]
theorem nums_back (l : List UInt8) : strOfNums (l.map fun b => (b.toNat : Int)) = B l := by
  unfold strOfNums
  rw [List.map_map]
  show (⟨(l.map _).toArray⟩ : ByteArray) = ⟨l.toArray⟩
  rw [List.map_congr_left (g := id) (fun c _ => ?_), List.map_id]
  simp
theorem refprint_from (l : List S40) (hn : l.length ≤ 2147483648) (d : Nat) : ∀ (k : Nat) (i : Nat) (x : List UInt8), i ≤ l.length → l.length - i = d → d + 4000000000 < k → (∀ a ∈ l, a.f3.size ≤ 4000000000) → x.length + tot (l.drop i) ≤ 140737488355000 →
    tabellionref58_Print.l0 k l (x.map fun b => (b.toNat : Int)) (i : Int) = if (l.drop i).all mayA = true then some (B (x ++ printA (l.drop i)), 0) else some (⟨#[]⟩, 1) := by
  induction d with
  | zero =>
    intro k i x hi hd hk _ _
    obtain ⟨k, rfl⟩ : ∃ m, k = m + 1 := ⟨k - 1, by omega⟩
    obtain rfl : i = l.length := by omega
    rw [tabellionref58_Print.l0, if_neg (by omega), List.drop_length, List.all_nil, if_pos rfl, nums_back]
    simp [printA]
  | succ d ih =>
    intro k i x hi hd hk ht hx
    obtain ⟨k, rfl⟩ : ∃ m, k = m + 1 := ⟨k - 1, by omega⟩
    have hlt : i < l.length := by omega
    have hdr := rd_drop l i hlt
    have hmem : rd_T40 l (i : Int) ∈ l := List.mem_of_mem_drop (by rw [hdr]; exact List.mem_cons_self ..)
    have hsz := ht _ hmem
    rw [tabellionref58_Print.l0, if_pos (by omega), if_pos (by omega), Act_eq _ _ _ _ (by omega) k (by omega), Option.bind_some]
    rw [hdr] at hx ⊢
    rw [List.all_cons]
    simp only [tot] at hx
    obtain ⟨a, ha⟩ : ∃ a, a = rd_T40 l (i : Int) := ⟨_, rfl⟩
    rw [← ha] at hmem hx hsz ⊢
    cases hm : mayA a with
    | false =>
      rw [show mayB a.f0 a.f1 a.f2 a.f3.data.toList = false from hm, Bool.false_and, if_neg (by decide), if_neg (by decide)]
    | true =>
      have hl := line_size a hm
      have hb : (B (lineA a)).size = (lineA a).length := B_size _
      rw [show mayB a.f0 a.f1 a.f2 a.f3.data.toList = true from hm, if_pos rfl, refline_eq a hm hsz, Option.bind_some, hb, List.length_map, if_pos (by omega), Option.bind_some]
      have hby : bytesOf (B (lineA a)) = (lineA a).map fun b => (b.toNat : Int) := rfl
      rw [if_pos (by rw [hby, List.length_append, List.length_map, List.length_map]; omega), wrap_small _ (by omega) (by omega)]
      have h2 := ih k (i + 1) (x ++ lineA a ++ [10]) (by omega) (by omega) (by omega) ht (by simp only [List.length_append, List.length_cons, List.length_nil]; omega)
      rw [show ((i + 1 : Nat) : Int) = (i : Int) + 1 by omega] at h2
      rw [show (x.map (fun b : UInt8 => (b.toNat : Int)) ++ bytesOf (B (lineA a)) ++ [10] : List Int) = (x ++ lineA a ++ [10]).map fun b : UInt8 => (b.toNat : Int) by rw [hby]; simp]
      rw [h2, Bool.true_and]
      split
      · simp [printA]
      · rfl
theorem refprint_all (l : List S40) (hn : l.length ≤ 2147483648) (k : Nat) (hk : l.length + 4000000000 < k) (hs : ∀ a ∈ l, a.f3.size ≤ 4000000000) (ht : tot l ≤ 140737488355000) :
    tabellionref58_Print.f k l = if l.all mayA = true then some (B (printA l), 0) else some (⟨#[]⟩, 1) := by
  have h := refprint_from l hn l.length k 0 [] (by omega) (by omega) hk hs (by rw [List.drop_zero]; simp only [List.length_nil]; omega)
  rw [List.drop_zero] at h
  exact h
end Go.Proofs.YtkcnmfeenhpjpaaDoor.T
set_option linter.unusedVariables false
set_option linter.unusedSimpArgs false
namespace Go.Proofs.YtkcnmfeenhpjpaaDoor.T
open Go.Lib Go.RowKit Go.Proofs.YtkcnmfeenhpjpaaDoorW.PrintWords Go.Proofs.YtkcnmfeenhpjpaaDoorW.PrintLast Go.Proofs.YtkcnmfeenhpjpaaDoorW.PrintMore
theorem wrap_in (i : Int) (h0 : -9223372036854775808 ≤ i) (h1 : i ≤ 9223372036854775807) : wrap64 i = i := by
  unfold wrap64
  omega
/-- One character of a number, as the page reads it. -/
def stepV (x : Int) (c : UInt8) : Int := if 48 ≤ c.toNat ∧ c.toNat ≤ 57 then wrap64 ((wrap64 ((wrap64 (10 * x)) + (wrap64 (c.toNat : Int)))) - 48) else x
def finV (s : ByteArray) (u : Int) : Int × Bool := if -1000000000000000 ≤ u ∧ u ≤ 1000000000000000 ∧ itoa u = s.data.toList then (u, true) else (0, false)
def signV (s : ByteArray) (v : Int) : Int := if s.data.toList.head? = some 45 then wrap64 (-v) else v
theorem j2_eq (k : Nat) (s : ByteArray) (u : Int) : tabellionref02_Parse.j2 (k + 1) s u = some (finV s u) := by
  rw [tabellionref02_Parse.j2]
  unfold tabellionref02_In.f finV
  by_cases h0 : u ≥ -1000000000000000
  · rw [if_pos h0]
    have h0' : -1000000000000000 ≤ u := h0
    by_cases h1 : u ≤ 1000000000000000
    · rw [Option.bind_some, if_pos (by simpa using h1)]
      unfold tabellionref02_Text.f
      rw [if_pos ⟨by omega, by omega⟩, Option.bind_some, toList_data, toList_data]
      show (if itoa u = s.data.toList then some (u, true) else some (0, false)) = _
      by_cases h2 : itoa u = s.data.toList
      · rw [if_pos h2, if_pos ⟨h0', h1, h2⟩]
      · rw [if_neg h2, if_neg (fun h => h2 h.2.2)]
    · rw [Option.bind_some, if_neg (by simpa using h1), if_neg (fun h => h1 h.2.1)]
  · rw [if_neg h0, Option.bind_some, if_neg (by decide), if_neg (fun h => h0 h.1)]
theorem refnum_from (s : ByteArray) (hn : s.size ≤ 4611686018427387904) (d : Nat) : ∀ (k i : Nat) (x : Int), i ≤ s.size → s.size - i = d → d + 3 ≤ k →
    tabellionref02_Parse.l0 k s x (i : Int) = some (finV s (signV s ((s.data.toList.drop i).foldl stepV x))) := by
  have hsl : s.data.toList.length = s.size := by rw [Array.length_toList]; rfl
  induction d with
  | zero =>
    intro k i x hi hd hk
    obtain ⟨k, rfl⟩ : ∃ m, k = ((m + 1) + 1) + 1 := ⟨k - 3, by omega⟩
    rw [tabellionref02_Parse.l0, if_neg (by omega), List.drop_eq_nil_of_le (by omega), List.foldl_nil]
    unfold signV
    by_cases h0 : s.size = 0
    · have e : s.data.toList = [] := List.length_eq_zero_iff.1 (by omega)
      rw [if_neg (by omega), tabellionref02_Parse.j1, if_neg (by decide), j2_eq, e]
      rfl
    · obtain ⟨c, h1, h2⟩ := bt_drop s 0 (by omega)
      rw [List.drop_zero] at h1
      rw [show ((0 : Nat) : Int) = 0 from rfl] at h2
      rw [if_pos (by omega), if_pos (by omega), tabellionref02_Parse.j1, h2, h1]
      simp only [List.head?_cons, Option.some.injEq]
      by_cases hc : c = 45
      · subst hc
        rw [if_pos (by decide), if_pos rfl, j2_eq]
      · rw [if_neg (by rw [beq_iff_eq]; exact fun h : (c.toNat : Int) = 45 => hc ((bt_is c 45).1 h)), if_neg hc, j2_eq]
  | succ d ih =>
    intro k i x hi hd hk
    obtain ⟨k, rfl⟩ : ∃ m, k = m + 1 := ⟨k - 1, by omega⟩
    obtain ⟨c, h1, h2⟩ := bt_drop s i (by omega)
    have e1 : wrap64 ((i : Int) + 1) = ((i + 1 : Nat) : Int) := by rw [wrap_small _ (by omega) (by omega)]; omega
    rw [tabellionref02_Parse.l0, if_pos (by omega), if_pos (by omega), h1, h2, List.foldl_cons, e1]
    unfold stepV
    by_cases c1 : 48 ≤ c.toNat
    · rw [if_pos (by omega)]
      by_cases c2 : c.toNat ≤ 57
      · rw [if_pos (by omega), if_pos ⟨c1, c2⟩]
        exact ih k (i + 1) _ (by omega) (by omega) (by omega)
      · rw [if_neg (by omega), if_neg (fun h => c2 h.2)]
        exact ih k (i + 1) _ (by omega) (by omega) (by omega)
    · rw [if_neg (by omega), if_neg (fun h => c1 h.1)]
      exact ih k (i + 1) _ (by omega) (by omega) (by omega)
theorem step_digit (x : Int) (d : Nat) (hd : d < 10) (h0 : 0 ≤ x) (h1 : x ≤ 100000000000000000) : stepV x (UInt8.ofNat (48 + d)) = 10 * x + d := by
  unfold stepV
  rw [digit_nat d hd, if_pos (by omega)]
  have e1 : wrap64 (10 * x) = 10 * x := wrap_in _ (by omega) (by omega)
  have e2 : wrap64 ((48 + d : Nat) : Int) = 48 + (d : Int) := by rw [wrap_in _ (by omega) (by omega)]; omega
  have e3 : wrap64 (10 * x + (48 + (d : Int))) = 10 * x + (48 + (d : Int)) := wrap_in _ (by omega) (by omega)
  have e4 : wrap64 (10 * x + (48 + (d : Int)) - 48) = 10 * x + (48 + (d : Int)) - 48 := wrap_in _ (by omega) (by omega)
  rw [e1, e2, e3, e4]
  omega
theorem val_digits (u : Nat) : u < 100000000000000000 → (decDigits u).foldl stepV 0 = (u : Int) := by
  induction u using Nat.strongRecOn with
  | _ u ih =>
    intro hu
    rw [decDigits]
    split
    case isTrue h =>
      show stepV 0 _ = _
      rw [step_digit 0 u h (by omega) (by omega)]
      omega
    case isFalse h =>
      rw [List.foldl_append, ih (u / 10) (by omega) (by omega), List.foldl_cons, List.foldl_nil, step_digit _ _ (by omega) (by omega) (by omega)]
      omega
theorem digits_length (m : Nat) : ∀ u, u < 10 ^ (m + 1) → (decDigits u).length ≤ m + 1 := by
  induction m with
  | zero => intro u hu; rw [decDigits_one (by simpa using hu)]; simp
  | succ m ih =>
    intro u hu
    rw [decDigits]
    split
    · simp
    · rw [List.length_append, List.length_singleton]
      have := ih (u / 10) (by rw [Nat.pow_succ] at hu; omega)
      omega
theorem refnum_eq (s : ByteArray) (hs : s.size ≤ 281474976710656) (k : Nat) (hk : 30 ≤ k) : tabellionref02_Parse.f k s = num_Parse.f s := by
  have hsl : s.data.toList.length = s.size := by rw [Array.length_toList]; rfl
  obtain ⟨n, b, h1, h2, h3⟩ := num_total s hs
  rw [h1]
  unfold tabellionref02_Parse.f
  cases b with
  | true =>
    obtain ⟨a1, a2, a3⟩ := h3 rfl
    have hval : s.size ≤ 17 ∧ signV s (s.data.toList.foldl stepV 0) = n := by
      rw [← hsl, ← a3]
      unfold signV
      rw [← a3]
      by_cases hn : n < 0
      · obtain ⟨u, rfl⟩ : ∃ u : Nat, n = -(u : Int) := ⟨n.natAbs, by omega⟩
        rw [itoa_neg u (by omega)]
        have hl := digits_length 15 u (by omega)
        refine ⟨by rw [List.length_cons]; omega, ?_⟩
        rw [List.head?_cons, if_pos rfl, List.foldl_cons, show stepV 0 45 = 0 by unfold stepV; rw [if_neg (by decide)], val_digits u (by omega), wrap_in _ (by omega) (by omega)]
      · obtain ⟨u, rfl⟩ : ∃ u : Nat, n = u := ⟨n.toNat, by omega⟩
        rw [itoa_nonneg]
        have hl := digits_length 15 u (by omega)
        refine ⟨by omega, ?_⟩
        rw [val_digits u (by omega), if_neg]
        intro he
        cases hd : decDigits u with
        | nil => exact absurd hd (decDigits_ne u)
        | cons c r =>
          have hc := decDigits_all u c (by rw [hd]; exact List.mem_cons_self ..)
          rw [hd, List.head?_cons, Option.some.injEq] at he
          subst he
          exact absurd hc.1 (by decide)
    rw [if_neg (by omega)]
    have h := refnum_from s (by omega) s.size k 0 0 (by omega) (by omega) (by omega)
    rw [List.drop_zero, hval.2] at h
    rw [show ((0 : Nat) : Int) = 0 from rfl] at h
    rw [h]
    unfold finV
    rw [if_pos ⟨a1, a2, a3⟩]
  | false =>
    obtain rfl := h2 rfl
    by_cases hl : (s.size : Int) > 17
    · rw [if_pos hl]
    · rw [if_neg hl]
      have h := refnum_from s (by omega) s.size k 0 0 (by omega) (by omega) (by omega)
      rw [show ((0 : Nat) : Int) = 0 from rfl] at h
      rw [h]
      unfold finV
      rw [if_neg]
      rintro ⟨a1, a2, a3⟩
      have := num_itoa _ a1 a2
      rw [a3] at this
      rw [show B s.data.toList = s from rfl, h1] at this
      simp at this
end Go.Proofs.YtkcnmfeenhpjpaaDoor.T
set_option linter.unusedVariables false
set_option linter.unusedSimpArgs false
namespace Go.Proofs.YtkcnmfeenhpjpaaDoor.T
open Go.Lib Go.RowKit Go.Proofs.YtkcnmfeenhpjpaaDoorW.PrintWords Go.Proofs.YtkcnmfeenhpjpaaDoorW.PrintLast Go.Proofs.YtkcnmfeenhpjpaaDoorW.PrintMore
abbrev Five := Int × Int × Int × ByteArray × Int
theorem five_eta (o : Option Five) : (o.bind fun b => some (b.1, b.2.1, b.2.2.1, b.2.2.2.1, b.2.2.2.2)) = o := by cases o <;> rfl
def toldV (kk who n : Int) (t : ByteArray) : Option Five := if mayB kk who n t.data.toList = true then some (kk, who, n, t, 0) else some (0, 0, 0, ⟨#[]⟩, 1)
theorem told_eq (kk who n : Int) (t : ByteArray) (hn : t.size ≤ 4611686018427387904) (k : Nat) (hk : t.size < k) : tabellionref58_told.f k kk who n t = toldV kk who n t := by
  unfold tabellionref58_told.f
  rw [Act_eq kk who n t hn k hk, Option.bind_some]
  rfl
theorem numbered_eq (kind : Int) (h1 : kind ≠ 1) (s rest : ByteArray) (hs : s.size ≤ 281474976710656) (k : Nat) (hk : 30 ≤ k) : tabellionref58_numbered.f k kind s = script_one.g kind s rest true := by
  unfold tabellionref58_numbered.f script_one.g
  rw [refnum_eq s hs k hk]
  congr 1
  funext p
  rw [if_pos rfl, five_eta]
  split
  · rw [told_eq _ _ _ _ (by decide) k (by show 0 < k; omega), may_eq, Option.bind_some]
    rfl
  · rfl
theorem begins_eq (a p : ByteArray) : tabellionref58_begins.f a p = some (hasPrefix a.data.toList p.data.toList) := by
  have ha : a.data.toList.length = a.size := by rw [Array.length_toList]; rfl
  have hp : p.data.toList.length = p.size := by rw [Array.length_toList]; rfl
  unfold tabellionref58_begins.f
  by_cases h : (a.size : Int) ≥ (p.size : Int)
  · rw [if_pos h, if_pos (by omega), if_pos (by omega), extract_eq, toList_data, toList_data]
    show some ((List.take ((p.size : Int).toNat - 0) (a.data.toList.drop 0)) == p.data.toList) = _
    rw [List.drop_zero, Int.toNat_natCast, Nat.sub_zero]
    congr 1
    unfold hasPrefix
    rw [Bool.eq_iff_iff, List.isPrefixOf_iff_prefix, beq_iff_eq, List.prefix_iff_eq_take, hp]
    exact eq_comm
  · rw [if_neg h]
    congr 1
    unfold hasPrefix
    symm
    rw [Bool.eq_false_iff]
    intro hh
    have := (List.isPrefixOf_iff_prefix.1 hh).length_le
    omega
def whoR (s : ByteArray) (j : Nat) : Option Five := (num_Parse.f (B (s.data.toList.take j))).bind fun p => if p.2 = true then toldV 1 p.1 0 (B (s.data.toList.drop (j + 2))) else some (0, 0, 0, ⟨#[]⟩, 2)
theorem who_hit (s : ByteArray) (hn : s.size ≤ 281474976710000) (k i : Nat) (hi : i + 2 ≤ s.size) (hk : s.size + 40 < k) : tabellionref58_one.j1 (k + 1) s (i : Int) true = whoR s i := by
  have ha : s.data.toList.length = s.size := by rw [Array.length_toList]; rfl
  have e2 : wrap64 ((i : Int) + 2) = ((i + 2 : Nat) : Int) := by rw [wrap_in _ (by omega) (by omega)]; omega
  rw [tabellionref58_one.j1, if_pos rfl, if_pos (by omega), if_pos (by omega), e2, extract_eq, extract_eq]
  unfold whoR
  rw [Int.toNat_natCast, Int.toNat_natCast, List.drop_zero, Nat.sub_zero, refnum_eq _ (by show (B _).size ≤ _; rw [B_size, List.length_take]; omega) k (by omega)]
  congr 1
  funext p
  rw [List.take_of_length_le (by rw [List.length_drop]; omega)]
  split
  · rw [if_pos (by omega), if_pos (by omega), told_eq _ _ _ _ (by show (B _).size ≤ _; rw [B_size, List.length_drop]; omega) k (by show (B _).size < _; rw [B_size, List.length_drop]; omega), five_eta]
  · rfl
theorem index_cons (c : UInt8) (r : List UInt8) : index (c :: r) [58, 32] = if c = 58 ∧ r.head? = some 32 then 0 else if index r [58, 32] = -1 then -1 else index r [58, 32] + 1 := by
  rw [index]
  have e : List.isPrefixOf [58, 32] (c :: r) = true ↔ c = 58 ∧ r.head? = some 32 := by
    cases r with
    | nil => simp [List.isPrefixOf]
    | cons d r => simp [List.isPrefixOf]; exact ⟨fun h => ⟨h.1.symm, h.2.symm⟩, fun h => ⟨h.1.symm, h.2.symm⟩⟩
  by_cases h : c = 58 ∧ r.head? = some 32
  · rw [if_pos (e.2 h), if_pos h]
  · rw [if_neg (fun x => h (e.1 x)), if_neg h]
    by_cases h2 : index r [58, 32] = -1 <;> simp [h2]
def whoAll (s : ByteArray) (i : Nat) : Option Five := if 0 ≤ index (s.data.toList.drop i) [58, 32] then whoR s (i + (index (s.data.toList.drop i) [58, 32]).toNat) else some (0, 0, 0, ⟨#[]⟩, 2)
theorem whoAll_next (s : ByteArray) (i : Nat) (c : UInt8) (r : List UInt8) (h : s.data.toList.drop i = c :: r) (h2 : s.data.toList.drop (i + 1) = r) (hno : ¬ (c = 58 ∧ r.head? = some 32)) : whoAll s i = whoAll s (i + 1) := by
  unfold whoAll
  rw [h, h2, index_cons, if_neg hno]
  have hge := index_ge r [58, 32]
  by_cases hm : index r [58, 32] = -1
  · rw [if_pos hm, if_neg (by decide), if_neg (by omega)]
  · rw [if_neg hm, if_pos (by omega), if_pos (by omega)]
    congr 1
    omega
theorem who_from (s : ByteArray) (hn : s.size ≤ 281474976710000) (d : Nat) : ∀ (k i : Nat), i ≤ s.size → s.size - i = d → 2 * d + s.size + 50 < k → tabellionref58_one.l0 k s (i : Int) = whoAll s i := by
  have ha : s.data.toList.length = s.size := by rw [Array.length_toList]; rfl
  induction d with
  | zero =>
    intro k i hi hd hk
    obtain ⟨k, rfl⟩ : ∃ m, k = m + 1 := ⟨k - 1, by omega⟩
    rw [tabellionref58_one.l0, wrap_small _ (by omega) (by omega), if_neg (by omega)]
    unfold whoAll
    rw [List.drop_eq_nil_of_le (by omega), index]
    rfl
  | succ d ih =>
    intro k i hi hd hk
    obtain ⟨k, rfl⟩ : ∃ m, k = (m + 1) + 1 := ⟨k - 2, by omega⟩
    obtain ⟨c, h1, h2⟩ := bt_drop s i (by omega)
    have e1 : wrap64 ((i : Int) + 1) = ((i + 1 : Nat) : Int) := by rw [wrap_small _ (by omega) (by omega)]; omega
    rw [tabellionref58_one.l0, e1]
    by_cases hl : i + 1 < s.size
    · rw [if_pos (by omega), if_pos (by omega), if_pos (by omega), if_pos (show (0 : Int) ≤ ((i + 1 : Nat) : Int) by omega), h2]
      obtain ⟨c2, h3, h4⟩ := bt_drop s (i + 1) hl
      rw [h4]
      have next : tabellionref58_one.l0 k s ((i + 1 : Nat) : Int) = whoAll s (i + 1) := ih k (i + 1) (by omega) (by omega) (by omega)
      by_cases hc : c = 58
      · subst hc
        rw [if_pos (by decide)]
        by_cases hc2 : c2 = 32
        · subst hc2
          rw [show (((32 : UInt8).toNat : Int) == 32) = true by decide, who_hit s hn k i (by omega) (by omega)]
          unfold whoAll
          have hidx : index (58 :: s.data.toList.drop (i + 1)) [58, 32] = 0 := by rw [index_cons, if_pos ⟨rfl, by rw [h3]; rfl⟩]
          rw [h1, hidx, if_pos (by decide)]
          rfl
        · rw [show ((c2.toNat : Int) == 32) = false by rw [beq_eq_false_iff_ne]; exact fun h : (c2.toNat : Int) = 32 => hc2 ((bt_is c2 32).1 h), tabellionref58_one.j1, if_neg (by decide), e1, next]
          exact (whoAll_next s i 58 _ h1 rfl (by rw [h3]; exact fun h => hc2 (by simpa using h.2))).symm
      · rw [if_neg (fun h : (c.toNat : Int) = 58 => hc ((bt_is c 58).1 h)), tabellionref58_one.j1, if_neg (by decide), e1, next]
        exact (whoAll_next s i c _ h1 rfl (fun h => hc h.1)).symm
    · rw [if_neg (by omega)]
      have hnil : s.data.toList.drop (i + 1) = [] := List.drop_eq_nil_of_le (by omega)
      rw [whoAll_next s i c _ h1 rfl (by rw [hnil]; exact fun h => by simpa using h.2)]
      unfold whoAll
      rw [hnil, index]
      rfl
theorem drop_trim (s p : ByteArray) (n : Nat) (hp : p.data.toList.length = n) (h : hasPrefix s.data.toList p.data.toList = true) : n ≤ s.size ∧ s.extract n s.size = B (trimPrefix s.data.toList p.data.toList) := by
  have ha : s.data.toList.length = s.size := by rw [Array.length_toList]; rfl
  have hl := (List.isPrefixOf_iff_prefix.1 (show List.isPrefixOf _ _ = true from h)).length_le
  refine ⟨by omega, ?_⟩
  rw [extract_eq, List.take_of_length_le (by rw [List.length_drop]; omega)]
  unfold trimPrefix
  rw [if_pos h, hp]
theorem refone_eq (s : ByteArray) (hs : s.size ≤ 4000000000) (k : Nat) (hk : 3 * s.size + 100 < k) : tabellionref58_one.f k s = script_one.f s := by
  have ha : s.data.toList.length = s.size := by rw [Array.length_toList]; rfl
  unfold tabellionref58_one.f script_one.f
  by_cases c1 : s.toList = ([111, 112, 101, 110] : List UInt8)
  · rw [if_pos c1, if_pos c1]
  rw [if_neg c1, if_neg c1]
  by_cases c2 : s.toList = ([99, 104, 101, 99, 107, 112, 111, 105, 110, 116] : List UInt8)
  · rw [if_pos c2, if_pos c2]
  rw [if_neg c2, if_neg c2]
  have hcf : strings_Cut.f s (⟨#[58, 32]⟩ : ByteArray) = some (B (cut s.data.toList [58, 32]).1, B (cut s.data.toList [58, 32]).2.1, (cut s.data.toList [58, 32]).2.2) := by
    unfold strings_Cut.f
    rw [if_pos (by omega)]
  rw [hcf, Option.bind_some, begins_eq, Option.bind_some]
  clear hcf
  by_cases p : hasPrefix s.data.toList sPower.data.toList = true
  · obtain ⟨h6, he⟩ := drop_trim s sPower 6 rfl p
    rw [if_pos p, if_pos p, if_pos (by omega), five_eta, he]
    exact numbered_eq 2 (by decide) _ _ (by rw [← he, extract_eq]; show (B _).size ≤ _; rw [B_size, List.length_take, List.length_drop]; omega) k (by omega)
  rw [if_neg p, if_neg p, begins_eq, Option.bind_some]
  by_cases q : hasPrefix s.data.toList sFlush.data.toList = true
  · obtain ⟨h6, he⟩ := drop_trim s sFlush 6 rfl q
    rw [if_pos q, if_pos q, if_pos (by omega), five_eta, he]
    exact numbered_eq 4 (by decide) _ _ (by rw [← he, extract_eq]; show (B _).size ≤ _; rw [B_size, List.length_take, List.length_drop]; omega) k (by omega)
  rw [if_neg q, if_neg q]
  have h := who_from s (by omega) s.size k 0 (by omega) (by omega) (by omega)
  rw [show ((0 : Nat) : Int) = 0 from rfl] at h
  rw [h]
  unfold whoAll script_one.g
  rw [List.drop_zero, Nat.zero_add]
  by_cases hx : 0 ≤ index s.data.toList [58, 32]
  · rw [if_pos hx]
    have hcut : cut s.data.toList [58, 32] = (s.data.toList.take (index s.data.toList [58, 32]).toNat, s.data.toList.drop ((index s.data.toList [58, 32]).toNat + 2), true) := by
      unfold cut; rw [if_pos hx]; rfl
    rw [hcut]
    unfold whoR
    congr 1
    funext p
    rw [if_pos rfl]
    split
    · rw [if_pos rfl, may_eq, Option.bind_some]
      rfl
    · rfl
  · rw [if_neg hx]
    have hcut : cut s.data.toList [58, 32] = (s.data.toList, [], false) := by
      unfold cut; rw [if_neg hx]
    rw [hcut]
    obtain ⟨n, b, h1, _, _⟩ := num_total s (by omega)
    show _ = (num_Parse.f s).bind _
    rw [h1, Option.bind_some, if_neg (show ¬ (false = true) by decide)]
end Go.Proofs.YtkcnmfeenhpjpaaDoor.T
set_option linter.unusedVariables false
set_option linter.unusedSimpArgs false
namespace Go.Proofs.YtkcnmfeenhpjpaaDoor.T
open Go.Lib Go.RowKit Go.Proofs.YtkcnmfeenhpjpaaDoorW.PrintWords Go.Proofs.YtkcnmfeenhpjpaaDoorW.PrintLast Go.Proofs.YtkcnmfeenhpjpaaDoorW.PrintMore
theorem nums_of (n pos start d k M K a : Nat) (hw : n ≤ 4000000000) (hM : 20000000000 ≤ M) (h1 : start ≤ pos) (h2 : pos ≤ n) (h3 : n - pos = d + 1) (h4 : d + 1 < K) (h5 : d + 1 + M < k + 1) (h6 : a + (d + 1) ≤ 3518437208882) :
    pos < n ∧ (min (pos - start) (n - start) = pos - start ∧ pos - start ≤ 4000000000) ∧ n - start < 4294967281 ∧ wrap64 ((a : Int) + 1) = (a : Int) + 1 ∧ a < 3518437208883 ∧ wrap64 ((a : Int) + 1 + 1) = (a : Int) + 1 + 1 ∧ 3 * (pos - start) + 100 < k ∧ d + M < k ∧
    pos + 1 ≤ n ∧ n - (pos + 1) = d ∧ a + 1 + d ≤ 3518437208882 ∧ a + d ≤ 3518437208882 ∧ d < K - 1 ∧ d < K ∧ start ≤ pos + 1 ∧ pos + 1 - start = (pos - start) + 1 ∧ ((pos - start + 1 - (pos - start) = 1 ∧ wrap64 ((pos : Int) + 1) = ((pos + 1 : Nat) : Int)) ∧ K = K - 1 + 1) :=
  ⟨by omega, ⟨by omega, by omega⟩, by omega, wrap_small _ (by omega) (by omega), by omega, wrap_small _ (by omega) (by omega), by omega, by omega, by omega, by omega, by omega, by omega, by omega, by omega, by omega, by omega, ⟨⟨by omega, by rw [wrap_small _ (by omega) (by omega)]; omega⟩, by omega⟩⟩
theorem refparse_from (w : List UInt8) (hw : w.length ≤ 4000000000) (M : Nat) (hM : 20000000000 ≤ M) (d : Nat) : ∀ (k K start pos : Nat) (acc : List S40), start ≤ pos → pos ≤ w.length → w.length - pos = d → d < K → d + M < k → acc.length + d ≤ 3518437208882 → (10 : UInt8) ∉ (w.drop start).take (pos - start) →
    tabellionref58_Parse.l0 k (B w) acc (start : Int) (pos : Int) = script_Parse.l0 K (B (w.drop start)) acc ((acc.length : Int) + 1) := by
  have hsz : (B w).size = w.length := B_size w
  induction d with
  | zero =>
    intro k K start pos acc h1 h2 h3 h4 h5 h6 h7
    obtain ⟨k, rfl⟩ : ∃ m, k = m + 1 := ⟨k - 1, by omega⟩
    obtain ⟨K, rfl⟩ : ∃ m, K = m + 1 := ⟨K - 1, by omega⟩
    obtain rfl : pos = w.length := by omega
    rw [List.take_of_length_le (by rw [List.length_drop]; omega)] at h7
    rw [tabellionref58_Parse.l0, if_neg (by rw [hsz]; omega), script_Parse.l0, toList_data]
    show _ = if w.drop start = [] then _ else _
    by_cases hs : start < w.length
    · rw [if_pos (by rw [hsz]; omega), if_neg (by intro h; have := congrArg List.length h; rw [List.length_drop, List.length_nil] at this; omega)]
      unfold strings_Cut.f
      rw [if_pos (by rw [B_size, List.length_drop]; omega), Option.bind_some]
      rw [show (⟨#[10]⟩ : ByteArray).data.toList = [10] from rfl, show (B (w.drop start)).data.toList = w.drop start from rfl, cut_none _ _ h7]
      rw [if_neg (show ¬ (false = true) by decide), wrap_small _ (by omega) (by omega)]
    · rw [if_neg (by rw [hsz]; omega), if_pos (List.drop_eq_nil_of_le (by omega))]
  | succ d ih =>
    intro k K start pos acc h1 h2 h3 h4 h5 h6 h7
    obtain ⟨k, rfl⟩ : ∃ m, k = m + 1 := ⟨k - 1, by omega⟩
    have hsp : start + (pos - start) = pos := Nat.add_sub_cancel' h1
    obtain ⟨hpl, hp6, hp7, hp8, hp9, hp10, hp12, hk1, hq1, hq2, hq3, hq4, hq5, hq6, hq7, hq8, hq9⟩ := nums_of w.length pos start d k M K acc.length hw hM h1 h2 h3 h4 h5 h6
    clear hM hw h3 h5 h6 h2
    have hp1 : (pos : Int) < ((B w).size : Int) := by rw [hsz]; exact Int.ofNat_lt.2 hpl
    have hp2 : (0 : Int) ≤ (pos : Int) := Int.natCast_nonneg _
    have hp3 : (start : Int) ≤ (pos : Int) := Int.ofNat_le.2 h1
    have hp4 : (pos : Int) ≤ ((B w).size : Int) := Int.le_of_lt hp1
    have hp5 : (0 : Int) ≤ (start : Int) := Int.natCast_nonneg _
    have hp11 : ((w.drop start).take (pos - start)).length = pos - start := by rw [List.length_take, List.length_drop]; exact hp6.1
    have hp13 : (w.drop start).length < 4294967281 := by rw [List.length_drop]; exact hp7
    have hp14 : ((w.drop start).take (pos - start)).length ≤ 4000000000 := by rw [hp11]; exact hp6.2
    have hp15 : 3 * ((w.drop start).take (pos - start)).length + 100 < k := by rw [hp11]; exact hp12
    have hq10 : ∃ m, K = m + 1 := ⟨K - 1, hq9.2⟩
    obtain ⟨c, e1, e2⟩ := bt_drop (B w) pos (by rw [hsz]; exact hpl)
    have e1' : w.drop pos = c :: w.drop (pos + 1) := e1
    have e3 : wrap64 ((pos : Int) + 1) = ((pos + 1 : Nat) : Int) := hq9.1.2
    have split3 : w.drop start = (w.drop start).take (pos - start) ++ c :: w.drop (pos + 1) := by
      rw [← e1']
      have : w.drop pos = (w.drop start).drop (pos - start) := by rw [List.drop_drop, hsp]
      rw [this, List.take_append_drop]
    rw [tabellionref58_Parse.l0, if_pos hp1, if_pos hp2, e2, e3]
    by_cases hc : c = 10
    · subst hc
      obtain ⟨K, rfl⟩ := hq10
      have hext : (B w).extract (start : Int).toNat (pos : Int).toNat = B ((w.drop start).take (pos - start)) := by rw [extract_eq, Int.toNat_natCast, Int.toNat_natCast]
      have hcut : cut (w.drop start) [10] = ((w.drop start).take (pos - start), w.drop (pos + 1), true) := by
        have := cut_byte ((w.drop start).take (pos - start)) (w.drop (pos + 1)) 10 h7
        rw [← split3] at this
        exact this
      have hcf : strings_Cut.f (B (w.drop start)) (⟨#[10]⟩ : ByteArray) = some (B ((w.drop start).take (pos - start)), B (w.drop (pos + 1)), true) := by
        unfold strings_Cut.f
        rw [if_pos (by rw [B_size]; exact hp13), show (⟨#[10]⟩ : ByteArray).data.toList = [10] from rfl, show (B (w.drop start)).data.toList = w.drop start from rfl, hcut]
      have hne : ¬ (B (w.drop start)).toList = ([] : List UInt8) := by rw [toList_data]; show ¬ w.drop start = []; rw [split3]; simp
      obtain ⟨t, ht⟩ : ∃ t, t = (w.drop start).take (pos - start) := ⟨_, rfl⟩
      rw [← ht] at hp14 hp15 hext hcf
      rw [if_pos (by decide), if_pos hp5, if_pos hp3, if_pos hp4, hext, refone_eq (B t) (by rw [B_size]; exact hp14) k (by rw [B_size]; exact hp15)]
      rw [script_Parse.l0, if_neg hne, hcf, Option.bind_some, if_pos rfl]
      clear hcf hcut hext hne ht split3
      congr 1
      funext p
      split
      · have h := ih k K (pos + 1) (pos + 1) (acc ++ [⟨p.1, p.2.1, p.2.2.1, p.2.2.2.1⟩]) (Nat.le_refl _) hq1 hq2 hq5 hk1 (by rw [List.length_append, List.length_singleton]; exact hq3) (by simp)
        rw [h, hp10, List.length_append, List.length_singleton]
        rfl
      · rw [hp8]
    · rw [if_neg (fun h : (c.toNat : Int) = 10 => hc ((bt_is c 10).1 h))]
      refine ih k K start (pos + 1) acc hq7 hq1 hq2 hq6 hk1 hq4 ?_
      rw [hq8, split3]
      intro hm
      rw [List.take_append, hp11] at hm
      rw [List.mem_append] at hm
      rcases hm with hm | hm
      · exact h7 (List.mem_of_mem_take hm)
      · rw [hq9.1.1, List.take_succ_cons, List.take_zero, List.mem_singleton] at hm
        exact hc hm.symm
theorem refparse_eq (s : ByteArray) (hs : s.size ≤ 4000000000) (k : Nat) (hk : 30000000000 ≤ k) : tabellionref58_Parse.f k s = script_Parse.f k s := by
  have ha : s.data.toList.length = s.size := by rw [Array.length_toList]; rfl
  have h := refparse_from s.data.toList (by omega) 20000000000 (Nat.le_refl _) s.data.toList.length k k 0 0 [] (by omega) (by omega) (by omega) (by omega) (by omega) (by rw [List.length_nil]; omega) (by simp)
  exact h
end Go.Proofs.YtkcnmfeenhpjpaaDoor.T
