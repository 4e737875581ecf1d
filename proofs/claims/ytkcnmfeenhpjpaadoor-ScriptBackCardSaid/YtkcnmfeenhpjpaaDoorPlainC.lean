/- Plain laws of script.Print and script.Parse: each line is an act and each act is a line. -/
import Derived.Test.YtkcnmfeenhpjpaaDoorPlainB
import Derived.Test.YtkcnmfeenhpjpaaDoorTx5
import Derived.Test.YtkcnmfeenhpjpaaDoorTx6
import Derived.Test.YtkcnmfeenhpjpaaDoorTx21
import Derived.Test.YtkcnmfeenhpjpaaDoorTx2
set_option linter.unusedVariables false
set_option linter.unusedSimpArgs false
namespace Go.Proofs.YtkcnmfeenhpjpaaDoor.T
open Go.Lib Go.RowKit Go.Proofs.YtkcnmfeenhpjpaaDoorW.PrintWords Go.Proofs.YtkcnmfeenhpjpaaDoorW.PrintLast Go.Proofs.YtkcnmfeenhpjpaaDoorW.PrintMore

def mayA (a : S40) : Bool := mayB a.f0 a.f1 a.f2 a.f3.data.toList
def lineA (a : S40) : List UInt8 := lineL a.f0 a.f1 a.f2 a.f3.data.toList
/-- All lines, each with its line feed. -/
def printA : List S40 → List UInt8
  | [] => []
  | a :: l => lineA a ++ 10 :: printA l

theorem printA_append (l m : List S40) : printA (l ++ m) = printA l ++ printA m := by
  induction l with
  | nil => rfl
  | cons a l ih => simp [printA, ih]

theorem length_le_printA (l : List S40) : l.length ≤ (printA l).length := by
  induction l with
  | nil => exact Nat.le_refl _
  | cons a l ih => simp only [printA, List.length_cons, List.length_append]; omega

theorem line_eq (a : S40) (h : mayA a = true) (hs : a.f3.size ≤ 4000000000) : script_line.f a.f0 a.f1 a.f2 a.f3 = some (B (lineA a)) := by
  obtain ⟨k, who, n, t⟩ := a
  have hts : t.data.toList.length = t.size := by rw [Array.length_toList]; rfl
  unfold mayA mayB at h
  unfold script_line.f lineA lineL num_Text.f strconv_Itoa.f
  simp only at h hs ⊢
  split at h
  case isTrue c1 =>
    simp only [Bool.and_eq_true, decide_eq_true_eq] at h
    have hl := itoa_length_le who (by omega) (by omega)
    rw [if_pos c1, if_pos c1, if_pos ⟨by omega, by omega⟩]
    simp only [Option.bind_some]
    have hb : (⟨(itoa who).toArray⟩ : ByteArray).size = (itoa who).length := B_size _
    rw [if_pos (by rw [hb]; omega)]
    rw [if_pos (by rw [ByteArray.size_append, hb]; show (itoa who).length + 2 + t.size ≤ _; omega)]
    congr 1
  case isFalse c1 =>
    rw [if_neg c1, if_neg c1]
    split at h
    case isTrue c2 =>
      simp only [Bool.and_eq_true, decide_eq_true_eq] at h
      have hl := itoa_length_le n (by omega) (by omega)
      rw [if_pos c2, if_pos c2, if_pos ⟨by omega, by omega⟩]
      simp only [Option.bind_some]
      have hb : (⟨(itoa n).toArray⟩ : ByteArray).size = (itoa n).length := B_size _
      rw [if_pos (by rw [hb]; omega)]
      congr 1
    case isFalse c2 =>
      rw [if_neg c2, if_neg c2]
      split at h
      case isTrue c4 =>
        simp only [Bool.and_eq_true, decide_eq_true_eq] at h
        have hl := itoa_length_le n (by omega) (by omega)
        rw [if_pos c4, if_pos c4, if_pos ⟨by omega, by omega⟩]
        simp only [Option.bind_some]
        have hb : (⟨(itoa n).toArray⟩ : ByteArray).size = (itoa n).length := B_size _
        rw [if_pos (by rw [hb]; omega)]
        congr 1
      case isFalse c4 =>
        rw [if_neg c4, if_neg c4]
        split at h
        case isFalse => cases h
        case isTrue c35 =>
          by_cases c3 : k = 3
          · rw [if_pos c3, if_pos c3]
          · rw [if_neg c3, if_neg c3]

theorem wrap_small (i : Int) (h0 : 0 ≤ i) (h1 : i ≤ 4611686018427387904) : wrap64 (i + 1) = i + 1 := by
  unfold wrap64; omega

/-- A bound of the lines' bytes. -/
def tot : List S40 → Nat
  | [] => 0
  | a :: l => 64 + a.f3.size + tot l

theorem line_size (a : S40) (h : mayA a = true) : (lineA a).length ≤ a.f3.size + 60 := by
  have := line_length a.f0 a.f1 a.f2 a.f3.data.toList h
  have hts : a.f3.data.toList.length = a.f3.size := by rw [Array.length_toList]; rfl
  unfold lineA; omega

theorem text_le_tot (l : List S40) : ∀ a ∈ l, a.f3.size ≤ tot l := by
  induction l with
  | nil => intro a h; cases h
  | cons b l ih =>
    intro a h
    rw [List.mem_cons] at h
    simp only [tot]
    rcases h with rfl | h
    · omega
    · have := ih a h; omega

theorem printA_le_tot (l : List S40) (h : l.all mayA = true) : (printA l).length ≤ tot l := by
  induction l with
  | nil => exact Nat.le_refl _
  | cons a l ih =>
    rw [List.all_cons, Bool.and_eq_true] at h
    have h1 := line_size a h.1
    have h2 := ih h.2
    simp only [printA, tot, List.length_append, List.length_cons]; omega

theorem B_append (x : ByteArray) (l m : List UInt8) : x ++ B (l ++ m) = (x ++ B l) ++ B m := by
  apply ByteArray.ext
  simp [B]

theorem rd_drop (l : List S40) (i : Nat) (h : i < l.length) : l.drop i = rd_T40 l (i : Int) :: l.drop (i + 1) := by
  unfold rd_T40
  rw [List.drop_eq_getElem_cons h]
  congr 1
  rw [List.getD_eq_getElem?_getD]
  simp [h]

/-- The acts, from the i-th on: all may be, or the first that may not. -/
theorem print_from (l : List S40) (hn : l.length ≤ 2147483648) (d : Nat) : ∀ (k : Nat) (i : Nat) (x : ByteArray), i ≤ l.length → l.length - i = d → d < k → (∀ a ∈ l, a.f3.size ≤ 4000000000) → x.size + tot (l.drop i) ≤ 4611686018427387904 →
    script_Print.l0 k x l (l.length : Int) (i : Int) = if (l.drop i).all mayA = true then some (x ++ B (printA (l.drop i)), 0) else some (⟨#[]⟩, 1) := by
  induction d with
  | zero =>
    intro k i x hi hd hk _ _
    obtain ⟨k, rfl⟩ : ∃ m, k = m + 1 := ⟨k - 1, by omega⟩
    obtain rfl : i = l.length := by omega
    simp only [script_Print.l0]
    rw [if_neg (by omega), List.drop_length, List.all_nil, if_pos rfl]
    congr 1
    congr 1
    apply ByteArray.ext
    simp [B, printA]
  | succ d ih =>
    intro k i x hi hd hk ht hx
    obtain ⟨k, rfl⟩ : ∃ m, k = m + 1 := ⟨k - 1, by omega⟩
    have hlt : i < l.length := by omega
    have hdr := rd_drop l i hlt
    have hmem : rd_T40 l (i : Int) ∈ l := List.mem_of_mem_drop (by rw [hdr]; exact List.mem_cons_self ..)
    simp only [script_Print.l0]
    rw [if_pos (by omega), if_pos (by omega), if_pos (by omega), may_eq, Option.bind_some]
    rw [hdr] at hx ⊢
    rw [List.all_cons]
    simp only [tot] at hx
    obtain ⟨a, ha⟩ : ∃ a, a = rd_T40 l (i : Int) := ⟨_, rfl⟩
    rw [← ha] at hmem hx ⊢
    cases hm : mayA a with
    | false =>
      rw [show mayB a.f0 a.f1 a.f2 a.f3.data.toList = false from hm, Bool.false_and, if_neg (by decide), if_neg (by decide)]
    | true =>
      have hl := line_size a hm
      rw [show mayB a.f0 a.f1 a.f2 a.f3.data.toList = true from hm, if_pos rfl, line_eq a hm (ht a hmem), Option.bind_some]
      have hb : (B (lineA a)).size = (lineA a).length := B_size _
      have hb2 : (B (lineA a) ++ (⟨#[10]⟩ : ByteArray)).size = (lineA a).length + 1 := by rw [ByteArray.size_append, hb]; rfl
      rw [if_pos (by rw [hb]; omega), if_pos (by rw [hb2]; omega), wrap_small _ (by omega) (by omega)]
      have h2 := ih k (i + 1) (x ++ (B (lineA a) ++ (⟨#[10]⟩ : ByteArray))) (by omega) (by omega) (by omega) ht (by rw [ByteArray.size_append, hb2]; omega)
      rw [show ((i + 1 : Nat) : Int) = (i : Int) + 1 by omega] at h2
      rw [h2, Bool.true_and]
      split
      · congr 2
        apply ByteArray.ext
        simp [B, printA]
      · rfl

theorem print_all (l : List S40) (hn : l.length ≤ 2147483648) (k : Nat) (hk : l.length < k) (hs : ∀ a ∈ l, a.f3.size ≤ 4000000000) (ht : tot l ≤ 4611686018427387904) :
    script_Print.f k l = if l.all mayA = true then some (B (printA l), 0) else some (⟨#[]⟩, 1) := by
  have h := print_from l hn l.length k 0 ⟨#[]⟩ (by omega) (by omega) hk hs (by show 0 + _ ≤ _; rw [List.drop_zero]; omega)
  unfold script_Print.f
  rw [show ((0 : Nat) : Int) = 0 from rfl] at h
  rw [h, List.drop_zero]
  split
  · congr 2
  · rfl

/-- A printed text, and what follows, is read as its acts, and what follows. -/
theorem parse_printed (rest : List UInt8) : ∀ (l acc : List S40) (k : Nat) (n : Int), l.all mayA = true → (printA l ++ rest).length ≤ 4000000000 → l.length ≤ k → acc.length + l.length ≤ 3518437208882 → 0 ≤ n → n + l.length ≤ 4611686018427387904 →
    script_Parse.l0 k (B (printA l ++ rest)) acc n = script_Parse.l0 (k - l.length) (B rest) (acc ++ l) (n + l.length) := by
  intro l
  induction l with
  | nil => intro acc k n _ _ _ _ _ _; simp [printA]
  | cons a l ih =>
    intro acc k n hm hs hk hc h0 h1
    rw [List.all_cons, Bool.and_eq_true] at hm
    simp only [List.length_cons] at hk hc h1
    obtain ⟨k, rfl⟩ : ∃ m, k = m + 1 := ⟨k - 1, by omega⟩
    have he : printA (a :: l) ++ rest = lineA a ++ 10 :: (printA l ++ rest) := by simp [printA]
    have hlen : (printA (a :: l) ++ rest).length = (lineA a).length + ((printA l ++ rest).length + 1) := by rw [he, List.length_append, List.length_cons]
    simp only [script_Parse.l0]
    rw [if_neg (by rw [toList_data, he]; simp)]
    unfold strings_Cut.f
    rw [if_pos (by rw [B_size]; omega), Option.bind_some]
    rw [show (B (printA (a :: l) ++ rest)).data.toList = printA (a :: l) ++ rest from rfl, he, show (⟨#[10]⟩ : ByteArray).data.toList = [10] from rfl, cut_byte (lineA a) _ _ (line_no10 _ _ _ _ hm.1)]
    have hts : a.f3.data.toList.length = a.f3.size := by rw [Array.length_toList]; rfl
    have hts2 : a.f3.data.toList.length ≤ (lineA a).length ∨ a.f3.data.toList.length ≤ 4000000000 := by
      by_cases c1 : a.f0 = 1
      · left
        unfold lineA lineL
        rw [if_pos c1]
        simp
        omega
      · right
        have hm1 := hm.1
        unfold mayA mayB at hm1
        rw [if_neg c1] at hm1
        split at hm1
        · simp only [Bool.and_eq_true, decide_eq_true_eq] at hm1; rw [hm1.2]; decide
        · split at hm1
          · simp only [Bool.and_eq_true, decide_eq_true_eq] at hm1; rw [hm1.2]; decide
          · split at hm1
            · simp only [Bool.and_eq_true, decide_eq_true_eq] at hm1; rw [hm1.2]; decide
            · cases hm1
    have ho := one_of_line a.f0 a.f1 a.f2 a.f3.data.toList hm.1 (by have : (lineA a).length ≤ 4000000000 := by omega
                                                                    omega)
    rw [show lineL a.f0 a.f1 a.f2 a.f3.data.toList = lineA a from rfl] at ho
    rw [if_pos rfl]
    rw [show (⟨(lineA a, printA l ++ rest, true).1.toArray⟩ : ByteArray) = B (lineA a) from rfl, ho, Option.bind_some]
    simp only [if_true]
    rw [if_pos (by omega), wrap_small n h0 (by omega)]
    rw [show (⟨a.f0, a.f1, a.f2, B a.f3.data.toList⟩ : S40) = a from rfl]
    have h2 := ih (acc ++ [a]) k (n + 1) hm.2 (by omega) (by omega) (by rw [List.length_append, List.length_singleton]; omega) (by omega) (by omega)
    rw [show k + 1 - (a :: l).length = k - l.length by rw [List.length_cons]; omega]
    rw [show n + ((a :: l).length : Int) = n + 1 + (l.length : Int) by rw [List.length_cons]; omega]
    rw [show acc ++ a :: l = (acc ++ [a]) ++ l by simp]
    exact h2

theorem first_of (s : List UInt8) (c : UInt8) (h : c ∈ s) : ∃ t r, c ∉ t ∧ s = t ++ c :: r := by
  induction s with
  | nil => cases h
  | cons b s ih =>
    by_cases hb : c = b
    · subst hb; exact ⟨[], s, by simp, rfl⟩
    · rw [List.mem_cons] at h
      obtain ⟨t, r, h1, h2⟩ := ih (h.resolve_left hb)
      exact ⟨b :: t, r, by rw [List.mem_cons]; exact fun h => h.elim hb h1, by rw [h2]; rfl⟩

/-- Whatever text is read: its acts, of which it is the print; or an error at a line, and no acts. -/
theorem parse_any (d : Nat) : ∀ (s : List UInt8) (acc : List S40) (k : Nat) (n : Int), s.length ≤ d → d ≤ 4000000000 → d < k → acc.length + d ≤ 3518437208882 → 1 ≤ n → n + d ≤ 4611686018427387904 →
    (∃ l, script_Parse.l0 k (B s) acc n = some (acc ++ l, 0, 0) ∧ l.all mayA = true ∧ printA l = s) ∨ (∃ m e, script_Parse.l0 k (B s) acc n = some ([], m, e) ∧ e ≠ 0 ∧ 1 ≤ m) := by
  induction d with
  | zero =>
    intro s acc k n hs _ hk _ _ _
    obtain ⟨k, rfl⟩ : ∃ m, k = m + 1 := ⟨k - 1, by omega⟩
    obtain rfl : s = [] := List.length_eq_zero_iff.1 (by omega)
    left
    refine ⟨[], ?_, rfl, rfl⟩
    simp only [script_Parse.l0]
    rw [if_pos (by rw [toList_data]), List.append_nil]
  | succ d ih =>
    intro s acc k n hs hd hk hc hn hm
    obtain ⟨k, rfl⟩ : ∃ m, k = m + 1 := ⟨k - 1, by omega⟩
    by_cases hs0 : s = []
    · subst hs0
      left
      refine ⟨[], ?_, rfl, rfl⟩
      simp only [script_Parse.l0]
      rw [if_pos (by rw [toList_data]), List.append_nil]
    · have hcut : strings_Cut.f (B s) ⟨#[10]⟩ = some (B (cut s [10]).1, B (cut s [10]).2.1, (cut s [10]).2.2) := by
        unfold strings_Cut.f
        rw [if_pos (by rw [B_size]; omega)]
      simp only [script_Parse.l0]
      rw [if_neg (by rw [toList_data]; exact hs0), hcut, Option.bind_some]
      simp only
      by_cases h10 : (10 : UInt8) ∈ s
      · obtain ⟨t, r, hne, rfl⟩ : ∃ t r, (10 : UInt8) ∉ t ∧ s = t ++ 10 :: r := by
          exact first_of s 10 h10
        rw [cut_byte t r 10 hne, if_pos rfl]
        rw [List.length_append, List.length_cons] at hs
        obtain ⟨kk, w, m, x, e, ho, hoe⟩ := one_total (B t) (by rw [B_size]; omega)
        rw [ho, Option.bind_some]
        simp only
        by_cases he : e = 0
        · subst he
          obtain ⟨hv, hl⟩ := hoe rfl
          rw [if_pos rfl, if_pos (by omega), wrap_small n (by omega) (by omega)]
          rcases ih r (acc ++ [⟨kk, w, m, x⟩]) k (n + 1) (by omega) (by omega) (by omega) (by rw [List.length_append, List.length_singleton]; omega) (by omega) (by omega) with ⟨l, h1, h2, h3⟩ | ⟨m2, e2, h1, h2, h3⟩
          · left
            refine ⟨⟨kk, w, m, x⟩ :: l, ?_, ?_, ?_⟩
            · rw [h1]; simp
            · rw [List.all_cons, h2, Bool.and_true]; exact hv
            · simp only [printA, lineA]; rw [hl, h3]
          · right
            exact ⟨m2, e2, h1, h2, h3⟩
        · rw [if_neg he]
          right
          exact ⟨n, e, rfl, he, hn⟩
      · rw [cut_none s 10 h10, if_neg (by intro h; cases h)]
        right
        exact ⟨n, 3, rfl, by decide, hn⟩
end Go.Proofs.YtkcnmfeenhpjpaaDoor.T
