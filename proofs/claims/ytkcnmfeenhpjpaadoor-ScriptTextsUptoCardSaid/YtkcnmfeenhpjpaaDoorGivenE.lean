/- value.Text: a value as it is written. -/
import Derived.Test.YtkcnmfeenhpjpaaDoorGivenB
import Derived.WalkSpells
set_option linter.unusedVariables false
set_option linter.unusedSimpArgs false
namespace Go.Proofs.YtkcnmfeenhpjpaaDoor
open Go.RowKit Go.Proofs.YtkcnmfeenhpjpaaDoorW.PrintWords Go.Proofs.YtkcnmfeenhpjpaaDoorW.PrintLast Go.Proofs.YtkcnmfeenhpjpaaDoorW.PrintMore
abbrev bTrue : ByteArray := ⟨#[116, 114, 117, 101]⟩
abbrev bFalse : ByteArray := ⟨#[102, 97, 108, 115, 101]⟩
abbrev bNull : ByteArray := ⟨#[110, 117, 108, 108]⟩
abbrev bQuote : ByteArray := ⟨#[39]⟩
def value_Text.f (a0_0 a0_1 : Int) (a0_2 : ByteArray) : Option ByteArray :=
  if a0_0 = 1 then (if a0_1 = 0 then some bFalse else some bTrue)
  else if a0_0 = 2 then strconv_Itoa.f a0_1
  else if a0_0 = 3 then (strings_ReplaceAll.f a0_2 ⟨#[39]⟩ ⟨#[39, 39]⟩).bind fun t => if t.size ≤ 281474976710656 then some (bQuote ++ t ++ bQuote) else none
  else some bNull
set_option maxRecDepth 100000 in
theorem vt_bool (n : Int) (s : ByteArray) (w : World) (h : (n == 0) = false) :
    Calls Tryd.prog 25 #[.agg #[.int .i64 1, .int .i64 n, .string s]] w fun e w' => e = .returned (.string bTrue) ∧ Below w.heap.size w w' := by
  have h' : (n != 0) = true := by simpa using h
  go_enter Tryd.func25, Tryd.ntmps25
  go_wp2
  go_ret
  exact ⟨rfl, (Below.refl _ _).alloc (Nat.le_refl _) _⟩
set_option maxRecDepth 100000 in
theorem vt_bool0 (s : ByteArray) (w : World) :
    Calls Tryd.prog 25 #[.agg #[.int .i64 1, .int .i64 0, .string s]] w fun e w' => e = .returned (.string bFalse) ∧ Below w.heap.size w w' := by
  go_enter Tryd.func25, Tryd.ntmps25
  go_wp2
  go_ret
  exact ⟨rfl, (Below.refl _ _).alloc (Nat.le_refl _) _⟩
set_option maxRecDepth 100000 in
theorem vt_int (n : Int) (s : ByteArray) (w : World) (hG : Glob w) (h0 : -9223372036854775808 ≤ n) (h1 : n ≤ 9223372036854775807) :
    Calls Tryd.prog 25 #[.agg #[.int .i64 2, .int .i64 n, .string s]] w fun e w' => e = .returned (.string ⟨(Lib.itoa n).toArray⟩) ∧ Below w.heap.size w w' := by
  have HB : ∀ o, Below w.heap.size w (w.alloc o) := fun o => (Below.refl _ _).alloc (Nat.le_refl _) _
  have HC := Aside0.mk (fun o => num_Text_any n (w.alloc o) (hG.below (HB o)) h0 h1)
  have HB' := Aside0.mk HB
  clear hG HB
  go_enter Tryd.func25, Tryd.ntmps25
  go_wp2_with (go_at_call 23; refine (HC.out _).mono ?_; rintro e w' ⟨rfl, hb⟩)
  go_ret
  exact ⟨rfl, (HB'.out _).trans (hb.mono (HB'.out _).size)⟩
set_option maxRecDepth 100000 in
theorem vt_text (n : Int) (s t : ByteArray) (w : World) (hG : Glob w) (h : strings_ReplaceAll.f s ⟨#[39]⟩ ⟨#[39, 39]⟩ = some t) (ht : t.size ≤ 281474976710656) :
    Calls Tryd.prog 25 #[.agg #[.int .i64 3, .int .i64 n, .string s]] w fun e w' => e = .returned (.string (bQuote ++ t ++ bQuote)) ∧ Below w.heap.size w w' := by
  have HB : ∀ o, Below w.heap.size w (w.alloc o) := fun o => (Below.refl _ _).alloc (Nat.le_refl _) _
  have HC := Aside0.mk (fun o => strings_ReplaceAll.calls s ⟨#[39]⟩ ⟨#[39, 39]⟩ t (w.alloc o) (hG.below (HB o)) h)
  have HB' := Aside0.mk HB
  clear hG HB h
  go_enter Tryd.func25, Tryd.ntmps25
  go_wp2_with (go_at_call 42; refine (HC.out _).mono ?_; rintro e w' ⟨rfl, hb⟩)
  all_goals go_ret
  all_goals exact ⟨rfl, (HB'.out _).trans (hb.mono (HB'.out _).size)⟩
set_option maxRecDepth 100000 in
theorem vt_null (k n : Int) (s : ByteArray) (w : World) (h1 : (k == 1) = false) (h2 : (k == 2) = false) (h3 : (k == 3) = false) :
    Calls Tryd.prog 25 #[.agg #[.int .i64 k, .int .i64 n, .string s]] w fun e w' => e = .returned (.string bNull) ∧ Below w.heap.size w w' := by
  go_enter Tryd.func25, Tryd.ntmps25
  go_wp2
  go_ret
  exact ⟨rfl, (Below.refl _ _).alloc (Nat.le_refl _) _⟩
theorem value_Text.calls (a0_0 a0_1 : Int) (a0_2 r : ByteArray) (w : World) (hG : Glob w) (h : value_Text.f a0_0 a0_1 a0_2 = some r) :
    Calls Tryd.prog 25 #[.agg #[.int .i64 a0_0, .int .i64 a0_1, .string a0_2]] w fun e w' => e = .returned (.string r) ∧ Below w.heap.size w w' := by
  unfold value_Text.f at h
  by_cases c1 : a0_0 = 1
  · subst c1
    rw [if_pos rfl] at h
    by_cases c : a0_1 = 0
    · subst c; rw [if_pos rfl] at h; obtain rfl := Option.some.inj h; exact vt_bool0 _ _
    · rw [if_neg c] at h; obtain rfl := Option.some.inj h; exact vt_bool _ _ _ (by simpa using c)
  rw [if_neg c1] at h
  by_cases c2 : a0_0 = 2
  · subst c2
    rw [if_pos rfl] at h
    unfold strconv_Itoa.f at h
    split at h
    case isFalse => simp at h
    case isTrue hs => obtain rfl := Option.some.inj h; exact vt_int _ _ _ hG hs.1 hs.2
  rw [if_neg c2] at h
  by_cases c3 : a0_0 = 3
  · subst c3
    rw [if_pos rfl] at h
    obtain ⟨t, ht, h⟩ := Option.bind_eq_some_iff.mp h
    split at h
    case isFalse => simp at h
    case isTrue hs => obtain rfl := Option.some.inj h; exact vt_text _ _ _ _ hG ht hs
  rw [if_neg c3] at h
  obtain rfl := Option.some.inj h
  exact vt_null _ _ _ _ (by simpa using c1) (by simpa using c2) (by simpa using c3)
end Go.Proofs.YtkcnmfeenhpjpaaDoor
