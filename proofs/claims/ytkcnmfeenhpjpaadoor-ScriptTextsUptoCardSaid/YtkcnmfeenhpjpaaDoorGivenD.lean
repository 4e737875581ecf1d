/- tabellionref02.Text: a number's decimal numeral; value.Text: a value as it is written. -/
import Derived.Test.YtkcnmfeenhpjpaaDoorGivenB
import Derived.WalkSpells
import Derived.Deep.QuietTactic
import Derived.Lib.ItoaLen
import Derived.IntWalk
set_option linter.unusedVariables false
set_option linter.unusedSimpArgs false
namespace Go.Proofs.YtkcnmfeenhpjpaaDoor
open Go.RowKit Go.Proofs.YtkcnmfeenhpjpaaDoorW.PrintWords Go.Proofs.YtkcnmfeenhpjpaaDoorW.PrintLast Go.Proofs.YtkcnmfeenhpjpaaDoorW.PrintMore
theorem ten_piece (m : Nat) (h : m < 10) : (⟨#[48, 49, 50, 51, 52, 53, 54, 55, 56, 57]⟩ : ByteArray).extract m (m + 1) = ⟨#[UInt8.ofNat (48 + m)]⟩ := by
  rw [Lib.extract_eq]
  match m, h with
  | 0, _ => rfl
  | 1, _ => rfl
  | 2, _ => rfl
  | 3, _ => rfl
  | 4, _ => rfl
  | 5, _ => rfl
  | 6, _ => rfl
  | 7, _ => rfl
  | 8, _ => rfl
  | 9, _ => rfl
set_option maxRecDepth 100000 in
theorem ref02_small (n : Int) (w : World) (h0 : 0 ≤ n) (h1 : n < 10) :
    Calls Tryd.prog 26 #[.int .i64 n] w fun e w' => e = .returned (.string ⟨(Lib.itoa n).toArray⟩) ∧ ∃ m, w' = w.drewN m := by
  obtain ⟨m, rfl⟩ : ∃ m : Nat, n = m := ⟨n.toNat, by omega⟩
  have HM := Aside0.mk (ten_piece m (by omega))
  have HI : Aside0 (Lib.itoa (m : Int) = [UInt8.ofNat (48 + m)]) := ⟨by rw [Lib.itoa_nonneg, Lib.decDigits_one (by omega)]⟩
  go_enter Tryd.func26, Tryd.ntmps26
  go_wp2
  go_ret
  exact ⟨by rw [HI.out]; exact congrArg (fun z => Ending.returned (Value.string z)) HM.out, 0, rfl⟩
set_option maxRecDepth 100000 in
theorem ref02_smallneg (m : Nat) (w : World) (h0 : 1 ≤ m) (h1 : m < 10) :
    Calls Tryd.prog 26 #[.int .i64 (-(m : Int))] w fun e w' => e = .returned (.string ⟨(Lib.itoa (-(m : Int))).toArray⟩) ∧ ∃ m, w' = w.drewN m := by
  have HM := Aside0.mk (ten_piece m (by omega))
  have HI : Aside0 (Lib.itoa (-(m : Int)) = [45, UInt8.ofNat (48 + m)]) := ⟨by rw [Lib.itoa_neg m (by omega), Lib.decDigits_one (by omega)]⟩
  have g0 : decide (0 ≤ -(m : Int)) = false := decide_eq_false (by omega)
  have g1 : -(m : Int) < 0 := by omega
  have g2 : -10 < -(m : Int) := by omega
  go_enter Tryd.func26, Tryd.ntmps26
  go_wp2
  go_ret
  have e : (⟨#[45]⟩ : ByteArray) ++ (⟨#[48, 49, 50, 51, 52, 53, 54, 55, 56, 57]⟩ : ByteArray).extract m (m + 1) = ⟨(Lib.itoa (-(m : Int))).toArray⟩ := by rw [HM.out, HI.out]; rfl
  rw [Nat.add_comm m 1] at e
  exact ⟨congrArg (fun z => Ending.returned (Value.string z)) e, 0, rfl⟩
theorem bytes_append1 (l : List UInt8) (c : UInt8) : (⟨l.toArray⟩ : ByteArray) ++ ⟨#[c]⟩ = ⟨(l ++ [c]).toArray⟩ := by
  apply ByteArray.ext
  simp
theorem quo_pos (n : Int) (h0 : 10 ≤ n) : Lib.itoa n = Lib.itoa (n / 10) ++ [UInt8.ofNat (48 + (n % 10).toNat)] := by
  obtain ⟨u, rfl⟩ : ∃ u : Nat, n = u := ⟨n.toNat, by omega⟩
  rw [show (u : Int) / 10 = ((u / 10 : Nat) : Int) by omega, show ((u : Int) % 10).toNat = u % 10 by omega, Lib.itoa_nonneg, Lib.itoa_nonneg, Lib.decDigits, dif_neg (by omega)]
set_option maxRecDepth 100000 in
theorem ref02_pos (n : Int) (w : World) (h0 : 10 ≤ n) (h1 : n ≤ 9223372036854775807) (ih : ∀ w, Calls Tryd.prog 26 #[.int .i64 (n / 10)] w fun e w' => e = .returned (.string ⟨(Lib.itoa (n / 10)).toArray⟩) ∧ ∃ m, w' = w.drewN m) :
    Calls Tryd.prog 26 #[.int .i64 n] w fun e w' => e = .returned (.string ⟨(Lib.itoa n).toArray⟩) ∧ ∃ m, w' = w.drewN m := by
  have HM := Aside0.mk (ten_piece (n % 10).toNat (by omega))
  have HI := Aside0.mk (quo_pos n h0)
  have hl := Lib.itoa_length_le (n / 10) (by omega) (by omega)
  have g0 : 0 ≤ n := by omega
  have g1 : ¬ n < 10 := by omega
  have g2 : decide (n < 0) = false := decide_eq_false (by omega)
  have g3 : 0 ≤ n % 10 := by omega
  have g4 : n % 10 < 10 := by omega
  go_enter Tryd.func26, Tryd.ntmps26
  go_wp2_with fail
  have e1 : IntKind.i64.wrap (Int.tdiv n 10) = n / 10 := by rw [Int.tdiv_eq_ediv_of_nonneg (by omega)]; exact IntWalk.i64_in _ (by omega)
  have e2 : IntKind.i64.wrap (n % 10 + 1) = n % 10 + 1 := IntWalk.i64_in _ (by omega)
  have e3 : 0 ≤ n % 10 + 1 := by omega
  have e4 : (n % 10 + 1).toNat = (n % 10).toNat + 1 := by omega
  have e5 : n % 10 ≤ n % 10 + 1 := by omega
  have e6 : n % 10 + 1 ≤ 10 := by omega
  go_quiet ((go_at_call 26; exact Calls.quiet_of (ih _)))
  go_wp2
  go_ret
  have e : (⟨(Lib.itoa (n / 10)).toArray⟩ : ByteArray) ++ (⟨#[48, 49, 50, 51, 52, 53, 54, 55, 56, 57]⟩ : ByteArray).extract (n % 10).toNat ((n % 10).toNat + 1) = ⟨(Lib.itoa n).toArray⟩ := by rw [HM.out, HI.out]; exact bytes_append1 _ _
  exact ⟨congrArg (fun z => Ending.returned (Value.string z)) e, _, rfl⟩
theorem quo_neg (u : Nat) (h0 : 10 ≤ u) : Lib.itoa (-(u : Int)) = Lib.itoa (-((u / 10 : Nat) : Int)) ++ [UInt8.ofNat (48 + u % 10)] := by
  rw [Lib.itoa_neg u (by omega), Lib.itoa_neg (u / 10) (by omega), Lib.decDigits, dif_neg (by omega)]; rfl
set_option maxRecDepth 100000 in
theorem ref02_neg (u : Nat) (w : World) (h0 : 10 ≤ u) (h1 : u ≤ 9223372036854775808) (ih : ∀ w, Calls Tryd.prog 26 #[.int .i64 (-((u / 10 : Nat) : Int))] w fun e w' => e = .returned (.string ⟨(Lib.itoa (-((u / 10 : Nat) : Int))).toArray⟩) ∧ ∃ m, w' = w.drewN m) :
    Calls Tryd.prog 26 #[.int .i64 (-(u : Int))] w fun e w' => e = .returned (.string ⟨(Lib.itoa (-(u : Int))).toArray⟩) ∧ ∃ m, w' = w.drewN m := by
  obtain ⟨d, hd⟩ : ∃ d : Nat, d = u % 10 := ⟨_, rfl⟩
  obtain ⟨q, hq⟩ : ∃ q : Nat, q = u / 10 := ⟨_, rfl⟩
  rw [← hq] at ih
  have HM := Aside0.mk (ten_piece d (by omega))
  have HI : Aside0 (Lib.itoa (-(u : Int)) = Lib.itoa (-(q : Int)) ++ [UInt8.ofNat (48 + d)]) := ⟨by rw [quo_neg u h0, hd, hq]⟩
  have hl := Lib.itoa_length_le (-(q : Int)) (by omega) (by omega)
  obtain ⟨n, hn⟩ : ∃ n : Int, n = -(u : Int) := ⟨_, rfl⟩
  rw [← hn] at HI ⊢
  have E1 := Aside0.mk (show IntKind.i64.wrap (Int.tdiv n 10) = -(q : Int) by
    rw [hn, Int.neg_tdiv, Int.tdiv_eq_ediv_of_nonneg (by omega), show (u : Int) / 10 = (q : Int) by omega]; exact IntWalk.i64_in _ (by omega))
  have E0 : Int.tmod n 10 = -(d : Int) := by rw [hn, Int.neg_tmod, Int.tmod_eq_emod_of_nonneg (by omega)]; omega
  have g0 : decide (0 ≤ n) = false := decide_eq_false (by omega)
  have g1 : n < 0 := by omega
  have g2 : decide (-10 < n) = false := decide_eq_false (by omega)
  have g3 : d < 10 := by omega
  clear hq hd hn h0 h1
  by_cases hd0 : d = 0
  · subst hd0
    go_enter Tryd.func26, Tryd.ntmps26
    go_wp2_with fail
    have e1 := E1.out
    go_quiet ((go_at_call 26; exact Calls.quiet_of (ih _)))
    go_wp2
    go_ret
    have e : (⟨(Lib.itoa (-(q : Int))).toArray⟩ : ByteArray) ++ (⟨#[48, 49, 50, 51, 52, 53, 54, 55, 56, 57]⟩ : ByteArray).extract 0 (0 + 1) = ⟨(Lib.itoa n).toArray⟩ := by rw [HM.out, HI.out]; exact bytes_append1 _ _
    exact ⟨congrArg (fun z => Ending.returned (Value.string z)) e, _, rfl⟩
  · have g4 : -(d : Int) < 0 := by omega
    go_enter Tryd.func26, Tryd.ntmps26
    go_wp2_with fail
    have e1 := E1.out
    have e2 : IntKind.i64.wrap ((d : Int) + 1) = (d : Int) + 1 := IntWalk.i64_in _ (by omega)
    have e3 : 0 ≤ (d : Int) + 1 := by omega
    have e4 : ((d : Int) + 1).toNat = d + 1 := by omega
    have e5 : (d : Int) ≤ (d : Int) + 1 := by omega
    have e6 : (d : Int) + 1 ≤ 10 := by omega
    go_quiet ((go_at_call 26; exact Calls.quiet_of (ih _)))
    go_wp2
    go_ret
    have e : (⟨(Lib.itoa (-(q : Int))).toArray⟩ : ByteArray) ++ (⟨#[48, 49, 50, 51, 52, 53, 54, 55, 56, 57]⟩ : ByteArray).extract d (d + 1) = ⟨(Lib.itoa n).toArray⟩ := by rw [HM.out, HI.out]; exact bytes_append1 _ _
    exact ⟨congrArg (fun z => Ending.returned (Value.string z)) e, _, rfl⟩
theorem ref02_any (k : Nat) : ∀ (n : Int) (w : World), n.natAbs < 10 ^ (k + 1) → -9223372036854775808 ≤ n → n ≤ 9223372036854775807 →
    Calls Tryd.prog 26 #[.int .i64 n] w fun e w' => e = .returned (.string ⟨(Lib.itoa n).toArray⟩) ∧ ∃ m, w' = w.drewN m := by
  induction k with
  | zero =>
    intro n w h _ _
    rw [Nat.zero_add, Nat.pow_one] at h
    by_cases h0 : 0 ≤ n
    · exact ref02_small n w h0 (by omega)
    · obtain ⟨m, rfl⟩ : ∃ m : Nat, n = -(m : Int) := ⟨n.natAbs, by omega⟩
      exact ref02_smallneg m w (by omega) (by omega)
  | succ k ih =>
    intro n w h h1 h2
    have hp : 10 ^ (k + 1 + 1) = 10 ^ (k + 1) * 10 := Nat.pow_succ ..
    by_cases h0 : 0 ≤ n
    · by_cases h3 : n < 10
      · exact ref02_small n w h0 h3
      · exact ref02_pos n w (by omega) h2 (fun w => ih _ w (by omega) (by omega) (by omega))
    · obtain ⟨m, rfl⟩ : ∃ m : Nat, n = -(m : Int) := ⟨n.natAbs, by omega⟩
      by_cases h3 : m < 10
      · exact ref02_smallneg m w (by omega) h3
      · exact ref02_neg m w (by omega) (by omega) (fun w => ih _ w (by omega) (by omega) (by omega))
def tabellionref02_Text.f (a0 : Int) : Option ByteArray := if -9223372036854775808 ≤ a0 ∧ a0 ≤ 9223372036854775807 then some ⟨(Lib.itoa a0).toArray⟩ else none
theorem tabellionref02_Text.calls (a0 : Int) (r : ByteArray) (w : World) (h : tabellionref02_Text.f a0 = some r) :
    Calls Tryd.prog 26 #[.int .i64 a0] w fun e w' => e = .returned (.string r) ∧ Drawn0 w w' := by
  unfold tabellionref02_Text.f at h
  split at h
  case isFalse => simp at h
  case isTrue hs =>
    obtain rfl := Option.some.inj h
    exact (ref02_any 18 a0 w (by have : (10 : Nat) ^ (18 + 1) = 10000000000000000000 := rfl; omega) hs.1 hs.2).mono fun e w' ⟨he, hw⟩ => ⟨he, ⟨hw⟩⟩
end Go.Proofs.YtkcnmfeenhpjpaaDoor
