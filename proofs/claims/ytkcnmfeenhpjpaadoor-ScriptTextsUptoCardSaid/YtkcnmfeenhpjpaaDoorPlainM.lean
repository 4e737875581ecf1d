/- The page's example holds; what is too long is told so; a list of acts is told equal to itself. -/
import Derived.Test.YtkcnmfeenhpjpaaDoorPlainE
import Derived.Test.YtkcnmfeenhpjpaaDoorAw
import Derived.Test.YtkcnmfeenhpjpaaDoorTx22
import Derived.Test.YtkcnmfeenhpjpaaDoorTx3
set_option linter.unusedVariables false
set_option linter.unusedSimpArgs false
namespace Go.Proofs.YtkcnmfeenhpjpaaDoor.T
open Go.Lib Go.RowKit Go.Proofs.YtkcnmfeenhpjpaaDoorW.PrintWords Go.Proofs.YtkcnmfeenhpjpaaDoorW.PrintLast Go.Proofs.YtkcnmfeenhpjpaaDoorW.PrintMore
/-- Rounds that are enough. -/
def rounds : Nat := 5000000000000
theorem ex_small : Small [⟨B [116], B [97], 0⟩] [[⟨2, 3, ⟨#[]⟩⟩]] [] where
  nc := by decide
  c := by intro c hc; rw [List.mem_singleton] at hc; subst hc; exact ⟨by decide, by decide⟩
  nr := by decide
  r := by
    intro r hr
    rw [List.mem_singleton] at hr
    subst hr
    refine ⟨by decide, ?_⟩
    intro v hv
    rw [List.mem_singleton] at hv
    subst hv
    exact ⟨by decide, by decide, by decide⟩
  nt := by decide
  t := by intro t ht; cases ht
theorem ex_lines : linesOf 7 0 1 [⟨B [116], B [97], 0⟩] [[⟨2, 3, ⟨#[]⟩⟩]] [] = [B [114, 101, 112, 108, 121, 32, 55, 32, 48, 32, 49], B [99, 111, 108, 115, 32, 116, 46, 97], B [114, 111, 119, 32, 51]] := by
  unfold linesOf
  rw [if_neg (by simp)]
  unfold headLine colsLine
  rw [show itoa 7 = [55] from itoa_digit 7 (by omega), show itoa 0 = [48] from itoa_digit 0 (by omega), show itoa 1 = [49] from itoa_digit 1 (by omega)]
  have hr : rowLine [⟨2, 3, ⟨#[]⟩⟩] = B [114, 111, 119, 32, 51] := by
    unfold rowLine
    rw [show [(⟨2, 3, ⟨#[]⟩⟩ : S44)].map valL = [[51]] from by
      rw [List.map_cons, List.map_nil]
      unfold valL
      rw [if_neg (by decide), if_pos rfl, show itoa (⟨2, 3, ⟨#[]⟩⟩ : S44).f1 = [51] from itoa_digit 3 (by omega)]]
    rfl
  rw [show List.map rowLine [[⟨2, 3, ⟨#[]⟩⟩]] = [B [114, 111, 119, 32, 51]] from by rw [List.map_cons, hr]; rfl]
  rfl
theorem awake_true (k : Nat) (hk : rounds ≤ k) : tabellionlaw58_awake.f k = some true := by
  have hk' : 5000000000000 ≤ k := hk
  unfold tabellionlaw58_awake.f
  rw [show (⟨#[48, 58, 32, 98, 101, 103, 105, 110, 10, 112, 111, 119, 101, 114, 32, 53, 10, 111, 112, 101, 110, 10]⟩ : ByteArray) = B exText from rfl, ex_parse k (by omega), Option.bind_some]
  rw [show (⟨#[111, 112, 101, 110, 10, 52, 58, 32, 120, 10]⟩ : ByteArray) = B exBad from rfl, ex_bad k (by omega), Option.bind_some]
  have hp := print_all ex (by decide) k (by show 3 < k; omega) (by decide) (by decide)
  rw [if_pos ex_all, ex_print] at hp
  rw [hp, Option.bind_some]
  have hv : value_Num.f 3 = some (2, 3, ⟨#[]⟩) := rfl
  rw [hv, Option.bind_some]
  have hl := line_all 7 0 1 [⟨B [116], B [97], 0⟩] [[⟨2, 3, ⟨#[]⟩⟩]] [] ex_small ⟨by decide, by decide⟩ ⟨by decide, by decide⟩ ⟨by decide, by decide⟩ k (by omega)
  rw [ex_lines] at hl
  rw [show ([(⟨(⟨#[116]⟩ : ByteArray), (⟨#[97]⟩ : ByteArray), 0⟩ : S42)] : List S42) = [⟨B [116], B [97], 0⟩] from rfl, hl, Option.bind_some]
  have t0 : (B exText).toList = exText := by rw [toList_data]
  have t1 : (B [114, 101, 112, 108, 121, 32, 55, 32, 48, 32, 49]).toList = [114, 101, 112, 108, 121, 32, 55, 32, 48, 32, 49] := by rw [toList_data]
  have t2 : (B [99, 111, 108, 115, 32, 116, 46, 97]).toList = [99, 111, 108, 115, 32, 116, 46, 97] := by rw [toList_data]
  have t3 : (B [114, 111, 119, 32, 51]).toList = [114, 111, 119, 32, 51] := by rw [toList_data]
  simp only [t0, if_true]
  rw [if_pos (by decide), if_pos (by decide), if_pos (by decide), if_pos (by rfl), if_pos (by simp), if_pos (by simp)]
  rw [if_pos (show (rdOf ByteArray.empty [B [114, 101, 112, 108, 121, 32, 55, 32, 48, 32, 49], B [99, 111, 108, 115, 32, 116, 46, 97], B [114, 111, 119, 32, 51]] 0).toList = _ from t1), if_pos (by simp)]
  rw [if_pos (show (rdOf ByteArray.empty [B [114, 101, 112, 108, 121, 32, 55, 32, 48, 32, 49], B [99, 111, 108, 115, 32, 116, 46, 97], B [114, 111, 119, 32, 51]] 1).toList = _ from t2), if_pos (by simp)]
  rw [show (rdOf ByteArray.empty [B [114, 101, 112, 108, 121, 32, 55, 32, 48, 32, 49], B [99, 111, 108, 115, 32, 116, 46, 97], B [114, 111, 119, 32, 51]] 2).toList = [114, 111, 119, 32, 51] from t3]
  rfl
/-- Too long, or not: the sum of the lines' bounds. -/
theorem long_from (l : List S40) (hn : l.length ≤ 4611686018427387904) (ht : ∀ a ∈ l, a.f3.size ≤ 140737488355328) (d : Nat) : ∀ (k i : Nat) (n : Int), i ≤ l.length → l.length - i = d → d < k → 0 ≤ n → n ≤ 281474976710656 →
    ∃ b, tabellionlaw58_long.l0 k l n (i : Int) = some b ∧ (b = false → n + tot (l.drop i) ≤ 2147483647) := by
  induction d with
  | zero =>
    intro k i n hi hd hk h0 h1
    obtain ⟨k, rfl⟩ : ∃ m, k = m + 1 := ⟨k - 1, by omega⟩
    obtain rfl : i = l.length := by omega
    simp only [tabellionlaw58_long.l0]
    rw [if_neg (by omega), List.drop_length]
    exact ⟨_, rfl, fun h => by simp only [decide_eq_false_iff_not] at h; simp only [tot]; omega⟩
  | succ d ih =>
    intro k i n hi hd hk h0 h1
    obtain ⟨k, rfl⟩ : ∃ m, k = m + 1 := ⟨k - 1, by omega⟩
    have hlt : i < l.length := by omega
    have hdr := rd_drop l i hlt
    have hmem : rd_T40 l (i : Int) ∈ l := List.mem_of_mem_drop (by rw [hdr]; exact List.mem_cons_self ..)
    have hs := ht _ hmem
    simp only [tabellionlaw58_long.l0]
    rw [if_pos (by omega)]
    by_cases hb : n < 2147483648
    · rw [if_pos hb, if_pos (by omega), wrap_small _ (by omega) (by omega)]
      have e : wrap64 (wrap64 (n + 64) + ((rd_T40 l (i : Int)).f3.size : Int)) = n + 64 + ((rd_T40 l (i : Int)).f3.size : Int) := by unfold wrap64; omega
      rw [e]
      obtain ⟨b, hb1, hb2⟩ := ih k (i + 1) (n + 64 + ((rd_T40 l (i : Int)).f3.size : Int)) (by omega) (by omega) (by omega) (by omega) (by omega)
      rw [show ((i + 1 : Nat) : Int) = (i : Int) + 1 by omega] at hb1
      refine ⟨b, hb1, fun h => ?_⟩
      have := hb2 h
      rw [hdr]
      simp only [tot]
      omega
    · rw [if_neg hb]
      exact ⟨_, rfl, fun h => by simp only [decide_eq_false_iff_not] at h; omega⟩
theorem acts_same (l : List S40) (hn : l.length ≤ 4611686018427387904) (d : Nat) : ∀ (k i : Nat), i ≤ l.length → l.length - i = d → 2 * d + 1 < k → tabellionref58_Acts.l0 k l l (i : Int) = some true := by
  induction d with
  | zero =>
    intro k i hi hd hk
    obtain ⟨k, rfl⟩ : ∃ m, k = m + 2 := ⟨k - 2, by omega⟩
    obtain rfl : i = l.length := by omega
    rw [show k + 2 = (k + 1) + 1 from rfl]
    rw [tabellionref58_Acts.l0, if_neg (by omega), tabellionref58_Acts.j1, if_neg (by decide)]
    simp
  | succ d ih =>
    intro k i hi hd hk
    obtain ⟨k, rfl⟩ : ∃ m, k = m + 2 := ⟨k - 2, by omega⟩
    rw [show k + 2 = (k + 1) + 1 from rfl]
    rw [tabellionref58_Acts.l0, if_pos (by omega), tabellionref58_Acts.j1, if_pos (by simp; omega), if_pos (by omega), if_pos (by omega), if_pos (by omega), if_neg (by simp), wrap_small _ (by omega) (by omega)]
    have h := ih k (i + 1) (by omega) (by omega) (by omega)
    rw [show ((i + 1 : Nat) : Int) = (i : Int) + 1 by omega] at h
    exact h
end Go.Proofs.YtkcnmfeenhpjpaaDoor.T
