/- The plain law of ScriptTexts: where what comes in is not too great, script and the page's own words say the same. -/
import Derived.Test.YtkcnmfeenhpjpaaDoorPlainM
import Derived.Test.YtkcnmfeenhpjpaaDoorPlainJ
import Derived.Test.YtkcnmfeenhpjpaaDoorPlainK
import Derived.Test.YtkcnmfeenhpjpaaDoorSx
set_option linter.unusedVariables false
set_option linter.unusedSimpArgs false
namespace Go.Proofs.YtkcnmfeenhpjpaaDoor.T
open Go.Lib Go.RowKit Go.Proofs.YtkcnmfeenhpjpaaDoorW.PrintWords Go.Proofs.YtkcnmfeenhpjpaaDoorW.PrintLast Go.Proofs.YtkcnmfeenhpjpaaDoorW.PrintMore
theorem lines_length (a b c : Int) (cols : List S42) (rows : List (List S44)) (txt : List ByteArray) : (linesOf a b c cols rows txt).length ≤ 2 + rows.length + txt.length := by
  unfold linesOf
  split <;> simp only [List.length_append, List.length_map, List.length_cons, List.length_nil] <;> omega
theorem len_le_tot (l : List S40) : 64 * l.length ≤ tot l := by
  induction l with
  | nil => exact Nat.le_refl _
  | cons a l ih => simp only [tot, List.length_cons]; omega
theorem print_both (l : List S40) (k : Nat) (hk : k = 25000000000000) (hn : l.length ≤ 1048576) (ht : ∀ a ∈ l, a.f3.size ≤ 1048576) (h : tot l ≤ 2147483647) : ∃ p i, script_Print.f k l = some (p, i) ∧ tabellionref58_Print.f k l = some (p, i) := by
  have h1 := print_all l (by omega) k (by omega) (fun a ha => Nat.le_trans (ht a ha) (by decide)) (by omega)
  have h2 := refprint_all l (by omega) k (by omega) (fun a ha => Nat.le_trans (ht a ha) (by decide)) (by omega)
  rw [h1, h2]
  split
  · exact ⟨_, _, rfl, rfl⟩
  · exact ⟨_, _, rfl, rfl⟩
theorem parse_both (s : ByteArray) (k : Nat) (hk : k = 25000000000000) (hs : s.size ≤ 1048576) : ∃ m i e, script_Parse.f k s = some (m, i, e) ∧ tabellionref58_Parse.f k s = some (m, i, e) ∧ m.length ≤ 1048576 := by
  have ha := dlen s
  rw [refparse_eq s (by omega) k (by omega)]
  rcases parse_any s.data.toList.length s.data.toList [] k 1 (by omega) (by omega) (by omega) (by rw [List.length_nil]; omega) (by omega) (by omega) with ⟨l, h1, _, h3⟩ | ⟨m, e, h1, _, _⟩
  · have := length_le_printA l
    rw [h3] at this
    exact ⟨l, 0, 0, h1, h1, by omega⟩
  · exact ⟨[], m, e, h1, h1, by decide⟩
theorem ScriptTexts (l : List S40) (s : ByteArray) (a b c : Int) (cols : List S42) (rows : List (List S44)) (txt : List ByteArray) (hn : l.length ≤ 1048576) (ht : ∀ a ∈ l, a.f3.size ≤ 1048576) (hs : s.size ≤ 1048576)
    (hS : Small cols rows txt) (ha : I64 a) (hb : I64 b) (hc : I64 c) : ∃ k, tabellionlaw58_ScriptTexts.f k l s a b c cols rows txt = some true := by
  obtain ⟨k, hk⟩ : ∃ k, k = 25000000000000 := ⟨_, rfl⟩
  refine ⟨k, ?_⟩
  obtain ⟨q, hb1, hb2⟩ := long_from l (by omega) (fun a ha => Nat.le_trans (ht a ha) (by decide)) l.length k 0 (s.size : Int) (by omega) (by omega) (by omega) (by omega) (by omega)
  have hlong : tabellionlaw58_long.f k l s = some q := hb1
  have haw := awake_true k (by show 5000000000000 ≤ k; omega)
  unfold tabellionlaw58_ScriptTexts.f
  rw [hlong, Option.bind_some]
  cases q with
  | true => rw [if_pos rfl, haw, Option.bind_some]
  | false =>
    have htot := hb2 rfl
    rw [List.drop_zero] at htot
    obtain ⟨p, i, p1, p2⟩ := print_both l k hk hn ht (by omega)
    obtain ⟨m, j, e, q1, q2, q3⟩ := parse_both s k hk hs
    have hacts : tabellionref58_Acts.f k m m = some true := acts_same m (by omega) m.length k 0 (by omega) (by omega) (by omega)
    have l1 := line_all a b c cols rows txt hS ha hb hc k (by omega)
    have l2 := refline_all a b c cols rows txt hS ha hb hc k (by omega)
    have hll := lines_length a b c cols rows txt
    have hnr := hS.nr
    have hnt := hS.nt
    have hstr : tabellionref09_Strings.f k (linesOf a b c cols rows txt) (linesOf a b c cols rows txt) = some true := strings_same _ (by omega) _ k 0 (by omega) rfl (by omega)
    rw [if_neg (by decide), p1, p2, q1, q2, haw]
    simp only [Option.bind_some, if_true]
    rw [hacts, Option.bind_some, if_pos rfl, l1, l2, Option.bind_some, Option.bind_some, hstr, Option.bind_some]
end Go.Proofs.YtkcnmfeenhpjpaaDoor.T
