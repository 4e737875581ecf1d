/- The example of the page is answered as it says. -/
import Derived.Test.YtkcnmfeenhpjpaaDoorPlainC
set_option linter.unusedVariables false
set_option linter.unusedSimpArgs false
namespace Go.Proofs.YtkcnmfeenhpjpaaDoor.T
open Go.Lib Go.RowKit Go.Proofs.YtkcnmfeenhpjpaaDoorW.PrintWords Go.Proofs.YtkcnmfeenhpjpaaDoorW.PrintLast Go.Proofs.YtkcnmfeenhpjpaaDoorW.PrintMore

def ex : List S40 := [⟨1, 0, 0, B [98, 101, 103, 105, 110]⟩, ⟨2, 0, 5, ⟨#[]⟩⟩, ⟨3, 0, 0, ⟨#[]⟩⟩]
def exText : List UInt8 := [48, 58, 32, 98, 101, 103, 105, 110, 10, 112, 111, 119, 101, 114, 32, 53, 10, 111, 112, 101, 110, 10]
theorem itoa_digit (m : Nat) (h : m < 10) : itoa (m : Int) = [UInt8.ofNat (48 + m)] := by rw [itoa_nonneg, decDigits_one h]
theorem ex_all : ex.all mayA = true := by decide
theorem ex_print : printA ex = exText := by
  have h0 : itoa 0 = [48] := itoa_digit 0 (by omega)
  have h5 : itoa 5 = [53] := itoa_digit 5 (by omega)
  simp only [ex, printA, lineA, lineL, h0, h5]
  decide
theorem ex_parse (k : Nat) (hk : 100 < k) : script_Parse.f k (B exText) = some (ex, 0, 0) := by
  have h := parse_printed [] ex [] k 1 ex_all (by rw [ex_print]; decide) (by show 3 ≤ k; omega) (by decide) (by omega) (by decide)
  rw [List.append_nil, ex_print] at h
  unfold script_Parse.f
  rw [h]
  obtain ⟨m, hm⟩ : ∃ m, k - ex.length = m + 1 := ⟨k - 4, by show k - 3 = _; omega⟩
  rw [hm]
  simp only [script_Parse.l0]
  rw [if_pos (by rw [toList_data]), List.nil_append]

def exBad : List UInt8 := [111, 112, 101, 110, 10, 52, 58, 32, 120, 10]
theorem ex_bad (k : Nat) (hk : 100 < k) : script_Parse.f k (B exBad) = some ([], 2, 1) := by
  have h := parse_printed [52, 58, 32, 120, 10] [⟨3, 0, 0, ⟨#[]⟩⟩] [] k 1 (by decide) (by decide) (by show 1 ≤ k; omega) (by decide) (by omega) (by decide)
  unfold script_Parse.f
  have e : printA [⟨3, 0, 0, ⟨#[]⟩⟩] ++ [52, 58, 32, 120, 10] = exBad := by decide
  rw [e] at h
  rw [h]
  obtain ⟨m, hm⟩ : ∃ m, k - [(⟨3, 0, 0, ⟨#[]⟩⟩ : S40)].length = m + 1 := ⟨k - 2, by show k - 1 = _; omega⟩
  rw [hm]
  simp only [script_Parse.l0]
  rw [if_neg (by rw [toList_data]; decide)]
  unfold strings_Cut.f
  rw [if_pos (by decide), Option.bind_some]
  have hc : cut (B [52, 58, 32, 120, 10]).data.toList (⟨#[10]⟩ : ByteArray).data.toList = ([52, 58, 32, 120], [], true) := by decide
  rw [hc]
  have ho : script_one.f (B [52, 58, 32, 120]) = some (0, 0, 0, ⟨#[]⟩, 1) := by
    unfold script_one.f
    rw [if_neg (by rw [toList_data]; decide), if_neg (by rw [toList_data]; decide)]
    unfold strings_Cut.f
    rw [if_pos (by decide), Option.bind_some]
    have hc2 : cut (B [52, 58, 32, 120]).data.toList (⟨#[58, 32]⟩ : ByteArray).data.toList = ([52], [120], true) := by decide
    rw [hc2, if_neg (by decide), if_neg (by decide)]
    unfold script_one.g
    have hn := num_itoa 4 (by decide) (by decide)
    rw [show itoa 4 = [52] from itoa_digit 4 (by omega)] at hn
    simp only [hn, Option.bind_some, if_true, may_eq]
    rfl
  rw [if_pos rfl]
  rw [show (⟨([52, 58, 32, 120], ([] : List UInt8), true).1.toArray⟩ : ByteArray) = B [52, 58, 32, 120] from rfl, ho]
  rfl

end Go.Proofs.YtkcnmfeenhpjpaaDoor.T
