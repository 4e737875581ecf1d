/- script.may: which acts may be. -/
import Derived.Test.YtkcnmfeenhpjpaaDoorMx0
namespace Go.Proofs.YtkcnmfeenhpjpaaDoor
open Go.RowKit Go.Proofs.YtkcnmfeenhpjpaaDoorW.PrintWords Go.Proofs.YtkcnmfeenhpjpaaDoorW.PrintLast Go.Proofs.YtkcnmfeenhpjpaaDoorW.PrintMore
attribute [local go_sem] max2_int min2_int max_two min_two max_three min_three max_four min_four   -- for this text's walks alone
set_option linter.unusedVariables false
set_option linter.unusedSimpArgs false
theorem eqA40 (d : Nat) (w : World) (x0 y0 : Int) (x1 y1 : Int) (x2 y2 : Int) (x3 y3 : ByteArray) :
  (Op.equalIn (d + 2) 40 (.agg #[.int .i64 x0, .int .i64 x1, .int .i64 x2, .string x3]) (.agg #[.int .i64 y0, .int .i64 y1, .int .i64 y2, .string y3])).run Tryd.prog w = .ok (x0 == y0 && (x1 == y1 && (x2 == y2 && (x3.toList == y3.toList)))) w := by
 refine eqA_of Tryd.underlying40 (by kernel_rfl) ?_
 refine eqf_cons (by rfl) (by go_simp; rfl) (by go_simp; rfl) (by go_simp) ?_
 refine eqf_cons (by rfl) (by go_simp; rfl) (by go_simp; rfl) (by go_simp) ?_
 refine eqf_cons (by rfl) (by go_simp; rfl) (by go_simp; rfl) (by go_simp) ?_
 exact eqf_last (by rfl) (by go_simp; rfl) (by go_simp; rfl) (by go_simp)
end Go.Proofs.YtkcnmfeenhpjpaaDoor
set_option linter.unusedVariables false
set_option linter.unusedSimpArgs false
namespace Go.Proofs.YtkcnmfeenhpjpaaDoor
open Go.RowKit Go.Proofs.YtkcnmfeenhpjpaaDoorW.PrintWords Go.Proofs.YtkcnmfeenhpjpaaDoorW.PrintLast Go.Proofs.YtkcnmfeenhpjpaaDoorW.PrintMore
attribute [local go_sem high] eqA40
set_option maxRecDepth 100000 in
theorem may_1c (who n : Int) (t : ByteArray) (w : World) (h0 : 0 ≤ who) (h1 : who < 4) (hc : strings_Contains.f t ⟨#[10]⟩ = some false) :
    Calls Tryd.prog 16 #[.agg #[.int .i64 1, .int .i64 who, .int .i64 n, .string t]] w fun e w' => e = .returned (.bool (n == 0)) ∧ Below w.heap.size w w' := by
  have hu40 := Tryd.underlying40
  have C := fun W => strings_Contains.calls t ⟨#[10]⟩ false W hc
  clear hc
  go_enter Tryd.func16, Tryd.ntmps16
  go_wp2_with (go_at_call 28; refine (C _).mono ?_; rintro e w' ⟨rfl, ⟨nd, rfl⟩⟩)
  all_goals go_ret
  all_goals exact ⟨by first | rfl | (simp; done) | (simp; omega), by repeat (first | exact Below.refl _ _ | apply below_alloc | apply pw_below_drewN | apply below_drew1)⟩
set_option maxRecDepth 100000 in
theorem may_1t (who n : Int) (t : ByteArray) (w : World) (h0 : 0 ≤ who) (h1 : who < 4) (hc : strings_Contains.f t ⟨#[10]⟩ = some true) :
    Calls Tryd.prog 16 #[.agg #[.int .i64 1, .int .i64 who, .int .i64 n, .string t]] w fun e w' => e = .returned (.bool false) ∧ Below w.heap.size w w' := by
  have hu40 := Tryd.underlying40
  have C := fun W => strings_Contains.calls t ⟨#[10]⟩ true W hc
  clear hc
  go_enter Tryd.func16, Tryd.ntmps16
  go_wp2_with (go_at_call 28; refine (C _).mono ?_; rintro e w' ⟨rfl, ⟨nd, rfl⟩⟩)
  all_goals go_ret
  all_goals exact ⟨by first | rfl | (simp; done) | (simp; omega), by repeat (first | exact Below.refl _ _ | apply below_alloc | apply pw_below_drewN | apply below_drew1)⟩
set_option maxRecDepth 100000 in
theorem may_1l (who n : Int) (t : ByteArray) (w : World) (h0 : decide (0 ≤ who) = false) :
    Calls Tryd.prog 16 #[.agg #[.int .i64 1, .int .i64 who, .int .i64 n, .string t]] w fun e w' => e = .returned (.bool false) ∧ Below w.heap.size w w' := by
  have hu40 := Tryd.underlying40
  go_enter Tryd.func16, Tryd.ntmps16
  go_wp2
  all_goals go_ret
  all_goals exact ⟨by first | rfl | (simp; done) | (simp; omega), by repeat (first | exact Below.refl _ _ | apply below_alloc | apply pw_below_drewN | apply below_drew1)⟩
set_option maxRecDepth 100000 in
theorem may_1h (who n : Int) (t : ByteArray) (w : World) (h0 : 0 ≤ who) (h1 : decide (who < 4) = false) :
    Calls Tryd.prog 16 #[.agg #[.int .i64 1, .int .i64 who, .int .i64 n, .string t]] w fun e w' => e = .returned (.bool false) ∧ Below w.heap.size w w' := by
  have hu40 := Tryd.underlying40
  go_enter Tryd.func16, Tryd.ntmps16
  go_wp2
  all_goals go_ret
  all_goals exact ⟨by first | rfl | (simp; done) | (simp; omega), by repeat (first | exact Below.refl _ _ | apply below_alloc | apply pw_below_drewN | apply below_drew1)⟩
set_option maxRecDepth 100000 in
theorem may_2y (who n : Int) (t : ByteArray) (w : World) (h0 : -1 ≤ n) (h1 : n ≤ 65536) :
    Calls Tryd.prog 16 #[.agg #[.int .i64 2, .int .i64 who, .int .i64 n, .string t]] w fun e w' => e = .returned (.bool (who == 0 && (t.toList == ([] : List UInt8)))) ∧ Below w.heap.size w w' := by
  have hu40 := Tryd.underlying40
  go_enter Tryd.func16, Tryd.ntmps16
  go_wp2
  all_goals go_ret
  all_goals exact ⟨by first | rfl | (simp; done) | (simp; omega), by repeat (first | exact Below.refl _ _ | apply below_alloc | apply pw_below_drewN | apply below_drew1)⟩
set_option maxRecDepth 100000 in
theorem may_2l (who n : Int) (t : ByteArray) (w : World) (h0 : decide (-1 ≤ n) = false) :
    Calls Tryd.prog 16 #[.agg #[.int .i64 2, .int .i64 who, .int .i64 n, .string t]] w fun e w' => e = .returned (.bool false) ∧ Below w.heap.size w w' := by
  have hu40 := Tryd.underlying40
  go_enter Tryd.func16, Tryd.ntmps16
  go_wp2
  all_goals go_ret
  all_goals exact ⟨by first | rfl | (simp; done) | (simp; omega), by repeat (first | exact Below.refl _ _ | apply below_alloc | apply pw_below_drewN | apply below_drew1)⟩
set_option maxRecDepth 100000 in
theorem may_2h (who n : Int) (t : ByteArray) (w : World) (h0 : -1 ≤ n) (h1 : decide (n ≤ 65536) = false) :
    Calls Tryd.prog 16 #[.agg #[.int .i64 2, .int .i64 who, .int .i64 n, .string t]] w fun e w' => e = .returned (.bool false) ∧ Below w.heap.size w w' := by
  have hu40 := Tryd.underlying40
  go_enter Tryd.func16, Tryd.ntmps16
  go_wp2
  all_goals go_ret
  all_goals exact ⟨by first | rfl | (simp; done) | (simp; omega), by repeat (first | exact Below.refl _ _ | apply below_alloc | apply pw_below_drewN | apply below_drew1)⟩
set_option maxRecDepth 100000 in
theorem may_4y (who n : Int) (t : ByteArray) (w : World) (h0 : 0 ≤ n) (h1 : n ≤ 2000) :
    Calls Tryd.prog 16 #[.agg #[.int .i64 4, .int .i64 who, .int .i64 n, .string t]] w fun e w' => e = .returned (.bool (who == 0 && (t.toList == ([] : List UInt8)))) ∧ Below w.heap.size w w' := by
  have hu40 := Tryd.underlying40
  go_enter Tryd.func16, Tryd.ntmps16
  go_wp2
  all_goals go_ret
  all_goals exact ⟨by first | rfl | (simp; done) | (simp; omega), by repeat (first | exact Below.refl _ _ | apply below_alloc | apply pw_below_drewN | apply below_drew1)⟩
set_option maxRecDepth 100000 in
theorem may_4l (who n : Int) (t : ByteArray) (w : World) (h0 : decide (0 ≤ n) = false) :
    Calls Tryd.prog 16 #[.agg #[.int .i64 4, .int .i64 who, .int .i64 n, .string t]] w fun e w' => e = .returned (.bool false) ∧ Below w.heap.size w w' := by
  have hu40 := Tryd.underlying40
  go_enter Tryd.func16, Tryd.ntmps16
  go_wp2
  all_goals go_ret
  all_goals exact ⟨by first | rfl | (simp; done) | (simp; omega), by repeat (first | exact Below.refl _ _ | apply below_alloc | apply pw_below_drewN | apply below_drew1)⟩
set_option maxRecDepth 100000 in
theorem may_4h (who n : Int) (t : ByteArray) (w : World) (h0 : 0 ≤ n) (h1 : decide (n ≤ 2000) = false) :
    Calls Tryd.prog 16 #[.agg #[.int .i64 4, .int .i64 who, .int .i64 n, .string t]] w fun e w' => e = .returned (.bool false) ∧ Below w.heap.size w w' := by
  have hu40 := Tryd.underlying40
  go_enter Tryd.func16, Tryd.ntmps16
  go_wp2
  all_goals go_ret
  all_goals exact ⟨by first | rfl | (simp; done) | (simp; omega), by repeat (first | exact Below.refl _ _ | apply below_alloc | apply pw_below_drewN | apply below_drew1)⟩
set_option maxRecDepth 100000 in
theorem may_3 (who n : Int) (t : ByteArray) (w : World) :
    Calls Tryd.prog 16 #[.agg #[.int .i64 3, .int .i64 who, .int .i64 n, .string t]] w fun e w' => e = .returned (.bool (who == 0 && (n == 0 && (t.toList == ([] : List UInt8))))) ∧ Below w.heap.size w w' := by
  have hu40 := Tryd.underlying40
  go_enter Tryd.func16, Tryd.ntmps16
  go_wp2
  all_goals go_ret
  all_goals exact ⟨by first | rfl | (simp; done) | (simp; omega), by repeat (first | exact Below.refl _ _ | apply below_alloc | apply pw_below_drewN | apply below_drew1)⟩
set_option maxRecDepth 100000 in
theorem may_5 (who n : Int) (t : ByteArray) (w : World) :
    Calls Tryd.prog 16 #[.agg #[.int .i64 5, .int .i64 who, .int .i64 n, .string t]] w fun e w' => e = .returned (.bool (who == 0 && (n == 0 && (t.toList == ([] : List UInt8))))) ∧ Below w.heap.size w w' := by
  have hu40 := Tryd.underlying40
  go_enter Tryd.func16, Tryd.ntmps16
  go_wp2
  all_goals go_ret
  all_goals exact ⟨by first | rfl | (simp; done) | (simp; omega), by repeat (first | exact Below.refl _ _ | apply below_alloc | apply pw_below_drewN | apply below_drew1)⟩
set_option maxRecDepth 100000 in
theorem may_0 (kind who n : Int) (t : ByteArray) (w : World) (h1 : (kind == 1) = false) (h2 : (kind == 2) = false) (h3 : (kind == 3) = false) (h4 : (kind == 4) = false) (h5 : (kind == 5) = false) :
    Calls Tryd.prog 16 #[.agg #[.int .i64 kind, .int .i64 who, .int .i64 n, .string t]] w fun e w' => e = .returned (.bool false) ∧ Below w.heap.size w w' := by
  have hu40 := Tryd.underlying40
  go_enter Tryd.func16, Tryd.ntmps16
  go_wp2
  all_goals go_ret
  all_goals exact ⟨by first | rfl | (simp; done) | (simp; omega), by repeat (first | exact Below.refl _ _ | apply below_alloc | apply pw_below_drewN | apply below_drew1)⟩
def script_may.f (a0_0 : Int) (a0_1 : Int) (a0_2 : Int) (a0_3 : ByteArray) : Option (Bool) := if a0_0 = 1 then (if a0_1 ≥ 0 then (if a0_1 < 4 then ((strings_Contains.f a0_3 (⟨#[10]⟩ : ByteArray)).bind fun t104 => (if t104 = true then (some false) else (some (a0_2 == 0)))) else (some false)) else (some false)) else (if a0_0 = 2 then (if a0_2 ≥ (-1) then (if a0_2 ≤ 65536 then (some (a0_1 == 0 && (a0_3.toList == ([] : List UInt8)))) else (some false)) else (some false)) else (if a0_0 = 4 then (if a0_2 ≥ 0 then (if a0_2 ≤ 2000 then (some (a0_1 == 0 && (a0_3.toList == ([] : List UInt8)))) else (some false)) else (some false)) else (if a0_0 = 3 then (some (a0_1 == 0 && (a0_2 == 0 && (a0_3.toList == ([] : List UInt8))))) else (if a0_0 = 5 then (some (a0_1 == 0 && (a0_2 == 0 && (a0_3.toList == ([] : List UInt8))))) else (some false)))))
theorem script_may.calls (a0_0 : Int) (a0_1 : Int) (a0_2 : Int) (a0_3 : ByteArray) (r : Bool) (w : World) (h : script_may.f a0_0 a0_1 a0_2 a0_3 = some r) :
    Calls Tryd.prog 16 #[.agg #[.int .i64 a0_0, .int .i64 a0_1, .int .i64 a0_2, .string a0_3]] w fun e w' => e = .returned (.bool r) ∧ Below w.heap.size w w' := by
  unfold script_may.f at h
  by_cases c1 : a0_0 = 1
  · subst c1
    rw [if_pos rfl] at h
    by_cases c2 : a0_1 ≥ 0
    · rw [if_pos c2] at h
      by_cases c3 : a0_1 < 4
      · rw [if_pos c3] at h
        obtain ⟨b, hb, h⟩ := Option.bind_eq_some_iff.mp h
        cases b with
        | true => rw [if_pos rfl] at h; obtain rfl := Option.some.inj h; exact may_1t a0_1 a0_2 a0_3 w c2 c3 hb
        | false => rw [if_neg (by decide)] at h; obtain rfl := Option.some.inj h; exact may_1c a0_1 a0_2 a0_3 w c2 c3 hb
      · rw [if_neg c3] at h; obtain rfl := Option.some.inj h; exact may_1h a0_1 a0_2 a0_3 w c2 (decide_eq_false (by omega))
    · rw [if_neg c2] at h; obtain rfl := Option.some.inj h; exact may_1l a0_1 a0_2 a0_3 w (decide_eq_false (by omega))
  rw [if_neg c1] at h
  by_cases c2 : a0_0 = 2
  · subst c2
    rw [if_pos rfl] at h
    by_cases d1 : a0_2 ≥ -1
    · rw [if_pos d1] at h
      by_cases d2 : a0_2 ≤ 65536
      · rw [if_pos d2] at h; obtain rfl := Option.some.inj h; exact may_2y a0_1 a0_2 a0_3 w d1 d2
      · rw [if_neg d2] at h; obtain rfl := Option.some.inj h; exact may_2h a0_1 a0_2 a0_3 w d1 (decide_eq_false (by omega))
    · rw [if_neg d1] at h; obtain rfl := Option.some.inj h; exact may_2l a0_1 a0_2 a0_3 w (decide_eq_false (by omega))
  rw [if_neg c2] at h
  by_cases c4 : a0_0 = 4
  · subst c4
    rw [if_pos rfl] at h
    by_cases d1 : a0_2 ≥ 0
    · rw [if_pos d1] at h
      by_cases d2 : a0_2 ≤ 2000
      · rw [if_pos d2] at h; obtain rfl := Option.some.inj h; exact may_4y a0_1 a0_2 a0_3 w d1 d2
      · rw [if_neg d2] at h; obtain rfl := Option.some.inj h; exact may_4h a0_1 a0_2 a0_3 w d1 (decide_eq_false (by omega))
    · rw [if_neg d1] at h; obtain rfl := Option.some.inj h; exact may_4l a0_1 a0_2 a0_3 w (decide_eq_false (by omega))
  rw [if_neg c4] at h
  by_cases c3 : a0_0 = 3
  · subst c3
    rw [if_pos rfl] at h; obtain rfl := Option.some.inj h; exact may_3 a0_1 a0_2 a0_3 w
  rw [if_neg c3] at h
  by_cases c5 : a0_0 = 5
  · subst c5
    rw [if_pos rfl] at h; obtain rfl := Option.some.inj h; exact may_5 a0_1 a0_2 a0_3 w
  rw [if_neg c5] at h
  obtain rfl := Option.some.inj h
  exact may_0 a0_0 a0_1 a0_2 a0_3 w (by simpa using c1) (by simpa using c2) (by simpa using c3) (by simpa using c4) (by simpa using c5)
end Go.Proofs.YtkcnmfeenhpjpaaDoor
