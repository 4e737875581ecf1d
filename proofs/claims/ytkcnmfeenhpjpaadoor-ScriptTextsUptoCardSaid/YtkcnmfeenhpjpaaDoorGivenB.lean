/- num.Parse: the number of a text, if the text is just that number's own digits and the number is within the bounds. -/
import Derived.Test.YtkcnmfeenhpjpaaDoorGiven
import Derived.BigGuardPart
set_option linter.unusedVariables false
set_option linter.unusedSimpArgs false
namespace Go.Proofs.YtkcnmfeenhpjpaaDoor
open Go.RowKit Go.Proofs.YtkcnmfeenhpjpaaDoorW.PrintWords Go.Proofs.YtkcnmfeenhpjpaaDoorW.PrintLast Go.Proofs.YtkcnmfeenhpjpaaDoorW.PrintMore
theorem num_In_yes (n : Int) (w : World) (h0 : -1000000000000000 ≤ n) (h1 : n ≤ 1000000000000000) :
    Calls Tryd.prog 47 #[.int .i64 n] w fun e w' => e = .returned (.bool true) ∧ w = w' := by
  go_enter Tryd.func47, Tryd.ntmps47
  go_wp2
  go_ret
  exact ⟨by simp, rfl⟩
theorem num_In_no (n : Int) (w : World) (h : n < -1000000000000000 ∨ 1000000000000000 < n) :
    Calls Tryd.prog 47 #[.int .i64 n] w fun e w' => e = .returned (.bool false) ∧ w = w' := by
  rcases h with h | h
  · go_enter Tryd.func47, Tryd.ntmps47
    go_wp2
    go_ret
    exact ⟨rfl, rfl⟩
  · have h2 : ¬ n < -1000000000000000 := by omega
    go_enter Tryd.func47, Tryd.ntmps47
    go_wp2
    all_goals go_ret
    all_goals exact ⟨by simp; try omega, rfl⟩
theorem num_Text_any (n : Int) (w : World) (hG : Glob w) (h0 : -9223372036854775808 ≤ n) (h1 : n ≤ 9223372036854775807) :
    Calls Tryd.prog 23 #[.int .i64 n] w fun e w' => e = .returned (.string ⟨(Lib.itoa n).toArray⟩) ∧ Below w.heap.size w w' := by
  have HG := Aside0.mk hG
  clear hG
  go_enter Tryd.func23, Tryd.ntmps23
  go_wp2_with (go_at_call 37; refine (strconv_Itoa.calls n ⟨(Lib.itoa n).toArray⟩ _ HG.out (by unfold strconv_Itoa.f; rw [if_pos ⟨h0, h1⟩])).mono ?_; rintro e w' ⟨rfl, hb⟩)
  go_ret
  exact ⟨rfl, hb⟩
/-- What num.Parse returns. -/
def num_Parse.f (a0 : ByteArray) : Option (Int × Bool) :=
  if a0.size ≤ 281474976710656 then
    match Lib.atoiAll a0.data.toList with
    | .ok v => if -1000000000000000 ≤ v then if v ≤ 1000000000000000 then if Lib.itoa v = a0.data.toList then some (v, true) else some (0, false) else some (0, false) else some (0, false)
    | _ => some (0, false)
  else none
theorem ok_world {w w1 : World} (hw : w1 = w ∨ ∃ t, w1 = Lib.bytesWorld w 5 t) : Below w.heap.size w w1 := by
  rcases hw with rfl | ⟨t, rfl⟩
  · exact Below.refl _ _
  · exact Lib.bytesWorld_below _ _ _
theorem num_Parse_ok_no (a0 : ByteArray) (w : World) (v : Int) (hs : a0.size ≤ 281474976710656) (h : Lib.atoiAll a0.data.toList = .ok v) (hv : v < -1000000000000000 ∨ 1000000000000000 < v) :
    Calls Tryd.prog 32 #[.string a0] w fun e w' => e = .returned (.tuple #[.int .i64 0, .bool false]) ∧ Below w.heap.size w w' := by
  go_enter Tryd.func32, Tryd.ntmps32
  go_wp2_with (go_at_call 46; refine (Tryd.strconv_Atoi_ok a0 (by omega) v h _).mono ?_; rintro e w1 ⟨rfl, hw⟩)
  have hb := ok_world hw
  clear hw h
  go_wp2_with (go_at_call 47; refine (num_In_no v _ hv).mono ?_; rintro e w2 ⟨rfl, rfl⟩)
  go_ret2
  exact ⟨rfl, hb⟩
theorem num_Parse_ok_yes (a0 : ByteArray) (w : World) (hG : Glob w) (v : Int) (hs : a0.size ≤ 281474976710656) (h : Lib.atoiAll a0.data.toList = .ok v) (h0 : -1000000000000000 ≤ v) (h1 : v ≤ 1000000000000000) (hi : Lib.itoa v = a0.data.toList) :
    Calls Tryd.prog 32 #[.string a0] w fun e w' => e = .returned (.tuple #[.int .i64 v, .bool true]) ∧ Below w.heap.size w w' := by
  have HG := Aside0.mk hG
  have HI := Aside0.mk hi
  clear hG hi
  go_enter Tryd.func32, Tryd.ntmps32
  go_wp2_with (go_at_call 46; refine (Tryd.strconv_Atoi_ok a0 (by omega) v h _).mono ?_; rintro e w1 ⟨rfl, hw⟩)
  have hb := ok_world hw
  have HG1 := Aside0.mk (HG.out.below hb)
  clear hw h
  go_wp2_with (first | (go_at_call 47; refine (num_In_yes v _ h0 h1).mono ?_; rintro e w2 ⟨rfl, rfl⟩) | (go_at_call 23; refine (num_Text_any v _ HG1.out (by omega) (by omega)).mono ?_; rintro e w2 ⟨rfl, hb2⟩))
  · exact absurd (by assumption : (!Lib.itoa v == a0.toList) = true) (by rw [HI.out, Lib.toList_data]; simp)
  · go_ret2
    exact ⟨rfl, hb.trans (hb2.mono hb.size)⟩
theorem num_Parse_ok_other (a0 : ByteArray) (w : World) (hG : Glob w) (v : Int) (hs : a0.size ≤ 281474976710656) (h : Lib.atoiAll a0.data.toList = .ok v) (h0 : -1000000000000000 ≤ v) (h1 : v ≤ 1000000000000000) (hi : ¬ Lib.itoa v = a0.data.toList) :
    Calls Tryd.prog 32 #[.string a0] w fun e w' => e = .returned (.tuple #[.int .i64 0, .bool false]) ∧ Below w.heap.size w w' := by
  have HG := Aside0.mk hG
  have HI := Aside0.mk hi
  clear hG hi
  go_enter Tryd.func32, Tryd.ntmps32
  go_wp2_with (go_at_call 46; refine (Tryd.strconv_Atoi_ok a0 (by omega) v h _).mono ?_; rintro e w1 ⟨rfl, hw⟩)
  have hb := ok_world hw
  have HG1 := Aside0.mk (HG.out.below hb)
  clear hw h
  go_wp2_with (first | (go_at_call 47; refine (num_In_yes v _ h0 h1).mono ?_; rintro e w2 ⟨rfl, rfl⟩) | (go_at_call 23; refine (num_Text_any v _ HG1.out (by omega) (by omega)).mono ?_; rintro e w2 ⟨rfl, hb2⟩))
  · go_ret2
    exact ⟨rfl, hb.trans (hb2.mono hb.size)⟩
  · exact absurd (by assumption : (!Lib.itoa v == a0.toList) = false) (by rw [Lib.toList_data]; simpa using HI.out)
theorem num_Parse_bad (a0 : ByteArray) (w : World) (hG : Glob w) (hs : a0.size ≤ 281474976710656) (hn : ∀ v, Lib.atoiAll a0.data.toList ≠ .ok v) :
    Calls Tryd.prog 32 #[.string a0] w fun e w' => e = .returned (.tuple #[.int .i64 0, .bool false]) ∧ Below w.heap.size w w' := by
  obtain ⟨t1, p1, hv1⟩ := hG.syn
  obtain ⟨t2, p2, hv2⟩ := hG.ran
  by_cases h : Lib.atoiAll a0.data.toList = .range
  case neg =>
    have C := Tryd.strconv_Atoi_bad a0 hs hn h _ w hv1 (.inr ⟨_, _, rfl⟩)
    clear h hn hv1 hv2 hG
    go_enter Tryd.func32, Tryd.ntmps32
    go_wp2_with (go_at_call 46; refine C.mono ?_; rintro e w1 ⟨N, rfl, hn, hh, hb⟩)
    go_wp2
    go_ret2
    exact ⟨rfl, hb⟩
  case pos =>
    have C := Tryd.strconv_Atoi_range a0 hs h _ w hv2 (.inr ⟨_, _, rfl⟩)
    clear h hn hv1 hv2 hG
    go_enter Tryd.func32, Tryd.ntmps32
    go_wp2_with (go_at_call 46; refine C.mono ?_; rintro e w1 ⟨N, rfl, hn, hh, hb⟩)
    go_wp2
    go_ret2
    exact ⟨rfl, hb⟩
theorem num_Parse.calls (a0 : ByteArray) (r1 : Int) (r2 : Bool) (w : World) (hG : Glob w) (h : num_Parse.f a0 = some (r1, r2)) :
    Calls Tryd.prog 32 #[.string a0] w fun e w' => e = .returned (.tuple #[.int .i64 r1, .bool r2]) ∧ Below w.heap.size w w' := by
  unfold num_Parse.f at h
  split at h
  case isFalse => simp at h
  case isTrue hs =>
    split at h
    case h_1 v hv =>
      split at h
      case isFalse h0 => simp only [Option.some.injEq, Prod.mk.injEq] at h; obtain ⟨rfl, rfl⟩ := h; exact num_Parse_ok_no a0 w v hs hv (.inl (by omega))
      case isTrue h0 =>
        split at h
        case isFalse h1 => simp only [Option.some.injEq, Prod.mk.injEq] at h; obtain ⟨rfl, rfl⟩ := h; exact num_Parse_ok_no a0 w v hs hv (.inr (by omega))
        case isTrue h1 =>
          split at h
          case isTrue hi => simp only [Option.some.injEq, Prod.mk.injEq] at h; obtain ⟨rfl, rfl⟩ := h; exact num_Parse_ok_yes a0 w hG v hs hv h0 h1 hi
          case isFalse hi => simp only [Option.some.injEq, Prod.mk.injEq] at h; obtain ⟨rfl, rfl⟩ := h; exact num_Parse_ok_other a0 w hG v hs hv h0 h1 hi
    case h_2 hv =>
      simp only [Option.some.injEq, Prod.mk.injEq] at h
      obtain ⟨rfl, rfl⟩ := h
      exact num_Parse_bad a0 w hG hs (fun v hq => hv v hq)
end Go.Proofs.YtkcnmfeenhpjpaaDoor
