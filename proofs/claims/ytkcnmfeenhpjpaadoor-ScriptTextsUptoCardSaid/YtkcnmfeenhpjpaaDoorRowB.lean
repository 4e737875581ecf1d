/- What the second row's condition gives the walk of ScriptTexts: the answer that came in, its lists, and their bounds. -/
import Derived.Test.YtkcnmfeenhpjpaaDoorRowA
set_option linter.unusedVariables false
set_option linter.unusedSimpArgs false
namespace Go.Proofs.YtkcnmfeenhpjpaaDoor
open Go.Joins Go.ChangeShapes Go.WideShapes Go.ChangeAt Go.RowKit Go.Proofs.YtkcnmfeenhpjpaaDoorW.PrintWords Go.Proofs.YtkcnmfeenhpjpaaDoorW.PrintLast Go.Proofs.YtkcnmfeenhpjpaaDoorW.PrintMore
theorem cells42 : Tryd.prog.cellsOf 42 = 3 := by kernel_rfl
theorem cells44 : Tryd.prog.cellsOf 44 = 3 := by kernel_rfl
theorem cells28 : Tryd.prog.cellsOf 28 = 6 := by kernel_rfl
theorem cells23 : Tryd.prog.cellsOf 23 = 1 := by kernel_rfl
theorem cells24 : Tryd.prog.cellsOf 24 = 1 := by kernel_rfl
theorem cells25 : Tryd.prog.cellsOf 25 = 1 := by kernel_rfl
theorem cells26 : Tryd.prog.cellsOf 26 = 1 := by kernel_rfl
theorem cells47 : Tryd.prog.cellsOf 47 = 1 := by kernel_rfl
theorem bulk_pos {H : Type} (d : DataW H) : 1 ≤ Rows.uptoBulk d := by
  cases d with
  | lit l => cases l <;> simp [Rows.uptoBulk]
  | _ => simp [Rows.uptoBulk]
theorem bulk_len {H : Type} : ∀ (l : List (DataW H)), l.length ≤ Rows.uptoBulkAll l
  | [] => Nat.zero_le _
  | d :: r => by
    have := bulk_pos d
    have := bulk_len r
    simp only [Rows.uptoBulkAll, List.length_cons]
    omega
theorem bulk_mem {H : Type} : ∀ {l : List (DataW H)} {d : DataW H}, d ∈ l → Rows.uptoBulk d ≤ Rows.uptoBulkAll l
  | a :: r, d, h => by
    simp only [Rows.uptoBulkAll]
    rcases List.mem_cons.1 h with rfl | h
    · omega
    · have := bulk_mem h
      omega
section
variable {H : Type} {enc : TypeId × Value → H} {w : World} {held : Bool}
/-- A slice that came in, as a list of what its elements are, with its bounds. -/
theorem list_open {α : Type} [Inhabited α] (d : Kd α) {t e : TypeId} (hu : Tryd.prog.underlying t = some (.slice e)) (hz : Tryd.prog.cellsOf e = d.sz) (G : α → Nat → Prop)
    (elem : ∀ (fuel : Nat) (cs : List Value) (x : DataW H × List MemPlace), DataW.trod enc Tryd.prog w 0 (fun _ => true) held fuel e cs = some x → ∃ a : α, d.K w a cs ∧ ∀ N, Rows.uptoBulk x.1 ≤ N → G a N)
    {fuel : Nat} {cs : List Value} {x : DataW H × List MemPlace} (h : DataW.trod enc Tryd.prog w 0 (fun _ => true) held fuel t cs = some x) :
    ∃ (A : Option Addr) (cap : Nat) (l : List α), cs = [.slice A l.length cap] ∧ l.length ≤ cap ∧ d.C w A l.length l ∧ ∀ N, Rows.uptoBulk x.1 ≤ N → l.length ≤ N ∧ ∀ a ∈ l, G a N := by
  rcases Go.Deep.open_slice hu h with ⟨rfl, rfl⟩ | ⟨ad, len, cap, m, n, D, Pl, rfl, _, hlc, hcm, hmm, rfl, hel⟩
  · exact ⟨none, 0, [], rfl, Nat.le_refl _, ⟨rfl, Nat.zero_le _, fun h => absurd h (Nat.lt_irrefl 0)⟩, fun N _ => ⟨Nat.zero_le _, fun a ha => by cases ha⟩⟩
  · simp only [if_true] at hmm
    subst hmm
    obtain ⟨V, hV⟩ := Go.Deep.choose_lt (α := α) (n := len) (p := fun i a => ∃ c, w.cells? 0 (ad.add (i * d.sz)) d.sz = some c ∧ d.K w a c ∧ ∀ N, Rows.uptoBulk (D i) ≤ N → G a N) (fun i hi => by
      obtain ⟨cs', h1, h2⟩ := hel i (by omega)
      rw [hz] at h1
      obtain ⟨a, ha, hw⟩ := elem _ _ _ h2
      exact ⟨a, cs', h1, ha, hw⟩)
    have hmax : maxLen ≤ 9223372036854775807 := by decide
    refine ⟨some ad, m, (List.range len).map V, by simp, by simpa using hlc, ⟨rfl, by simp only [List.length_map, List.length_range]; omega, fun _ => ⟨ad, rfl, fun j q hj => ?_⟩⟩, fun N hN => ?_⟩
    · rw [List.getElem?_map] at hj
      obtain ⟨i, hi, rfl⟩ := Option.map_eq_some_iff.1 hj
      obtain ⟨hi1, hi2⟩ := List.getElem?_eq_some_iff.1 hi
      rw [List.getElem_range] at hi2
      subst hi2
      rw [List.length_range] at hi1
      obtain ⟨c, hc1, hc2, _⟩ := hV j hi1
      obtain ⟨_, hl, hc⟩ := World.cells?_some hc1
      refine ⟨c, hl, hc2, fun i u hu => ?_⟩
      have hi4 : i < d.sz := by have := (List.getElem?_eq_some_iff.1 hu).1; omega
      have := hc i hi4
      rw [hu] at this
      rw [← this, Addr.add_add]
    · simp only [Rows.uptoBulk] at hN
      have hlen := bulk_len ((List.range len).map D)
      rw [List.length_map, List.length_range] at hlen
      refine ⟨by simp only [List.length_map, List.length_range]; omega, fun a ha => ?_⟩
      obtain ⟨i, hi, rfl⟩ := List.mem_map.1 ha
      rw [List.mem_range] at hi
      obtain ⟨_, _, _, hG⟩ := hV i hi
      have := bulk_mem (l := (List.range len).map D) (List.mem_map.2 ⟨i, List.mem_range.2 hi, rfl⟩)
      exact hG N (by omega)
theorem three_of {α : Type} : ∀ (l : List α), l.length = 3 → ∃ a b c, l = [a, b, c]
  | [a, b, c], _ => ⟨a, b, c, rfl⟩
theorem six_of {α : Type} : ∀ (l : List α), l.length = 6 → ∃ a b c d e f, l = [a, b, c, d, e, f]
  | [a, b, c, d, e, f], _ => ⟨a, b, c, d, e, f, rfl⟩
theorem i64_wf {n : Int} (h : (Lit.int .i64 n).wf = true) : -9223372036854775808 ≤ n ∧ n ≤ 9223372036854775807 := by
  simp only [Lit.wf, Bool.and_eq_true, decide_eq_true_eq] at h
  exact h
theorem str_elem (fuel : Nat) (cs : List Value) (x : DataW H × List MemPlace) (h : DataW.trod enc Tryd.prog w 0 (fun _ => true) held fuel 9 cs = some x) : ∃ a : ByteArray, Kd.string.K w a cs ∧ ∀ N, Rows.uptoBulk x.1 ≤ N → a.size ≤ N := by
  obtain ⟨s, rfl, rfl, _⟩ := DataW.trod_string Tryd.underlying9 h
  refine ⟨s, rfl, fun N hN => ?_⟩
  simp only [Rows.uptoBulk, Array.length_toList] at hN
  show s.data.size ≤ N
  omega
instance : Inhabited T.S42 := ⟨T.z42⟩
instance : Inhabited T.S44 := ⟨T.z44⟩
set_option maxRecDepth 100000 in
theorem col_elem (fuel : Nat) (cs : List Value) (x : DataW H × List MemPlace) (h : DataW.trod enc Tryd.prog w 0 (fun _ => true) held fuel 42 cs = some x) : ∃ a : T.S42, T.k42.K w a cs ∧ ∀ N, Rows.uptoBulk x.1 ≤ N → a.f0.size ≤ N ∧ a.f1.size ≤ N := by
  obtain ⟨xs, n, rfl, rfl, hl, hxs, hf⟩ := DataW.trod_struct Tryd.underlying42 h
  rw [cells42] at hl
  obtain ⟨c0, c1, c2, rfl⟩ := three_of cs hl
  obtain ⟨y0, y1, y2, rfl⟩ := three_of xs hxs
  have h0 := hf 0 _ rfl
  have h1 := hf 1 _ rfl
  have h2 := hf 2 _ rfl
  simp only [cells3, cells9, List.drop_succ_cons, List.drop_zero, List.take_succ_cons, List.take_zero, List.getElem?_cons_zero, List.getElem?_cons_succ] at h0 h1 h2
  obtain ⟨s0, e0, d0, _⟩ := DataW.trod_string Tryd.underlying9 h0
  obtain ⟨s1, e1, d1, _⟩ := DataW.trod_string Tryd.underlying9 h1
  obtain ⟨z2, e2, d2, _⟩ := DataW.trod_int Tryd.underlying3 h2
  cases e0; cases e1; cases e2; cases d0; cases d1; cases d2
  refine ⟨⟨s0, s1, z2⟩, T.k42_mk w ⟨s0, s1, z2⟩, fun N hN => ?_⟩
  simp only [Rows.uptoBulk, Rows.uptoBulkAll, List.map_cons, List.map_nil, Array.length_toList] at hN
  show s0.data.size ≤ N ∧ s1.data.size ≤ N
  omega
set_option maxRecDepth 100000 in
theorem val_elem (fuel : Nat) (cs : List Value) (x : DataW H × List MemPlace) (h : DataW.trod enc Tryd.prog w 0 (fun _ => true) held fuel 44 cs = some x) : ∃ a : T.S44, T.k44.K w a cs ∧ ∀ N, Rows.uptoBulk x.1 ≤ N → a.f2.size ≤ N ∧ -9223372036854775808 ≤ a.f1 ∧ a.f1 ≤ 9223372036854775807 := by
  obtain ⟨xs, n, rfl, rfl, hl, hxs, hf⟩ := DataW.trod_struct Tryd.underlying44 h
  rw [cells44] at hl
  obtain ⟨c0, c1, c2, rfl⟩ := three_of cs hl
  obtain ⟨y0, y1, y2, rfl⟩ := three_of xs hxs
  have h0 := hf 0 _ rfl
  have h1 := hf 1 _ rfl
  have h2 := hf 2 _ rfl
  simp only [cells3, cells9, List.drop_succ_cons, List.drop_zero, List.take_succ_cons, List.take_zero, List.getElem?_cons_zero, List.getElem?_cons_succ] at h0 h1 h2
  obtain ⟨z0, e0, d0, _⟩ := DataW.trod_int Tryd.underlying3 h0
  obtain ⟨z1, e1, d1, w1⟩ := DataW.trod_int Tryd.underlying3 h1
  obtain ⟨s2, e2, d2, _⟩ := DataW.trod_string Tryd.underlying9 h2
  cases e0; cases e1; cases e2; cases d0; cases d1; cases d2
  refine ⟨⟨z0, z1, s2⟩, T.k44_mk w ⟨z0, z1, s2⟩, fun N hN => ⟨?_, i64_wf w1⟩⟩
  simp only [Rows.uptoBulk, Rows.uptoBulkAll, List.map_cons, List.map_nil, Array.length_toList] at hN
  show s2.data.size ≤ N
  omega
theorem row_elem (fuel : Nat) (cs : List Value) (x : DataW H × List MemPlace) (h : DataW.trod enc Tryd.prog w 0 (fun _ => true) held fuel 47 cs = some x) :
    ∃ a : List T.S44, (Kd.slice 44 T.k44).K w a cs ∧ ∀ N, Rows.uptoBulk x.1 ≤ N → a.length ≤ N ∧ ∀ v ∈ a, v.f2.size ≤ N ∧ -9223372036854775808 ≤ v.f1 ∧ v.f1 ≤ 9223372036854775807 := by
  obtain ⟨A, cap, l, rfl, h1, h2, h3⟩ := list_open T.k44 Tryd.underlying47 cells44 (fun a N => a.f2.size ≤ N ∧ -9223372036854775808 ≤ a.f1 ∧ a.f1 ≤ 9223372036854775807) val_elem h
  exact ⟨l, ⟨A, cap, rfl, h1, h2⟩, h3⟩
theorem act_elem (fuel : Nat) (cs : List Value) (x : DataW H × List MemPlace) (h : DataW.trod enc Tryd.prog w 0 (fun _ => true) held fuel 40 cs = some x) : ∃ a : T.S40, T.k40.K w a cs ∧ ∀ N, Rows.uptoBulk x.1 ≤ N → a.f3.size ≤ N := by
  obtain ⟨y0, y1, y2, y3, n, rfl, hl, h0, h1, h2, h3⟩ := trod_struct4 Tryd.underlying40 h
  rw [cells40] at hl
  obtain ⟨c0, c1, c2, c3, rfl⟩ := four_of cs hl
  simp only [cells3, cells9, List.drop_succ_cons, List.drop_zero, List.take_succ_cons, List.take_zero] at h0 h1 h2 h3
  obtain ⟨z0, e0, _, _⟩ := DataW.trod_int Tryd.underlying3 h0
  obtain ⟨z1, e1, _, _⟩ := DataW.trod_int Tryd.underlying3 h1
  obtain ⟨z2, e2, _, _⟩ := DataW.trod_int Tryd.underlying3 h2
  obtain ⟨s, e3, d3, _⟩ := DataW.trod_string Tryd.underlying9 h3
  cases e0; cases e1; cases e2; cases e3; cases d3
  refine ⟨⟨z0, z1, z2, s⟩, T.k40_mk w ⟨z0, z1, z2, s⟩, fun N hN => ?_⟩
  simp only [Rows.uptoBulk, Rows.uptoBulkAll, Array.length_toList] at hN
  show s.data.size ≤ N
  omega
set_option maxRecDepth 100000 in
/-- The answer that came in. -/
theorem reply_open {cs : Array Value} {d : DataW H} {p : List MemPlace} (h : DataW.Trod enc Tryd.prog w 0 (fun _ => true) held 28 (.agg cs) d p) :
    ∃ (a b c : Int) (A3 : Option Addr) (c3 : Nat) (l3 : List T.S42) (A4 : Option Addr) (c4 : Nat) (l4 : List (List T.S44)) (A5 : Option Addr) (c5 : Nat) (l5 : List ByteArray),
      cs = #[.int .i64 a, .int .i64 b, .int .i64 c, .slice A3 l3.length c3, .slice A4 l4.length c4, .slice A5 l5.length c5] ∧
      (-9223372036854775808 ≤ a ∧ a ≤ 9223372036854775807) ∧ (-9223372036854775808 ≤ b ∧ b ≤ 9223372036854775807) ∧ (-9223372036854775808 ≤ c ∧ c ≤ 9223372036854775807) ∧
      l3.length ≤ c3 ∧ Kd.C T.k42 w A3 l3.length l3 ∧ l4.length ≤ c4 ∧ Kd.C (Kd.slice 44 T.k44) w A4 l4.length l4 ∧ l5.length ≤ c5 ∧ Kd.C Kd.string w A5 l5.length l5 ∧
      ∀ N, Rows.uptoBulk d ≤ N → (l3.length ≤ N ∧ ∀ a ∈ l3, a.f0.size ≤ N ∧ a.f1.size ≤ N) ∧ (l4.length ≤ N ∧ ∀ r ∈ l4, r.length ≤ N ∧ ∀ v ∈ r, v.f2.size ≤ N ∧ -9223372036854775808 ≤ v.f1 ∧ v.f1 ≤ 9223372036854775807) ∧ (l5.length ≤ N ∧ ∀ a ∈ l5, a.size ≤ N) := by
  obtain ⟨fuel, h⟩ := h
  obtain ⟨xs, n, rfl, hx, hl, hxs, hf⟩ := DataW.trod_struct Tryd.underlying28 h
  rw [cells28] at hl
  obtain ⟨v0, v1, v2, v3, v4, v5, hcs⟩ := six_of _ hl
  obtain ⟨y0, y1, y2, y3, y4, y5, rfl⟩ := six_of xs hxs
  rw [hcs] at hf
  have h0 := hf 0 _ rfl
  have h1 := hf 1 _ rfl
  have h2 := hf 2 _ rfl
  have h3 := hf 3 _ rfl
  have h4 := hf 4 _ rfl
  have h5 := hf 5 _ rfl
  simp only [cells3, cells23, cells24, cells25, cells26, List.drop_succ_cons, List.drop_zero, List.take_succ_cons, List.take_zero, List.getElem?_cons_zero, List.getElem?_cons_succ] at h0 h1 h2 h3 h4 h5
  obtain ⟨a, e0, _, w0⟩ := DataW.trod_int Tryd.underlying3 h0
  obtain ⟨b, e1, _, w1⟩ := DataW.trod_int Tryd.underlying23 h1
  obtain ⟨c, e2, _, w2⟩ := DataW.trod_int Tryd.underlying3 h2
  obtain ⟨A3, c3, l3, e3, p3, q3, g3⟩ := list_open T.k42 Tryd.underlying24 cells42 (fun a N => a.f0.size ≤ N ∧ a.f1.size ≤ N) col_elem h3
  obtain ⟨A4, c4, l4, e4, p4, q4, g4⟩ := list_open (Kd.slice 44 T.k44) Tryd.underlying25 cells47 (fun a N => a.length ≤ N ∧ ∀ v ∈ a, v.f2.size ≤ N ∧ -9223372036854775808 ≤ v.f1 ∧ v.f1 ≤ 9223372036854775807) row_elem h4
  obtain ⟨A5, c5, l5, e5, p5, q5, g5⟩ := list_open Kd.string Tryd.underlying26 cells9 (fun a N => a.size ≤ N) str_elem h5
  cases e0; cases e1; cases e2; cases e3; cases e4; cases e5
  refine ⟨a, b, c, A3, c3, l3, A4, c4, l4, A5, c5, l5, ?_, i64_wf w0, i64_wf w1, i64_wf w2, p3, q3, p4, q4, p5, q5, fun N hN => ?_⟩
  · apply Array.ext'
    exact hcs
  · cases hx
    simp only [Rows.uptoBulk, Rows.uptoBulkAll, List.map_cons, List.map_nil] at hN
    exact ⟨g3 N (by omega), g4 N (by omega), g5 N (by omega)⟩
end
end Go.Proofs.YtkcnmfeenhpjpaaDoor
