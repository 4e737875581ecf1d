/- What the rows' conditions give the walks: the library's variables, and the list of acts and the text that came in. -/
import Derived.Test.YtkcnmfeenhpjpaaDoorCards
import Derived.Test.YtkcnmfeenhpjpaaDoorTie
import Derived.Test.YtkcnmfeenhpjpaaDoorGiven
import Derived.Test.YtkcnmfeenhpjpaaDoorTx0
import Derived.WalkKit
import Derived.ProofKit
import Derived.OpenShut
import Derived.ShutString
import Derived.ChangeOld
import Derived.Below
import Derived.SizedLaws
import Derived.LaidMore
import Derived.Lay
import Derived.Stop.Joined
import Derived.Stop.LaidErr
import Derived.Deep.DeepHandedRow
import Derived.Deep.Slices
import Derived.Lib.LaidTab
import Derived.Lib.SmallJoins
import Derived.Shelf.Vars
set_option linter.unusedVariables false
set_option linter.unusedSimpArgs false
namespace Go.Proofs.YtkcnmfeenhpjpaaDoor
open Go.Joins Go.ChangeShapes Go.WideShapes Go.ChangeAt Go.RowKit Go.Proofs.YtkcnmfeenhpjpaaDoorW.PrintWords Go.Proofs.YtkcnmfeenhpjpaaDoorW.PrintLast Go.Proofs.YtkcnmfeenhpjpaaDoorW.PrintMore
theorem own : ownKnob Tryd.prog.godebug = none := by kernel_rfl
theorem laidOut : laidOutB Tryd.prog = true := by kernel_rfl
theorem cells3 : Tryd.prog.cellsOf 3 = 1 := by kernel_rfl
theorem cells9 : Tryd.prog.cellsOf 9 = 1 := by kernel_rfl
theorem cells40 : Tryd.prog.cellsOf 40 = 4 := by kernel_rfl
theorem bytes40 : Tryd.prog.bytesOf 40 = 40 := by kernel_rfl
/-- A variable that the row lists as an error holds a value of interface type. -/
theorem sentinel_cell {n nm : String} {d : DataW Unit} {r : List (String × DataW Unit)} {W : World} {g : Nat} {ti : TypeId} {ms : Array (String × TypeId)}
    (h : laidMet Tryd.prog ((n, .iface nm d) :: r) W) (hg : Tryd.prog.globalNamed n = some g) (ht : (Tryd.prog.globals[g]?).map (·.type) = some ti) (hi : Tryd.prog.underlying ti = some (.interface ms)) :
    ∃ u v, W.cell? ⟨g, 0, none⟩ = some (.iface u v) := by
  obtain ⟨ps, ⟨g0, t0, cs0, f0, p0, q0, hg0, ht0, hv0, hd0, _, e0⟩, _, hrows⟩ := h
  obtain rfl := Option.some.inj (hg.symm.trans hg0)
  obtain rfl := Option.some.inj (ht.symm.trans ht0)
  obtain ⟨f1, u, v, hcs, hn, h1⟩ := iface_of_trod hi hd0
  refine ⟨u, v, ?_⟩
  rw [World.var?_cell hg hv0 0]
  have : cs0.toList[0]? = some (.iface u v) := by rw [hcs]; rfl
  simpa using this
/-- What the row's list gives: the library's variables hold what its text lays. -/
theorem glob_row {W : World} (hL0 : laidMetH Tryd.prog Rows.scriptBackRow.laid W) (hsh : W.ShapedOpen Tryd.prog) : Glob W := by
  rw [MakeChecks.laidMetH_plain _ _ _ (by kernel_rfl)] at hL0
  have h2 := laidMet.tail (laidMet.tail hL0)
  have h5 := laidMet.tail (laidMet.tail h2)
  have h6 := laidMet.tail h5
  obtain ⟨m, hm⟩ := cell_of_shapedOpen_int (g := 0) (t := 3) (zero := #[.int .i64 0]) (k := .i64) hsh (of_decide_eq_true (by kernel_rfl)) (by kernel_rfl) rfl (by kernel_rfl) (by kernel_rfl) Tryd.underlying3
  have tab : Lib.TabIs Tryd.prog W "internal/strconv.uint64pow10" .u64 Lib.pow10Tab :=
    Lib.tabIs_of_head (g := 3) (t := 115) (e := 102) (n := 20) (by kernel_rfl) (by kernel_rfl) Tryd.underlying115 Tryd.underlying102 (by kernel_rfl) (by kernel_rfl) h2
  obtain ⟨t2, p2, hr⟩ := sentinel_cell (g := 2) (ti := 72) h5 (by kernel_rfl) (by kernel_rfl) Tryd.underlying72
  obtain ⟨t1, p1, hs⟩ := sentinel_cell (g := 1) (ti := 72) h6 (by kernel_rfl) (by kernel_rfl) Tryd.underlying72
  have c3 : W.cell? ⟨3, 0, none⟩ = some (.int .u64 1) := tab.cell glob_of_pow 0 (by decide)
  refine ⟨⟨m, hm⟩, tab, ⟨_, _, hs⟩, ⟨_, _, hr⟩, ?_⟩
  rcases Nat.lt_or_ge 3 W.heap.size with h | h
  · exact h
  · exfalso
    have : W.heap[3]? = none := Array.getElem?_eq_none h
    simp [World.cell?, this] at c3
theorem weightsAll_mem {H : Type} {P : Program} {e : TypeId} : ∀ {l : List (DataW H)} {d : DataW H}, d ∈ l → ∀ n ∈ d.weights P e, n ∈ DataW.weightsAll P e l
  | a :: r, d, h, n, hn => by
    simp only [DataW.weightsAll, List.mem_append]
    rcases List.mem_cons.1 h with rfl | h
    · exact Or.inl hn
    · exact Or.inr (weightsAll_mem h n hn)
theorem four_of {α : Type} : ∀ (l : List α), l.length = 4 → ∃ a b c d, l = [a, b, c, d]
  | [a, b, c, d], _ => ⟨a, b, c, d, rfl⟩
instance : Inhabited T.S40 := ⟨T.z40⟩
/-- One act, as its four cells. -/
theorem act_cells {H : Type} {enc : TypeId × Value → H} {w : World} {base : Nat} {sp : Nat → Bool} {held : Bool} {fuel : Nat} {cs : List Value} {x : DataW H × List MemPlace} (h : DataW.trod enc Tryd.prog w base sp held fuel 40 cs = some x) :
    ∃ a : T.S40, cs = [.int .i64 a.f0, .int .i64 a.f1, .int .i64 a.f2, .string a.f3] ∧ a.f3.size ∈ x.1.weights Tryd.prog 40 := by
  obtain ⟨y0, y1, y2, y3, n, rfl, hl, h0, h1, h2, h3⟩ := trod_struct4 Tryd.underlying40 h
  rw [cells40] at hl
  obtain ⟨c0, c1, c2, c3, rfl⟩ := four_of cs hl
  · simp only [cells3, cells9, List.drop_succ_cons, List.drop_zero, List.take_succ_cons, List.take_zero] at h0 h1 h2 h3
    obtain ⟨z0, e0, _, _⟩ := DataW.trod_int Tryd.underlying3 h0
    obtain ⟨z1, e1, _, _⟩ := DataW.trod_int Tryd.underlying3 h1
    obtain ⟨z2, e2, _, _⟩ := DataW.trod_int Tryd.underlying3 h2
    obtain ⟨s, e3, d3, _⟩ := DataW.trod_string Tryd.underlying9 h3
    cases e0; cases e1; cases e2; cases e3
    refine ⟨⟨z0, z1, z2, s⟩, rfl, ?_⟩
    obtain ⟨y30, y31⟩ := y3
    cases d3
    simp [DataW.weights, Tryd.underlying40, DataW.weightsEach]
/-- The list of acts that came in. -/
theorem acts_open {H : Type} {enc : TypeId × Value → H} {W : World} {A : Option Addr} {len cap : Nat} {d : DataW H} {p : List MemPlace}
    (h : DataW.Trod enc Tryd.prog W 0 (fun _ => true) true 22 (.slice A len cap) d p) :
    ∃ l : List T.S40, l.length = len ∧ len ≤ cap ∧ Kd.C T.k40 W A len l ∧ len * 40 ∈ [len * 40] ∧
      ((∀ n ∈ d.weights Tryd.prog 22, n ≤ reachBytes) → len * 40 ≤ reachBytes ∧ ∀ a ∈ l, a.f3.size ≤ reachBytes) := by
  obtain ⟨fuel, hf⟩ := h
  rcases Go.Deep.open_slice Tryd.underlying22 hf with ⟨hcs, _⟩ | ⟨ad, len', cap', m, n, D, Pl, hcs, _, hlc, hcm, hmm, hx, hel⟩
  · simp [Value.cells] at hcs
    obtain ⟨rfl, rfl, rfl⟩ := hcs
    exact ⟨[], rfl, Nat.le_refl _, ⟨rfl, by omega, fun h => by omega⟩, by simp, fun _ => ⟨by simp, fun a ha => by cases ha⟩⟩
  · simp [Value.cells] at hcs
    obtain ⟨rfl, rfl, rfl⟩ := hcs
    simp only [if_true] at hmm
    subst hmm
    obtain ⟨V, hV⟩ := Go.Deep.choose_lt (α := T.S40) (n := len) (p := fun i a => W.cells? 0 (ad.add (i * 4)) 4 = some [.int .i64 a.f0, .int .i64 a.f1, .int .i64 a.f2, .string a.f3] ∧ a.f3.size ∈ (D i).weights Tryd.prog 40) (fun i hi => by
      obtain ⟨cs', h1, h2⟩ := hel i (by omega)
      rw [cells40] at h1
      obtain ⟨a, rfl, hw⟩ := act_cells h2
      exact ⟨a, h1, hw⟩)
    have hmax : maxLen ≤ 9223372036854775807 := by decide
    refine ⟨(List.range len).map V, by simp, hlc, ⟨by simp, by omega, fun _ => ⟨ad, rfl, fun j q hj => ?_⟩⟩, by simp, fun hw => ⟨?_, fun a ha => ?_⟩⟩
    · rw [List.getElem?_map] at hj
      obtain ⟨i, hi, rfl⟩ := Option.map_eq_some_iff.1 hj
      obtain ⟨hi1, hi2⟩ := List.getElem?_eq_some_iff.1 hi
      rw [List.getElem_range] at hi2
      subst hi2
      rw [List.length_range] at hi1
      obtain ⟨_, _, hc⟩ := World.cells?_some (hV j hi1).1
      refine ⟨_, rfl, T.k40_mk W (V j), fun i u hu => ?_⟩
      have hi4 : i < 4 := (List.getElem?_eq_some_iff.1 hu).1
      have := hc i hi4
      rw [hu] at this
      rw [← this]
      show W.cell? (ad.add (j * 4 + i)) = W.cell? ((ad.add (j * 4)).add i)
      by_cases h1 : j * 4 = 0 <;> by_cases h2 : i = 0 <;> simp [Addr.add, h1, h2, Nat.add_assoc]
    · cases hx
      have := hw ((len + (m - len)) * 40) (by
        rw [DataW.weights]
        simp [Tryd.underlying22, bytes40])
      have h40 : len * 40 ≤ (len + (m - len)) * 40 := Nat.mul_le_mul_right _ (by omega)
      exact Nat.le_trans h40 this
    · cases hx
      obtain ⟨i, hi, rfl⟩ := List.mem_map.1 ha
      rw [List.mem_range] at hi
      refine hw _ ?_
      rw [DataW.weights]
      simp only [Tryd.underlying22, List.mem_cons, List.mem_append]
      exact Or.inr (Or.inl (weightsAll_mem (List.mem_map.2 ⟨i, List.mem_range.2 hi, rfl⟩) _ (hV i hi).2))
end Go.Proofs.YtkcnmfeenhpjpaaDoor
