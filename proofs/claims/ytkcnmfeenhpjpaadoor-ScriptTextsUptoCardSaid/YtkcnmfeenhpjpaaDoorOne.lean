/- script.one: its call returns the act of a line, in whatever order the map of its two words is gone through. -/
import Derived.Test.YtkcnmfeenhpjpaaDoorGivenC
import Derived.Maps.RangeWalk
import Derived.Maps.Own
import Derived.Sort.MapsRangeIn
import Derived.WalkSpells
set_option linter.unusedVariables false
set_option linter.unusedSimpArgs false
namespace Go.Proofs.YtkcnmfeenhpjpaaDoor
open Go.RowKit Go.WideMaps Go.Maps Go.Proofs.YtkcnmfeenhpjpaaDoorW.PrintWords Go.Proofs.YtkcnmfeenhpjpaaDoorW.PrintLast Go.Proofs.YtkcnmfeenhpjpaaDoorW.PrintMore
theorem wpList_insert_own {H : Type} {P : Program} (w : World) {ops : Array Oper} {rest : List Oper} {o : Oper} {a : Act} {Q : Exit → Act → World → Prop}
    (hg : o.guard = none) (m x v : Operand) (t : TypeId) (hop : o.op = Op.insert t m x v)
    (k e : TypeId) (K : Keyed P k) (ht : P.underlying t = some (.map k e)) (R : Value → Option (DataW H × List MemPlace)) (b n : Nat) (D : DataW H)
    (hm : a.eval m = .map (some b)) (hown : w.ownsMap P k R b n D) (hn : n < maxLen) (key val : Value) (kl : Lit) (hx : a.eval x = key) (hv : a.eval v = val) (hkey : keyOf P k key = some kl)
    (d : DataW H) (ps : List MemPlace) (hval : R val = some (d, ps))
    (hK : ∀ w', w'.ownsMap P k R b (n + 1) (D.put kl d) → w.grownBy w' (some b) → wpList P ops Q rest (a.put o.dst undef) w') :
    wpList P ops Q (o :: rest) a w := by
  refine wpList_plain hg fun K' hK' => ?_
  obtain ⟨w', hrun, r1, r2⟩ := hown.update K ht hn hkey hval
  unfold Oper.wp
  simp [execOp, hop, hm, hx, hv, hrun, Result.andThen]
  exact hK' _ _ (hK w' r1 r2)
theorem law9 : Keyed Tryd.prog 9 := string_keyed Tryd.underlying9
abbrev kPower : Lit := .string [112, 111, 119, 101, 114, 32]
abbrev kFlush : Lit := .string [102, 108, 117, 115, 104, 32]
/-- The map {"power ": 2, "flush ": 4}. -/
def mapD : DataW Unit := ((DataW.map []).put kPower (.lit (.int .i64 2))).put kFlush (.lit (.int .i64 4))
theorem mapD_eq : mapD = .map [(kFlush, .lit (.int .i64 4)), (kPower, .lit (.int .i64 2))] := by rfl
theorem has_mapD (kl : Lit) (h : Maps.has mapD kl = true) : kl = kPower ∨ kl = kFlush := by
  rw [mapD_eq] at h
  cases kl with
  | string l =>
    have h' : (([102, 108, 117, 115, 104, 32] : List UInt8) == l || (([112, 111, 119, 101, 114, 32] : List UInt8) == l || false)) = true := h
    rw [Bool.or_false, Bool.or_eq_true] at h'
    rcases h' with h' | h'
    · exact .inr (congrArg Lit.string (eq_of_beq h').symm)
    · exact .inl (congrArg Lit.string (eq_of_beq h').symm)
  | _ => exact absurd h (by simp [Maps.has, Lit.sameKey])
theorem key_power : keyOf Tryd.prog 9 (.string sPower) = some kPower := keyOf_string_mk Tryd.underlying9 (by decide)
theorem key_flush : keyOf Tryd.prog 9 (.string sFlush) = some kFlush := keyOf_string_mk Tryd.underlying9 (by decide)
theorem own_made (w : World) (o1 o2 : Obj) (nd : Nat) : ((((w.alloc o1).alloc o2).drewN nd).alloc (.map #[] 0)).ownsMap (H := Unit) Tryd.prog 9 (plainElem Tryd.prog 3) (w.heap.size + 1 + 1) 0 (.map []) := by
  have e : (((w.alloc o1).alloc o2).drewN nd).heap.size = w.heap.size + 1 + 1 := by simp
  exact e ▸ World.ownsMap_made _ _ _ _
/-- The world ahead of, in and behind the loop: the result's block, the act's block, an iterator's block R behind them. -/
structure OneW (w wr : World) (R : Nat) (kind : Int) : Prop where mk ::
  below : Below w.heap.size w wr
  res : wr.heap[w.heap.size]? = some (.cells #[.int .i64 0, .int .i64 0, .int .i64 0, .string ⟨#[]⟩] 40 (0, 0))
  box : wr.heap[w.heap.size + 1]? = some (.cells #[.int .i64 kind, .int .i64 0, .int .i64 0, .string ⟨#[]⟩] 40 (0, 0))
  far : w.heap.size + 2 < R
theorem OneW.next {w wr w' : World} {R : Nat} {kind : Int} (h : OneW w wr R kind) (hg : wr.grownBy w' (some R)) : OneW w w' R kind := by
  have hf := h.far
  exact ⟨h.below.grown hg h.below.size (fun j hj => by cases hj; omega), blk_grown h.res hg (by simp; omega), blk_grown h.box hg (by simp; omega), hf⟩
theorem OneW.hit {w wr : World} {R : Nat} {kind : Int} (h : OneW w wr R kind) (k' : Int) : OneW w (wr.setCell ⟨w.heap.size + 1, 0, none⟩ (.int .i64 k')) R k' :=
  ⟨h.below.setCell (Nat.le_succ _) _, blk_far h.res (by simp) _, blk_put h.box 0 _ rfl, h.far⟩
theorem OneW.start {w w3 w4 w5 : World} {nd : Nat}
    (h3 : ((((w.alloc (.cells #[.int .i64 0, .int .i64 0, .int .i64 0, .string ⟨#[]⟩] 40)).alloc (.cells #[.int .i64 1, .int .i64 0, .int .i64 0, .string ⟨#[]⟩] 40)).drewN nd).alloc (.map #[] 0)).grownBy w3 (some (w.heap.size + 1 + 1)))
    (h4 : w3.grownBy w4 (some (w.heap.size + 1 + 1))) (h5 : w4.grownBy w5 none) : OneW w w5 w4.heap.size 1 := by
  obtain ⟨W1, hW1⟩ : ∃ W1, W1 = w.alloc (.cells #[.int .i64 0, .int .i64 0, .int .i64 0, .string ⟨#[]⟩] 40) := ⟨_, rfl⟩
  rw [← hW1] at h3
  obtain ⟨W2, hW2⟩ : ∃ W2, W2 = W1.alloc (.cells #[.int .i64 1, .int .i64 0, .int .i64 0, .string ⟨#[]⟩] 40) := ⟨_, rfl⟩
  rw [← hW2] at h3
  have s1 : W1.heap.size = w.heap.size + 1 := by rw [hW1]; simp
  have s2 : W2.heap.size = w.heap.size + 2 := by rw [hW2]; simp [s1]
  have b1 : W1.heap[w.heap.size]? = some (.cells #[.int .i64 0, .int .i64 0, .int .i64 0, .string ⟨#[]⟩] 40 (0, 0)) := by rw [hW1]; exact blk_new w _
  have b2 : W2.heap[w.heap.size]? = some (.cells #[.int .i64 0, .int .i64 0, .int .i64 0, .string ⟨#[]⟩] 40 (0, 0)) := by rw [hW2]; exact blk_alloc b1 _
  have c2 : W2.heap[w.heap.size + 1]? = some (.cells #[.int .i64 1, .int .i64 0, .int .i64 0, .string ⟨#[]⟩] 40 (0, 0)) := by rw [hW2, ← s1]; exact blk_new W1 _
  have B2 : Below w.heap.size w W2 := by rw [hW2, hW1]; exact ((Below.refl _ _).alloc (Nat.le_refl _) _).alloc (by simp) _
  have b3 : ((W2.drewN nd).alloc (.map #[] 0)).heap[w.heap.size]? = _ := blk_alloc (blk_drewN b2 nd) _
  have c3 : ((W2.drewN nd).alloc (.map #[] 0)).heap[w.heap.size + 1]? = _ := blk_alloc (blk_drewN c2 nd) _
  have B3 : Below w.heap.size w ((W2.drewN nd).alloc (.map #[] 0)) := below_alloc (pw_below_drewN B2 nd) _
  have s3 : ((W2.drewN nd).alloc (.map #[] 0)).heap.size = w.heap.size + 3 := by
    have s2' : (W2.drewN nd).heap.size = w.heap.size + 2 := s2
    have s4 : ((W2.drewN nd).alloc (.map #[] 0)).heap.size = (W2.drewN nd).heap.size + 1 := by simp
    omega
  have t3 := h3.size
  have t4 := h4.size
  have n0 : some w.heap.size ≠ some (w.heap.size + 1 + 1) := by intro h; injection h; omega
  have n1 : some (w.heap.size + 1) ≠ some (w.heap.size + 1 + 1) := by simp
  have B4 := (B3.grown h3 (by omega) (fun j hj => by cases hj; omega)).grown h4 (by omega) (fun j hj => by cases hj; omega)
  exact ⟨B4.grown h5 (by omega) (fun j hj => by cases hj), blk_grown (blk_grown (blk_grown b3 h3 n0) h4 n0) h5 (by simp), blk_grown (blk_grown (blk_grown c3 h3 n1) h4 n1) h5 (by simp), by omega⟩
abbrev tPower (s : ByteArray) : ByteArray := ⟨(Lib.trimPrefix s.data.toList sPower.data.toList).toArray⟩
abbrev tFlush (s : ByteArray) : ByteArray := ⟨(Lib.trimPrefix s.data.toList sFlush.data.toList).toArray⟩
/-- What the loop has made of the kind, the head and whether there is one, where the words 'left' are still to come. -/
def stOf (s c1 : ByteArray) (c3 : Bool) (left : Lit → Bool) : Int × ByteArray × Bool :=
  if Lib.hasPrefix s.data.toList sPower.data.toList = true ∧ left kPower = false then (2, tPower s, true)
  else if Lib.hasPrefix s.data.toList sFlush.data.toList = true ∧ left kFlush = false then (4, tFlush s, true)
  else (1, c1, c3)
theorem not_both (l : List UInt8) : ¬ (Lib.hasPrefix l sPower.data.toList = true ∧ Lib.hasPrefix l sFlush.data.toList = true) := by
  intro ⟨h1, h2⟩
  cases l with
  | nil => simp [Lib.hasPrefix] at h1
  | cons c r =>
    simp only [Lib.hasPrefix, List.isPrefixOf, Bool.and_eq_true, beq_iff_eq] at h1 h2
    have e := h1.1.trans h2.1.symm
    exact absurd e (by decide)
theorem st_start (s c1 : ByteArray) (c3 : Bool) : stOf s c1 c3 (Maps.has mapD) = (1, c1, c3) := by
  have h1 : Maps.has mapD kPower = true := by rfl
  have h2 : Maps.has mapD kFlush = true := by rfl
  unfold stOf
  rw [h1, h2]
  simp
/-- One word more is no longer to come. -/
theorem st_miss (s c1 : ByteArray) (c3 : Bool) (left : Lit → Bool) (x : ByteArray) (hx : x = sPower ∨ x = sFlush) (hl : left (.string x.data.toList) = true) (hm : Lib.hasPrefix s.data.toList x.data.toList = false) :
    stOf s c1 c3 (fun z => left z && !z.sameKey (.string x.data.toList)) = stOf s c1 c3 left := by
  rcases hx with rfl | rfl
  · unfold stOf
    simp only [hm]
    have e : (left kFlush && !kFlush.sameKey (.string sPower.data.toList)) = left kFlush := by
      rw [show kFlush.sameKey (.string sPower.data.toList) = false from rfl]; simp
    simp [e]
  · unfold stOf
    simp only [hm]
    have e : (left kPower && !kPower.sameKey (.string sFlush.data.toList)) = left kPower := by
      rw [show kPower.sameKey (.string sFlush.data.toList) = false from rfl]; simp
    simp [e]
theorem st_hit (s c1 : ByteArray) (c3 : Bool) (left : Lit → Bool) (x : ByteArray) (hx : x = sPower ∨ x = sFlush) (hm : Lib.hasPrefix s.data.toList x.data.toList = true) :
    stOf s c1 c3 (fun z => left z && !z.sameKey (.string x.data.toList)) = (if x = sPower then 2 else 4, ⟨(Lib.trimPrefix s.data.toList x.data.toList).toArray⟩, true) := by
  rcases hx with rfl | rfl
  · unfold stOf
    rw [if_pos ⟨hm, by show (left kPower && !kPower.sameKey (.string sPower.data.toList)) = false; rw [show kPower.sameKey (.string sPower.data.toList) = true from rfl]; simp⟩, if_pos rfl]
  · unfold stOf
    rw [if_neg (fun h => not_both _ ⟨h.1, hm⟩), if_pos ⟨hm, by show (left kFlush && !kFlush.sameKey (.string sFlush.data.toList)) = false; rw [show kFlush.sameKey (.string sFlush.data.toList) = true from rfl]; simp⟩, if_neg (by decide)]
/-- What the loop makes in all. -/
def stEnd (s c1 : ByteArray) (c3 : Bool) : Int × ByteArray × Bool :=
  if Lib.hasPrefix s.data.toList sPower.data.toList = true then (2, tPower s, true)
  else if Lib.hasPrefix s.data.toList sFlush.data.toList = true then (4, tFlush s, true)
  else (1, c1, c3)
theorem st_end (s c1 : ByteArray) (c3 : Bool) (left : Lit → Bool) (h : ∀ kl, left kl = false) : stOf s c1 c3 left = stEnd s c1 c3 := by
  unfold stOf stEnd
  simp [h]
theorem key_of {x : ByteArray} {kl : Lit} (h : keyOf Tryd.prog 9 (.string x) = some kl) (hk : kl = kPower ∨ kl = kFlush) : (x = sPower ∨ x = sFlush) ∧ kl = .string x.data.toList := by
  have e : kl = .string x.data.toList := by
    by_cases hs : x.size ≤ maxLen
    · have h2 := keyOf_string_mk Tryd.underlying9 hs
      rw [h2] at h
      exact (Option.some.inj h).symm
    · exfalso
      rw [keyOf_string Tryd.underlying9] at h
      simp [mapKey, Tryd.underlying9, hs] at h
  refine ⟨?_, e⟩
  obtain ⟨⟨l⟩⟩ := x
  rcases hk with rfl | rfl
  · injection e with e
    left; rw [show l = _ from e.symm]
  · injection e with e
    right; rw [show l = _ from e.symm]
theorem grown_set (w : World) (g j : Nat) (v : Value) : w.grownBy (w.setCell ⟨g, j, none⟩ v) (some g) :=
  ⟨rfl, rfl, rfl, by simp, fun i _ hi => Below.heap_setCell w ⟨g, j, none⟩ v i (fun e => hi (by rw [e]))⟩
set_option maxRecDepth 100000 in
theorem elem_of {x : ByteArray} {c : Int} {yd : DataW Unit} {yp : List MemPlace} (hx : x = sPower ∨ x = sFlush) (hv : plainElem Tryd.prog 3 (.int .i64 c) = some (yd, yp)) (hat : ∀ zd, mapD.atKey (.string x.data.toList) zd = yd) : c = if x = sPower then 2 else 4 := by
  obtain ⟨c', e1, e2, _⟩ := plainElem_int_inv Tryd.underlying3 hv
  injection e1 with _ e1
  subst e1
  injection e2 with e2 _
  subst e2
  rcases hx with rfl | rfl
  · have h := hat .nil
    rw [mapD_eq] at h
    have h2 : (DataW.lit (.int .i64 2) : DataW Unit) = .lit (.int .i64 c) := h
    simp only [DataW.lit.injEq, Lit.int.injEq, true_and] at h2
    rw [if_pos rfl]; exact h2.symm
  · have h := hat .nil
    rw [mapD_eq] at h
    have h2 : (DataW.lit (.int .i64 4) : DataW Unit) = .lit (.int .i64 c) := h
    simp only [DataW.lit.injEq, Lit.int.injEq, true_and] at h2
    rw [if_neg (by decide)]; exact h2.symm
set_option maxRecDepth 100000 in
set_option maxHeartbeats 1000000 in
theorem one_else (s c1 c2 : ByteArray) (c3 : Bool) (r1 r2 r3 : Int) (r4 : ByteArray) (r5 : Int) (w : World) (hG : Glob w) (ho : (s.toList == ([111, 112, 101, 110] : List UInt8)) = false) (hk : (s.toList == ([99, 104, 101, 99, 107, 112, 111, 105, 110, 116] : List UInt8)) = false)
    (hc : strings_Cut.f s ⟨#[58, 32]⟩ = some (c1, c2, c3)) (h : script_one.g (stEnd s c1 c3).1 (stEnd s c1 c3).2.1 c2 (stEnd s c1 c3).2.2 = some (r1, r2, r3, r4, r5)) :
    Calls Tryd.prog 21 #[.string s] w fun e w' => e = .returned (.tuple #[.agg #[.int .i64 r1, .int .i64 r2, .int .i64 r3, .string r4], .int .i64 r5]) ∧ Below w.heap.size w w' := by
  have hu40 := Tryd.underlying40
  have hmm := @run_makeMap Tryd.prog
  have HG := Aside0.mk hG
  have HC := Aside0.mk hc
  have HH := Aside0.mk h
  clear hG hc h
  have HB := Aside0.mk (Below.refl w.heap.size w)
  go_enter Tryd.func21, Tryd.ntmps21
  go_wp2_with (first
    | (go_at_call 20; refine (strings_Cut.calls s ⟨#[58, 32]⟩ c1 c2 c3 _ (HG.out.below (by repeat (first | exact HB.out | apply below_alloc | apply pw_below_drewN | apply below_drew1))) HC.out).mono ?_; rintro e w1 ⟨rfl, ⟨nd, rfl⟩⟩)
    | (refine wpList_insert_own (H := Unit) _ rfl _ _ _ 60 rfl 9 3 law9 Tryd.underlying60 (plainElem Tryd.prog 3) _ 0 (.map []) rfl (own_made _ _ _ _) (by decide) (.string sPower) (.int .i64 2) kPower rfl rfl key_power (.lit (.int .i64 2)) [] (plainElem_int Tryd.underlying3 (by decide)) ?_; intro w3 hown3 hg3)
    | (refine wpList_insert_own (H := Unit) _ rfl _ _ _ 60 rfl 9 3 law9 Tryd.underlying60 (plainElem Tryd.prog 3) _ 1 _ rfl hown3 (by decide) (.string sFlush) (.int .i64 4) kFlush rfl rfl key_flush (.lit (.int .i64 4)) [] (plainElem_int Tryd.underlying3 (by decide)) ?_; intro w4 hown4 hg4)
    | (at_range; refine wpList_range_own _ rfl _ 60 rfl 9 3 law9 Tryd.underlying60 _ _ 2 _ rfl hown4 ?_; intro w5 hrg hg5 hs5))
  have HW := Aside0.mk (OneW.start hg3 hg4 hg5)
  have HR : Aside0 (w5.ranges Tryd.prog 9 (plainElem Tryd.prog 3) (w.heap.size + 1 + 1) w4.heap.size 2 mapD (Maps.has mapD) (Maps.size mapD)) := ⟨hrg⟩
  clear hg3 hg4 hg5 hrg hown3 hown4 hs5
  obtain ⟨R, hR⟩ : ∃ R, R = w4.heap.size := ⟨_, rfl⟩
  rw [← hR] at HW HR ⊢
  clear hR
  try go_frame
  go_loopw [5, 7] (fun v5 v7 wr => ∃ (left : Lit → Bool) (cnt : Nat), v5 = .string (stOf s c1 c3 left).2.1 ∧ v7 = .bool (stOf s c1 c3 left).2.2 ∧ Aside0 (wr.ranges Tryd.prog 9 (plainElem Tryd.prog 3) (w.heap.size + 1 + 1) R 2 mapD left cnt) ∧ Aside0 (∀ kl, left kl = true → kl = kPower ∨ kl = kFlush) ∧ Aside0 (OneW w wr R (stOf s c1 c3 left).1))
    (fun _ _ wr => wr.rangeLeft (w.heap.size + 1 + 1) R)
  case atStart => exact ⟨Maps.has mapD, Maps.size mapD, by rw [st_start], by rw [st_start], HR, ⟨has_mapD⟩, ⟨by rw [st_start]; exact HW.out⟩⟩
  case round =>
    clear HR HW
    obtain ⟨left, cnt, rfl, rfl, HR, HL, HW⟩ := hrel
    go_wp2_with (first
      | (at_next; refine wpList_next_ranges (α := ByteArray) (β := Int) _ rfl _ rfl 9 law9 (plainElem Tryd.prog 3) Value.string (Value.int .i64) (fun key kl hkey => Maps.keyOf_string_inv Tryd.underlying9 hkey) (fun v y hv => by obtain ⟨c, rfl, _⟩ := plainElem_int_inv Tryd.underlying3 hv; exact ⟨c, rfl⟩) (w.heap.size + 1 + 1) R 2 mapD left cnt rfl HR.out ?_ ?_))
    · intro _ hl0
      have HS := Aside0.mk (st_end s c1 c3 left hl0)
      rw [HS.out] at HW ⊢
      clear hl0 HS HR HL
      obtain ⟨kd, hd, ok, hst⟩ : ∃ kd hd ok, (kd, hd, ok) = stEnd s c1 c3 := ⟨_, _, _, rfl⟩
      have HKD : Aside0 (kd = 1 ∨ kd = 2 ∨ kd = 4) := ⟨by
        have := congrArg Prod.fst hst; simp only at this; rw [this]; unfold stEnd
        split
        · exact .inr (.inl rfl)
        · split
          · exact .inr (.inr rfl)
          · exact .inl rfl⟩
      rw [← hst] at HW HH ⊢
      clear hst
      have h := HH.out
      clear HH HC
      simp only [script_one.g] at h HW ⊢
      obtain ⟨⟨n, is⟩, hn, h⟩ := Option.bind_eq_some_iff.mp h
      have HN := Aside0.mk hn
      clear hn
      have hz0 : wr.cell? ⟨w.heap.size + 1, 0, none⟩ = some (.int .i64 kd) := (blk_cell HW.out.box 0).trans rfl
      have hz1 := blk_frozen HW.out.box 0
      cases ok with
      | false =>
        simp only [Bool.false_eq_true, if_false, Option.some.injEq, Prod.mk.injEq] at h
        obtain ⟨rfl, rfl, rfl, rfl, rfl⟩ := h
        go_wp2_with (first
          | (go_at_call 32; refine (num_Parse.calls hd n is _ (HG.out.below HW.out.below) HN.out).mono ?_; rintro e w6 ⟨rfl, hb6⟩; have hB6 := Aside0.mk (HW.out.below.trans (hb6.mono HW.out.below.size)); have R6 := Aside0.mk (blk_below HW.out.res hb6); have B6 := Aside0.mk (blk_below HW.out.box hb6); have rr0 : w6.cell? ⟨w.heap.size, 0, none⟩ = some (.int .i64 0) := (blk_cell R6.out 0).trans rfl; have rrf0 := blk_frozen R6.out 0; have rr1 : w6.cell? ⟨w.heap.size, 1, none⟩ = some (.int .i64 0) := (blk_cell R6.out 1).trans rfl; have rrf1 := blk_frozen R6.out 1; have rr2 : w6.cell? ⟨w.heap.size, 2, none⟩ = some (.int .i64 0) := (blk_cell R6.out 2).trans rfl; have rrf2 := blk_frozen R6.out 2; have rr3 : w6.cell? ⟨w.heap.size, 3, none⟩ = some (.string ⟨#[]⟩) := (blk_cell R6.out 3).trans rfl; have rrf3 := blk_frozen R6.out 3; have bb0 : w6.cell? ⟨w.heap.size + 1, 0, none⟩ = some (.int .i64 kd) := (blk_cell B6.out 0).trans rfl; have bbf0 := blk_frozen B6.out 0; have bb1 : w6.cell? ⟨w.heap.size + 1, 1, none⟩ = some (.int .i64 0) := (blk_cell B6.out 1).trans rfl; have bbf1 := blk_frozen B6.out 1; have bb2 : w6.cell? ⟨w.heap.size + 1, 2, none⟩ = some (.int .i64 0) := (blk_cell B6.out 2).trans rfl; have bbf2 := blk_frozen B6.out 2; have bb3 : w6.cell? ⟨w.heap.size + 1, 3, none⟩ = some (.string ⟨#[]⟩) := (blk_cell B6.out 3).trans rfl; have bbf3 := blk_frozen B6.out 3; clear hz0 hz1 hb6))
        exact bodyPost_ret (v := .tuple #[.agg #[.int .i64 0, .int .i64 0, .int .i64 0, .string ⟨#[]⟩], .int .i64 2]) (by simp [results, Tryd.results21, go_sem, rr0, rr1, rr2, rr3]) rfl ⟨rfl, by repeat (first | exact hB6.out | refine below_set ?_ (Nat.le_refl _) | refine below_set ?_ (Nat.le_succ _) | apply pw_below_drewN | apply below_drew1)⟩
      | true =>
        cases is with
        | false =>
          simp only [if_true, Bool.false_eq_true, if_false, Option.some.injEq, Prod.mk.injEq] at h
          obtain ⟨rfl, rfl, rfl, rfl, rfl⟩ := h
          go_wp2_with (first
            | (go_at_call 32; refine (num_Parse.calls hd n false _ (HG.out.below HW.out.below) HN.out).mono ?_; rintro e w6 ⟨rfl, hb6⟩; have hB6 := Aside0.mk (HW.out.below.trans (hb6.mono HW.out.below.size)); have R6 := Aside0.mk (blk_below HW.out.res hb6); have B6 := Aside0.mk (blk_below HW.out.box hb6); have rr0 : w6.cell? ⟨w.heap.size, 0, none⟩ = some (.int .i64 0) := (blk_cell R6.out 0).trans rfl; have rrf0 := blk_frozen R6.out 0; have rr1 : w6.cell? ⟨w.heap.size, 1, none⟩ = some (.int .i64 0) := (blk_cell R6.out 1).trans rfl; have rrf1 := blk_frozen R6.out 1; have rr2 : w6.cell? ⟨w.heap.size, 2, none⟩ = some (.int .i64 0) := (blk_cell R6.out 2).trans rfl; have rrf2 := blk_frozen R6.out 2; have rr3 : w6.cell? ⟨w.heap.size, 3, none⟩ = some (.string ⟨#[]⟩) := (blk_cell R6.out 3).trans rfl; have rrf3 := blk_frozen R6.out 3; have bb0 : w6.cell? ⟨w.heap.size + 1, 0, none⟩ = some (.int .i64 kd) := (blk_cell B6.out 0).trans rfl; have bbf0 := blk_frozen B6.out 0; have bb1 : w6.cell? ⟨w.heap.size + 1, 1, none⟩ = some (.int .i64 0) := (blk_cell B6.out 1).trans rfl; have bbf1 := blk_frozen B6.out 1; have bb2 : w6.cell? ⟨w.heap.size + 1, 2, none⟩ = some (.int .i64 0) := (blk_cell B6.out 2).trans rfl; have bbf2 := blk_frozen B6.out 2; have bb3 : w6.cell? ⟨w.heap.size + 1, 3, none⟩ = some (.string ⟨#[]⟩) := (blk_cell B6.out 3).trans rfl; have bbf3 := blk_frozen B6.out 3; clear hz0 hz1 hb6))
          exact bodyPost_ret (v := .tuple #[.agg #[.int .i64 0, .int .i64 0, .int .i64 0, .string ⟨#[]⟩], .int .i64 2]) (by simp [results, Tryd.results21, go_sem, rr0, rr1, rr2, rr3]) rfl ⟨rfl, by repeat (first | exact hB6.out | refine below_set ?_ (Nat.le_refl _) | refine below_set ?_ (Nat.le_succ _) | apply pw_below_drewN | apply below_drew1)⟩
        | true =>
          simp only [if_true] at h
          by_cases hk1 : kd = 1
          · subst hk1
            clear HKD
            rw [if_pos rfl] at h
            obtain ⟨m, hm, h⟩ := Option.bind_eq_some_iff.mp h
            have HM := Aside0.mk hm
            clear hm
            cases m with
            | true =>
              simp only [if_true, Option.some.injEq, Prod.mk.injEq] at h
              obtain ⟨rfl, rfl, rfl, rfl, rfl⟩ := h
              go_wp2_with (first
                | (go_at_call 32; refine (num_Parse.calls hd n true _ (HG.out.below HW.out.below) HN.out).mono ?_; rintro e w6 ⟨rfl, hb6⟩; have hB6 := Aside0.mk (HW.out.below.trans (hb6.mono HW.out.below.size)); have R6 := Aside0.mk (blk_below HW.out.res hb6); have B6 := Aside0.mk (blk_below HW.out.box hb6); have rr0 : w6.cell? ⟨w.heap.size, 0, none⟩ = some (.int .i64 0) := (blk_cell R6.out 0).trans rfl; have rrf0 := blk_frozen R6.out 0; have rr1 : w6.cell? ⟨w.heap.size, 1, none⟩ = some (.int .i64 0) := (blk_cell R6.out 1).trans rfl; have rrf1 := blk_frozen R6.out 1; have rr2 : w6.cell? ⟨w.heap.size, 2, none⟩ = some (.int .i64 0) := (blk_cell R6.out 2).trans rfl; have rrf2 := blk_frozen R6.out 2; have rr3 : w6.cell? ⟨w.heap.size, 3, none⟩ = some (.string ⟨#[]⟩) := (blk_cell R6.out 3).trans rfl; have rrf3 := blk_frozen R6.out 3; have bb0 : w6.cell? ⟨w.heap.size + 1, 0, none⟩ = some (.int .i64 1) := (blk_cell B6.out 0).trans rfl; have bbf0 := blk_frozen B6.out 0; have bb1 : w6.cell? ⟨w.heap.size + 1, 1, none⟩ = some (.int .i64 0) := (blk_cell B6.out 1).trans rfl; have bbf1 := blk_frozen B6.out 1; have bb2 : w6.cell? ⟨w.heap.size + 1, 2, none⟩ = some (.int .i64 0) := (blk_cell B6.out 2).trans rfl; have bbf2 := blk_frozen B6.out 2; have bb3 : w6.cell? ⟨w.heap.size + 1, 3, none⟩ = some (.string ⟨#[]⟩) := (blk_cell B6.out 3).trans rfl; have bbf3 := blk_frozen B6.out 3; clear hz0 hz1 hb6)
                | (go_at_call 16; refine (script_may.calls (1) (n) (0) (c2) true _ HM.out).mono ?_; rintro e w7 ⟨rfl, hb7⟩; have hB7 := Aside0.mk (below_step (by repeat (first | exact hB6.out | refine below_set ?_ (Nat.le_succ _))) hb7 : Below w.heap.size w w7); have R7 := Aside0.mk (blk_below (blk_far (blk_far R6.out (by simp) _) (by simp) _) hb7); have B7 := Aside0.mk (blk_below (blk_set (blk_set B6.out 1 (.int .i64 n)) 3 (.string c2)) hb7); clear rr0 rr1 rr2 rr3 rrf0 rrf1 rrf2 rrf3 bb0 bb1 bb2 bb3 bbf0 bbf1 bbf2 bbf3; have rr0 : w7.cell? ⟨w.heap.size, 0, none⟩ = some (.int .i64 0) := (blk_cell R7.out 0).trans rfl; have rrf0 := blk_frozen R7.out 0; have rr1 : w7.cell? ⟨w.heap.size, 1, none⟩ = some (.int .i64 0) := (blk_cell R7.out 1).trans rfl; have rrf1 := blk_frozen R7.out 1; have rr2 : w7.cell? ⟨w.heap.size, 2, none⟩ = some (.int .i64 0) := (blk_cell R7.out 2).trans rfl; have rrf2 := blk_frozen R7.out 2; have rr3 : w7.cell? ⟨w.heap.size, 3, none⟩ = some (.string ⟨#[]⟩) := (blk_cell R7.out 3).trans rfl; have rrf3 := blk_frozen R7.out 3; have bb0 : w7.cell? ⟨w.heap.size + 1, 0, none⟩ = some (.int .i64 1) := (blk_cell B7.out 0).trans rfl; have bbf0 := blk_frozen B7.out 0; have bb1 : w7.cell? ⟨w.heap.size + 1, 1, none⟩ = some (.int .i64 n) := (blk_cell B7.out 1).trans rfl; have bbf1 := blk_frozen B7.out 1; have bb2 : w7.cell? ⟨w.heap.size + 1, 2, none⟩ = some (.int .i64 0) := (blk_cell B7.out 2).trans rfl; have bbf2 := blk_frozen B7.out 2; have bb3 : w7.cell? ⟨w.heap.size + 1, 3, none⟩ = some (.string c2) := (blk_cell B7.out 3).trans rfl; have bbf3 := blk_frozen B7.out 3; clear hb7))
              exact bodyPost_ret (v := .tuple #[.agg #[.int .i64 1, .int .i64 n, .int .i64 0, .string c2], .int .i64 0]) (by simp [results, Tryd.results21, go_sem, rr0, rr1, rr2, rr3]) rfl ⟨rfl, by repeat (first | exact hB7.out | refine below_set ?_ (Nat.le_refl _) | refine below_set ?_ (Nat.le_succ _) | apply pw_below_drewN | apply below_drew1)⟩
            | false =>
              simp only [Bool.false_eq_true, if_false, Option.some.injEq, Prod.mk.injEq] at h
              obtain ⟨rfl, rfl, rfl, rfl, rfl⟩ := h
              go_wp2_with (first
                | (go_at_call 32; refine (num_Parse.calls hd n true _ (HG.out.below HW.out.below) HN.out).mono ?_; rintro e w6 ⟨rfl, hb6⟩; have hB6 := Aside0.mk (HW.out.below.trans (hb6.mono HW.out.below.size)); have R6 := Aside0.mk (blk_below HW.out.res hb6); have B6 := Aside0.mk (blk_below HW.out.box hb6); have rr0 : w6.cell? ⟨w.heap.size, 0, none⟩ = some (.int .i64 0) := (blk_cell R6.out 0).trans rfl; have rrf0 := blk_frozen R6.out 0; have rr1 : w6.cell? ⟨w.heap.size, 1, none⟩ = some (.int .i64 0) := (blk_cell R6.out 1).trans rfl; have rrf1 := blk_frozen R6.out 1; have rr2 : w6.cell? ⟨w.heap.size, 2, none⟩ = some (.int .i64 0) := (blk_cell R6.out 2).trans rfl; have rrf2 := blk_frozen R6.out 2; have rr3 : w6.cell? ⟨w.heap.size, 3, none⟩ = some (.string ⟨#[]⟩) := (blk_cell R6.out 3).trans rfl; have rrf3 := blk_frozen R6.out 3; have bb0 : w6.cell? ⟨w.heap.size + 1, 0, none⟩ = some (.int .i64 1) := (blk_cell B6.out 0).trans rfl; have bbf0 := blk_frozen B6.out 0; have bb1 : w6.cell? ⟨w.heap.size + 1, 1, none⟩ = some (.int .i64 0) := (blk_cell B6.out 1).trans rfl; have bbf1 := blk_frozen B6.out 1; have bb2 : w6.cell? ⟨w.heap.size + 1, 2, none⟩ = some (.int .i64 0) := (blk_cell B6.out 2).trans rfl; have bbf2 := blk_frozen B6.out 2; have bb3 : w6.cell? ⟨w.heap.size + 1, 3, none⟩ = some (.string ⟨#[]⟩) := (blk_cell B6.out 3).trans rfl; have bbf3 := blk_frozen B6.out 3; clear hz0 hz1 hb6)
                | (go_at_call 16; refine (script_may.calls (1) (n) (0) (c2) false _ HM.out).mono ?_; rintro e w7 ⟨rfl, hb7⟩; have hB7 := Aside0.mk (below_step (by repeat (first | exact hB6.out | refine below_set ?_ (Nat.le_succ _))) hb7 : Below w.heap.size w w7); have R7 := Aside0.mk (blk_below (blk_far (blk_far R6.out (by simp) _) (by simp) _) hb7); have B7 := Aside0.mk (blk_below (blk_set (blk_set B6.out 1 (.int .i64 n)) 3 (.string c2)) hb7); clear rr0 rr1 rr2 rr3 rrf0 rrf1 rrf2 rrf3 bb0 bb1 bb2 bb3 bbf0 bbf1 bbf2 bbf3; have rr0 : w7.cell? ⟨w.heap.size, 0, none⟩ = some (.int .i64 0) := (blk_cell R7.out 0).trans rfl; have rrf0 := blk_frozen R7.out 0; have rr1 : w7.cell? ⟨w.heap.size, 1, none⟩ = some (.int .i64 0) := (blk_cell R7.out 1).trans rfl; have rrf1 := blk_frozen R7.out 1; have rr2 : w7.cell? ⟨w.heap.size, 2, none⟩ = some (.int .i64 0) := (blk_cell R7.out 2).trans rfl; have rrf2 := blk_frozen R7.out 2; have rr3 : w7.cell? ⟨w.heap.size, 3, none⟩ = some (.string ⟨#[]⟩) := (blk_cell R7.out 3).trans rfl; have rrf3 := blk_frozen R7.out 3; have bb0 : w7.cell? ⟨w.heap.size + 1, 0, none⟩ = some (.int .i64 1) := (blk_cell B7.out 0).trans rfl; have bbf0 := blk_frozen B7.out 0; have bb1 : w7.cell? ⟨w.heap.size + 1, 1, none⟩ = some (.int .i64 n) := (blk_cell B7.out 1).trans rfl; have bbf1 := blk_frozen B7.out 1; have bb2 : w7.cell? ⟨w.heap.size + 1, 2, none⟩ = some (.int .i64 0) := (blk_cell B7.out 2).trans rfl; have bbf2 := blk_frozen B7.out 2; have bb3 : w7.cell? ⟨w.heap.size + 1, 3, none⟩ = some (.string c2) := (blk_cell B7.out 3).trans rfl; have bbf3 := blk_frozen B7.out 3; clear hb7))
              exact bodyPost_ret (v := .tuple #[.agg #[.int .i64 0, .int .i64 0, .int .i64 0, .string ⟨#[]⟩], .int .i64 1]) (by simp [results, Tryd.results21, go_sem, rr0, rr1, rr2, rr3]) rfl ⟨rfl, by repeat (first | exact hB7.out | refine below_set ?_ (Nat.le_refl _) | refine below_set ?_ (Nat.le_succ _) | apply pw_below_drewN | apply below_drew1)⟩
          · have hk2 : (kd == 1) = false := by simpa using hk1
            rw [if_neg hk1] at h
            clear HKD hk1
            obtain ⟨m, hm, h⟩ := Option.bind_eq_some_iff.mp h
            have HM := Aside0.mk hm
            clear hm
            cases m with
            | true =>
              simp only [if_true, Option.some.injEq, Prod.mk.injEq] at h
              obtain ⟨rfl, rfl, rfl, rfl, rfl⟩ := h
              go_wp2_with (first
                | (go_at_call 32; refine (num_Parse.calls hd n true _ (HG.out.below HW.out.below) HN.out).mono ?_; rintro e w6 ⟨rfl, hb6⟩; have hB6 := Aside0.mk (HW.out.below.trans (hb6.mono HW.out.below.size)); have R6 := Aside0.mk (blk_below HW.out.res hb6); have B6 := Aside0.mk (blk_below HW.out.box hb6); have rr0 : w6.cell? ⟨w.heap.size, 0, none⟩ = some (.int .i64 0) := (blk_cell R6.out 0).trans rfl; have rrf0 := blk_frozen R6.out 0; have rr1 : w6.cell? ⟨w.heap.size, 1, none⟩ = some (.int .i64 0) := (blk_cell R6.out 1).trans rfl; have rrf1 := blk_frozen R6.out 1; have rr2 : w6.cell? ⟨w.heap.size, 2, none⟩ = some (.int .i64 0) := (blk_cell R6.out 2).trans rfl; have rrf2 := blk_frozen R6.out 2; have rr3 : w6.cell? ⟨w.heap.size, 3, none⟩ = some (.string ⟨#[]⟩) := (blk_cell R6.out 3).trans rfl; have rrf3 := blk_frozen R6.out 3; have bb0 : w6.cell? ⟨w.heap.size + 1, 0, none⟩ = some (.int .i64 kd) := (blk_cell B6.out 0).trans rfl; have bbf0 := blk_frozen B6.out 0; have bb1 : w6.cell? ⟨w.heap.size + 1, 1, none⟩ = some (.int .i64 0) := (blk_cell B6.out 1).trans rfl; have bbf1 := blk_frozen B6.out 1; have bb2 : w6.cell? ⟨w.heap.size + 1, 2, none⟩ = some (.int .i64 0) := (blk_cell B6.out 2).trans rfl; have bbf2 := blk_frozen B6.out 2; have bb3 : w6.cell? ⟨w.heap.size + 1, 3, none⟩ = some (.string ⟨#[]⟩) := (blk_cell B6.out 3).trans rfl; have bbf3 := blk_frozen B6.out 3; clear hz0 hz1 hb6)
                | (go_at_call 16; refine (script_may.calls (kd) (0) (n) (⟨#[]⟩) true _ HM.out).mono ?_; rintro e w7 ⟨rfl, hb7⟩; have hB7 := Aside0.mk (below_step (by repeat (first | exact hB6.out | refine below_set ?_ (Nat.le_succ _))) hb7 : Below w.heap.size w w7); have R7 := Aside0.mk (blk_below (blk_far R6.out (by simp) _) hb7); have B7 := Aside0.mk (blk_below (blk_set B6.out 2 (.int .i64 n)) hb7); clear rr0 rr1 rr2 rr3 rrf0 rrf1 rrf2 rrf3 bb0 bb1 bb2 bb3 bbf0 bbf1 bbf2 bbf3; have rr0 : w7.cell? ⟨w.heap.size, 0, none⟩ = some (.int .i64 0) := (blk_cell R7.out 0).trans rfl; have rrf0 := blk_frozen R7.out 0; have rr1 : w7.cell? ⟨w.heap.size, 1, none⟩ = some (.int .i64 0) := (blk_cell R7.out 1).trans rfl; have rrf1 := blk_frozen R7.out 1; have rr2 : w7.cell? ⟨w.heap.size, 2, none⟩ = some (.int .i64 0) := (blk_cell R7.out 2).trans rfl; have rrf2 := blk_frozen R7.out 2; have rr3 : w7.cell? ⟨w.heap.size, 3, none⟩ = some (.string ⟨#[]⟩) := (blk_cell R7.out 3).trans rfl; have rrf3 := blk_frozen R7.out 3; have bb0 : w7.cell? ⟨w.heap.size + 1, 0, none⟩ = some (.int .i64 kd) := (blk_cell B7.out 0).trans rfl; have bbf0 := blk_frozen B7.out 0; have bb1 : w7.cell? ⟨w.heap.size + 1, 1, none⟩ = some (.int .i64 0) := (blk_cell B7.out 1).trans rfl; have bbf1 := blk_frozen B7.out 1; have bb2 : w7.cell? ⟨w.heap.size + 1, 2, none⟩ = some (.int .i64 n) := (blk_cell B7.out 2).trans rfl; have bbf2 := blk_frozen B7.out 2; have bb3 : w7.cell? ⟨w.heap.size + 1, 3, none⟩ = some (.string ⟨#[]⟩) := (blk_cell B7.out 3).trans rfl; have bbf3 := blk_frozen B7.out 3; clear hb7))
              exact bodyPost_ret (v := .tuple #[.agg #[.int .i64 kd, .int .i64 0, .int .i64 n, .string ⟨#[]⟩], .int .i64 0]) (by simp [results, Tryd.results21, go_sem, rr0, rr1, rr2, rr3]) rfl ⟨rfl, by repeat (first | exact hB7.out | refine below_set ?_ (Nat.le_refl _) | refine below_set ?_ (Nat.le_succ _) | apply pw_below_drewN | apply below_drew1)⟩
            | false =>
              simp only [Bool.false_eq_true, if_false, Option.some.injEq, Prod.mk.injEq] at h
              obtain ⟨rfl, rfl, rfl, rfl, rfl⟩ := h
              go_wp2_with (first
                | (go_at_call 32; refine (num_Parse.calls hd n true _ (HG.out.below HW.out.below) HN.out).mono ?_; rintro e w6 ⟨rfl, hb6⟩; have hB6 := Aside0.mk (HW.out.below.trans (hb6.mono HW.out.below.size)); have R6 := Aside0.mk (blk_below HW.out.res hb6); have B6 := Aside0.mk (blk_below HW.out.box hb6); have rr0 : w6.cell? ⟨w.heap.size, 0, none⟩ = some (.int .i64 0) := (blk_cell R6.out 0).trans rfl; have rrf0 := blk_frozen R6.out 0; have rr1 : w6.cell? ⟨w.heap.size, 1, none⟩ = some (.int .i64 0) := (blk_cell R6.out 1).trans rfl; have rrf1 := blk_frozen R6.out 1; have rr2 : w6.cell? ⟨w.heap.size, 2, none⟩ = some (.int .i64 0) := (blk_cell R6.out 2).trans rfl; have rrf2 := blk_frozen R6.out 2; have rr3 : w6.cell? ⟨w.heap.size, 3, none⟩ = some (.string ⟨#[]⟩) := (blk_cell R6.out 3).trans rfl; have rrf3 := blk_frozen R6.out 3; have bb0 : w6.cell? ⟨w.heap.size + 1, 0, none⟩ = some (.int .i64 kd) := (blk_cell B6.out 0).trans rfl; have bbf0 := blk_frozen B6.out 0; have bb1 : w6.cell? ⟨w.heap.size + 1, 1, none⟩ = some (.int .i64 0) := (blk_cell B6.out 1).trans rfl; have bbf1 := blk_frozen B6.out 1; have bb2 : w6.cell? ⟨w.heap.size + 1, 2, none⟩ = some (.int .i64 0) := (blk_cell B6.out 2).trans rfl; have bbf2 := blk_frozen B6.out 2; have bb3 : w6.cell? ⟨w.heap.size + 1, 3, none⟩ = some (.string ⟨#[]⟩) := (blk_cell B6.out 3).trans rfl; have bbf3 := blk_frozen B6.out 3; clear hz0 hz1 hb6)
                | (go_at_call 16; refine (script_may.calls (kd) (0) (n) (⟨#[]⟩) false _ HM.out).mono ?_; rintro e w7 ⟨rfl, hb7⟩; have hB7 := Aside0.mk (below_step (by repeat (first | exact hB6.out | refine below_set ?_ (Nat.le_succ _))) hb7 : Below w.heap.size w w7); have R7 := Aside0.mk (blk_below (blk_far R6.out (by simp) _) hb7); have B7 := Aside0.mk (blk_below (blk_set B6.out 2 (.int .i64 n)) hb7); clear rr0 rr1 rr2 rr3 rrf0 rrf1 rrf2 rrf3 bb0 bb1 bb2 bb3 bbf0 bbf1 bbf2 bbf3; have rr0 : w7.cell? ⟨w.heap.size, 0, none⟩ = some (.int .i64 0) := (blk_cell R7.out 0).trans rfl; have rrf0 := blk_frozen R7.out 0; have rr1 : w7.cell? ⟨w.heap.size, 1, none⟩ = some (.int .i64 0) := (blk_cell R7.out 1).trans rfl; have rrf1 := blk_frozen R7.out 1; have rr2 : w7.cell? ⟨w.heap.size, 2, none⟩ = some (.int .i64 0) := (blk_cell R7.out 2).trans rfl; have rrf2 := blk_frozen R7.out 2; have rr3 : w7.cell? ⟨w.heap.size, 3, none⟩ = some (.string ⟨#[]⟩) := (blk_cell R7.out 3).trans rfl; have rrf3 := blk_frozen R7.out 3; have bb0 : w7.cell? ⟨w.heap.size + 1, 0, none⟩ = some (.int .i64 kd) := (blk_cell B7.out 0).trans rfl; have bbf0 := blk_frozen B7.out 0; have bb1 : w7.cell? ⟨w.heap.size + 1, 1, none⟩ = some (.int .i64 0) := (blk_cell B7.out 1).trans rfl; have bbf1 := blk_frozen B7.out 1; have bb2 : w7.cell? ⟨w.heap.size + 1, 2, none⟩ = some (.int .i64 n) := (blk_cell B7.out 2).trans rfl; have bbf2 := blk_frozen B7.out 2; have bb3 : w7.cell? ⟨w.heap.size + 1, 3, none⟩ = some (.string ⟨#[]⟩) := (blk_cell B7.out 3).trans rfl; have bbf3 := blk_frozen B7.out 3; clear hb7))
              exact bodyPost_ret (v := .tuple #[.agg #[.int .i64 0, .int .i64 0, .int .i64 0, .string ⟨#[]⟩], .int .i64 1]) (by simp [results, Tryd.results21, go_sem, rr0, rr1, rr2, rr3]) rfl ⟨rfl, by repeat (first | exact hB7.out | refine below_set ?_ (Nat.le_refl _) | refine below_set ?_ (Nat.le_succ _) | apply pw_below_drewN | apply below_drew1)⟩
    · intro x c kl yd yp w1 cnt1 hkey hlk hv hat hrg1 hlt hg1 hs1 hen
      obtain ⟨hx, rfl⟩ := key_of hkey (HL.out kl hlk)
      have HV := Aside0.mk hv
      have HAT := Aside0.mk hat
      have HX := Aside0.mk hx
      have HLK := Aside0.mk hlk
      have HR1 : Aside0 (w1.ranges Tryd.prog 9 (plainElem Tryd.prog 3) (w.heap.size + 1 + 1) R 2 mapD (fun z => left z && !z.sameKey (.string x.data.toList)) cnt1) := ⟨hrg1⟩
      have HW1 := Aside0.mk (HW.out.next hg1)
      have HLT : Aside0 (w1.rangeLeft (w.heap.size + 1 + 1) R < wr.rangeLeft (w.heap.size + 1 + 1) R) := ⟨by rw [hrg1.left_eq, HR.out.left_eq]; exact hlt⟩
      have HL1 : Aside0 (∀ kl, (left kl && !kl.sameKey (.string x.data.toList)) = true → kl = kPower ∨ kl = kFlush) := ⟨fun kl hk => HL.out kl (by rw [Bool.and_eq_true] at hk; exact hk.1)⟩
      clear hkey hlk hv hat hx hrg1 hlt hg1 hs1 HW HR HL
      have hz0 : w1.cell? ⟨w.heap.size + 1, 0, none⟩ = some (.int .i64 (stOf s c1 c3 left).1) := (blk_cell HW1.out.box 0).trans rfl
      have hz1 := blk_frozen HW1.out.box 0
      go_wp2_with (go_at_call 31; refine (Tryd.strings_CutPrefix s x _).mono ?_; rintro e w2 ⟨rfl, rfl⟩)
      · have hm := Aside0.mk (by assumption : Lib.hasPrefix s.data.toList x.data.toList = true)
        have HS := Aside0.mk (st_hit s c1 c3 left x HX.out hm.out)
        have HE := Aside0.mk (elem_of HX.out HV.out HAT.out)
        have HK := Aside0.mk (HR1.out.kept (grown_set w2 (w.heap.size + 1) 0 (.int .i64 c)) (by simp) (by have := HW1.out.far; simp; omega))
        have HW2 := Aside0.mk (HW1.out.hit c)
        clear hz0 hz1
        go_roundw
        case rel => exact ⟨_, cnt1, by rw [HS.out], by rw [HS.out], HK, HL1, ⟨by rw [HS.out, ← HE.out]; exact HW2.out⟩⟩
        case measure => rw [HK.out.left_eq, ← HR1.out.left_eq]; exact HLT.out
      · have hm := Aside0.mk (by assumption : Lib.hasPrefix s.data.toList x.data.toList = false)
        have HS := Aside0.mk (st_miss s c1 c3 left x HX.out HLK.out hm.out)
        clear hz0 hz1
        go_roundw
        case rel => exact ⟨_, cnt1, by rw [HS.out], by rw [HS.out], HR1, HL1, ⟨by rw [HS.out]; exact HW1.out⟩⟩
        case measure => exact HLT.out
set_option maxRecDepth 100000 in
theorem one_open (s : ByteArray) (w : World) (h : (s.toList == ([111, 112, 101, 110] : List UInt8)) = true) :
    Calls Tryd.prog 21 #[.string s] w fun e w' => e = .returned (.tuple #[.agg #[.int .i64 3, .int .i64 0, .int .i64 0, .string ⟨#[]⟩], .int .i64 0]) ∧ Below w.heap.size w w' := by
  have hu40 := Tryd.underlying40
  go_enter Tryd.func21, Tryd.ntmps21
  go_wp2
  exact bodyPost_ret (v := .tuple #[.agg #[.int .i64 3, .int .i64 0, .int .i64 0, .string ⟨#[]⟩], .int .i64 0]) (by simp [results, Tryd.results21, go_sem]) rfl ⟨rfl, by repeat (first | exact Below.refl _ _ | apply below_alloc | refine below_set ?_ (Nat.le_refl _))⟩
set_option maxRecDepth 100000 in
theorem one_check (s : ByteArray) (w : World) (ho : (s.toList == ([111, 112, 101, 110] : List UInt8)) = false) (h : (s.toList == ([99, 104, 101, 99, 107, 112, 111, 105, 110, 116] : List UInt8)) = true) :
    Calls Tryd.prog 21 #[.string s] w fun e w' => e = .returned (.tuple #[.agg #[.int .i64 5, .int .i64 0, .int .i64 0, .string ⟨#[]⟩], .int .i64 0]) ∧ Below w.heap.size w w' := by
  have hu40 := Tryd.underlying40
  go_enter Tryd.func21, Tryd.ntmps21
  go_wp2
  exact bodyPost_ret (v := .tuple #[.agg #[.int .i64 5, .int .i64 0, .int .i64 0, .string ⟨#[]⟩], .int .i64 0]) (by simp [results, Tryd.results21, go_sem]) rfl ⟨rfl, by repeat (first | exact Below.refl _ _ | apply below_alloc | refine below_set ?_ (Nat.le_refl _))⟩
theorem script_one.calls (a0 : ByteArray) (r1 r2 r3 : Int) (r4 : ByteArray) (r5 : Int) (w : World) (hG : Glob w) (h : script_one.f a0 = some (r1, r2, r3, r4, r5)) :
    Calls Tryd.prog 21 #[.string a0] w fun e w' => e = .returned (.tuple #[.agg #[.int .i64 r1, .int .i64 r2, .int .i64 r3, .string r4], .int .i64 r5]) ∧ Below w.heap.size w w' := by
  unfold script_one.f at h
  by_cases c1 : a0.toList = ([111, 112, 101, 110] : List UInt8)
  · rw [if_pos c1] at h
    simp only [Option.some.injEq, Prod.mk.injEq] at h
    obtain ⟨rfl, rfl, rfl, rfl, rfl⟩ := h
    exact one_open a0 w (beq_iff_eq.2 c1)
  rw [if_neg c1] at h
  have d1 := beq_eq_false_iff_ne.2 c1
  by_cases c2 : a0.toList = ([99, 104, 101, 99, 107, 112, 111, 105, 110, 116] : List UInt8)
  · rw [if_pos c2] at h
    simp only [Option.some.injEq, Prod.mk.injEq] at h
    obtain ⟨rfl, rfl, rfl, rfl, rfl⟩ := h
    exact one_check a0 w d1 (beq_iff_eq.2 c2)
  rw [if_neg c2] at h
  have d2 := beq_eq_false_iff_ne.2 c2
  obtain ⟨⟨x1, x2, x3⟩, hc, h⟩ := Option.bind_eq_some_iff.mp h
  refine one_else a0 x1 x2 x3 r1 r2 r3 r4 r5 w hG d1 d2 hc ?_
  unfold stEnd
  by_cases p : Lib.hasPrefix a0.data.toList sPower.data.toList = true
  · rw [if_pos p] at h ⊢; exact h
  rw [if_neg p] at h ⊢
  by_cases q : Lib.hasPrefix a0.data.toList sFlush.data.toList = true
  · rw [if_pos q] at h ⊢; exact h
  rw [if_neg q] at h ⊢
  exact h
end Go.Proofs.YtkcnmfeenhpjpaaDoor
