/- Plain laws of the page's own words for answers: a value and an answer's lines are written as script writes them; lists of equal strings are told equal. -/
import Derived.Test.YtkcnmfeenhpjpaaDoorPlainE
import Derived.Test.YtkcnmfeenhpjpaaDoorPlainJ
import Derived.Test.YtkcnmfeenhpjpaaDoorTx22
import Derived.Test.YtkcnmfeenhpjpaaDoorTx24
set_option linter.unusedVariables false
set_option linter.unusedSimpArgs false
namespace Go.Proofs.YtkcnmfeenhpjpaaDoor.T
open Go.Lib Go.RowKit Go.Proofs.YtkcnmfeenhpjpaaDoorW.PrintWords Go.Proofs.YtkcnmfeenhpjpaaDoorW.PrintLast Go.Proofs.YtkcnmfeenhpjpaaDoorW.PrintMore
theorem B_app (x y : List UInt8) : B x ++ B y = B (x ++ y) := by apply ByteArray.ext; simp [B]
theorem B_chr (x : List UInt8) (l : List UInt8) : B x ++ (⟨l.toArray⟩ : ByteArray) = B (x ++ l) := B_app x l
theorem B_str (x : List UInt8) (t : ByteArray) : B x ++ t = B (x ++ t.data.toList) := B_app x t.data.toList
theorem B_32 (x : List UInt8) : B x ++ (⟨#[32]⟩ : ByteArray) = B (x ++ [32]) := B_app x [32]
theorem B_39 (x : List UInt8) : B x ++ (⟨#[39]⟩ : ByteArray) = B (x ++ [39]) := B_app x [39]
theorem B_46 (x : List UInt8) : B x ++ (⟨#[46]⟩ : ByteArray) = B (x ++ [46]) := B_app x [46]
theorem next_nat (i : Nat) (h : i ≤ 4611686018427387904) : wrap64 ((i : Int) + 1) = ((i + 1 : Nat) : Int) := by rw [wrap_small _ (by omega) (by omega)]; omega
theorem text_from (s : ByteArray) (b0 b1 : Int) (hs : s.size ≤ 2097152) (d : Nat) : ∀ (k i : Nat) (x : List UInt8), i ≤ s.size → s.size - i = d → d < k → x.length + 2 * d ≤ 4611686018427387904 →
    tabellionref03_Text.l0 k (B x) (i : Int) b0 b1 s = some (B (x ++ quoted (s.data.toList.drop i) ++ [39])) := by
  have ha := dlen s
  induction d with
  | zero =>
    intro k i x hi hd hk hx
    obtain ⟨k, rfl⟩ : ∃ m, k = m + 1 := ⟨k - 1, by omega⟩
    rw [tabellionref03_Text.l0, if_neg (by omega), if_pos (by rw [B_size]; omega), List.drop_eq_nil_of_le (by omega), B_39]
    rw [show quoted [] = [] from rfl, List.append_nil]
  | succ d ih =>
    intro k i x hi hd hk hx
    obtain ⟨k, rfl⟩ : ∃ m, k = m + 1 := ⟨k - 1, by omega⟩
    obtain ⟨c, e1, e2⟩ := bt_drop s i (by omega)
    have e3 := next_nat i (by omega)
    have hext : s.extract (i : Int).toNat ((i + 1 : Nat) : Int).toNat = B [c] := by
      rw [extract_eq, Int.toNat_natCast, Int.toNat_natCast, e1, show i + 1 - i = 1 by omega]
      rfl
    have hq : quoted (c :: s.data.toList.drop (i + 1)) = (if c = 39 then [39, 39] else [c]) ++ quoted (s.data.toList.drop (i + 1)) := rfl
    rw [tabellionref03_Text.l0, if_pos (by omega), if_pos (by omega), e2, e3, hext, e1, hq]
    by_cases hc : c = 39
    · subst hc
      rw [if_pos (by decide), if_pos (by rw [B_size]; omega), if_pos (by omega), if_pos (by omega), B_39, if_pos (by rw [B_size, B_size, List.length_append]; simp only [List.length_cons, List.length_nil]; omega), B_app]
      rw [ih k (i + 1) (x ++ [39] ++ [39]) (by omega) (by omega) (by omega) (by simp only [List.length_append, List.length_cons, List.length_nil]; omega), if_pos rfl]
      simp
    · rw [if_neg (fun h : (c.toNat : Int) = 39 => hc ((bt_is c 39).1 h)), if_pos (by omega), if_pos (by omega), if_pos (by rw [B_size, B_size]; simp only [List.length_cons, List.length_nil]; omega), B_app]
      rw [ih k (i + 1) (x ++ [c]) (by omega) (by omega) (by omega) (by simp only [List.length_append, List.length_cons, List.length_nil]; omega), if_neg hc]
      simp
theorem refval_eq (v : S44) (h : v.f2.size ≤ 2097152 ∧ -9223372036854775808 ≤ v.f1 ∧ v.f1 ≤ 9223372036854775807) (k : Nat) (hk : v.f2.size < k) : tabellionref03_Text.f k v.f0 v.f1 v.f2 = some (B (valL v)) := by
  unfold tabellionref03_Text.f valL
  by_cases c1 : v.f0 = 1
  · rw [if_pos c1, if_pos c1]
    split <;> rfl
  rw [if_neg c1, if_neg c1]
  by_cases c2 : v.f0 = 2
  · rw [if_pos c2, if_pos c2]
    unfold tabellionref02_Text.f
    rw [if_pos h.2, Option.bind_some]
  rw [if_neg c2, if_neg c2]
  by_cases c3 : v.f0 = 3
  · rw [if_pos c3, if_pos c3]
    have := text_from v.f2 v.f0 v.f1 h.1 v.f2.size k 0 [39] (by omega) (by omega) hk (by simp only [List.length_cons, List.length_nil]; omega)
    rw [List.drop_zero] at this
    exact this
  rw [if_neg c3, if_neg c3]
theorem join_more (x : List UInt8) (l : List (List UInt8)) (v : List UInt8) (r : List (List UInt8)) : x ++ joinTail [32] (v :: r) = (x ++ [32] ++ v) ++ joinTail [32] r := by
  simp [joinTail]
theorem reftexts (txt : List ByteArray) (hn : txt.length ≤ 2097152) (ht : ∀ t ∈ txt, t.size ≤ 2097152) (b0 b1 b2 : Int) (b3 : List S42) (b4 : List (List S44)) (d : Nat) : ∀ (k i : Nat) (x3 : List ByteArray), i ≤ txt.length → txt.length - i = d → d < k → x3.length + d ≤ 8000000000000 →
    tabellionref58_Line.l3 k x3 (i : Int) b0 b1 b2 b3 b4 txt = some (x3 ++ (txt.drop i).map textLine) := by
  induction d with
  | zero =>
    intro k i x3 hi hd hk _
    obtain ⟨k, rfl⟩ : ∃ m, k = m + 1 := ⟨k - 1, by omega⟩
    rw [tabellionref58_Line.l3, if_neg (by omega), List.drop_eq_nil_of_le (by omega), List.map_nil, List.append_nil]
  | succ d ih =>
    intro k i x3 hi hd hk hx
    obtain ⟨k, rfl⟩ : ∃ m, k = m + 1 := ⟨k - 1, by omega⟩
    have hdr := rdS txt i (by omega)
    have hmem : rdOf ByteArray.empty txt (i : Int) ∈ txt := List.mem_of_mem_drop (by rw [hdr]; exact List.mem_cons_self ..)
    have hs := ht _ hmem
    rw [tabellionref58_Line.l3, if_pos (by omega), if_pos (by omega), if_pos (by omega), if_pos (by omega), next_nat i (by omega)]
    rw [hdr, List.map_cons, show x3 ++ textLine (rdOf ByteArray.empty txt (i : Int)) :: (txt.drop (i + 1)).map textLine = (x3 ++ [textLine (rdOf ByteArray.empty txt (i : Int))]) ++ (txt.drop (i + 1)).map textLine by simp]
    exact ih k (i + 1) (x3 ++ [textLine (rdOf ByteArray.empty txt (i : Int))]) (by omega) (by omega) (by omega) (by rw [List.length_append, List.length_singleton]; omega)
theorem refvals (rows : List (List S44)) (j : Nat) (hj : j < rows.length) (hn : (rd_L7 rows (j : Int)).length ≤ 2097152) (hv : ∀ v ∈ rd_L7 rows (j : Int), v.f2.size ≤ 2097152 ∧ -9223372036854775808 ≤ v.f1 ∧ v.f1 ≤ 9223372036854775807)
    (x3 : List ByteArray) (hx3 : x3.length ≤ 8000000000000) (b0 b1 b2 : Int) (b3 : List S42) (txt : List ByteArray) (res : List ByteArray) (K : Nat) (hK : 2097160 ≤ K)
    (d : Nat) : ∀ (k i : Nat) (x7 : List UInt8), i ≤ (rd_L7 rows (j : Int)).length → (rd_L7 rows (j : Int)).length - i = d → K + d < k → x7.length + d * 8388610 ≤ 4611686018427387904 →
    (∀ k', K ≤ k' → tabellionref58_Line.l1 k' (x3 ++ [B (x7 ++ joinTail [32] (((rd_L7 rows (j : Int)).drop i).map valL))]) (wrap64 ((j : Int) + 1)) b0 b1 b2 b3 rows txt = some res) →
    tabellionref58_Line.l2 k x3 (j : Int) (B x7) (i : Int) b0 b1 b2 b3 rows txt = some res := by
  obtain ⟨row, hrow⟩ : ∃ row, row = rd_L7 rows (j : Int) := ⟨_, rfl⟩
  rw [← hrow] at hn hv ⊢
  have p1 : (0 : Int) ≤ (j : Int) := Int.natCast_nonneg _
  have p2 : (j : Int) < (rows.length : Int) := Int.ofNat_lt.2 hj
  induction d with
  | zero =>
    intro k i x7 hi hd hk hx hc
    obtain ⟨k, rfl⟩ : ∃ m, k = m + 1 := ⟨k - 1, by omega⟩
    rw [tabellionref58_Line.l2, if_pos p1, if_pos p2, ← hrow, if_neg (by omega), if_pos (by omega)]
    have h := hc k (by omega)
    rw [List.drop_eq_nil_of_le (by omega), List.map_nil, show joinTail [32] ([] : List (List UInt8)) = [] from rfl, List.append_nil] at h
    exact h
  | succ d ih =>
    intro k i x7 hi hd hk hx hc
    obtain ⟨k, rfl⟩ : ∃ m, k = m + 1 := ⟨k - 1, by omega⟩
    have hdr := rd44 row i (by omega)
    have hmem : rd_T44 row (i : Int) ∈ row := List.mem_of_mem_drop (by rw [hdr]; exact List.mem_cons_self ..)
    have hb := hv _ hmem
    obtain ⟨v, ev⟩ : ∃ v, v = rd_T44 row (i : Int) := ⟨_, rfl⟩
    rw [← ev] at hb hdr
    have hlen := (val_eq v hb).2
    rw [tabellionref58_Line.l2, if_pos p1, if_pos p2, ← hrow, if_pos (by omega), if_pos (by rw [B_size]; omega), if_pos (by omega), ← ev, refval_eq v hb k (by omega), Option.bind_some, B_32, if_pos (by rw [B_size, B_size, List.length_append, List.length_singleton]; omega), B_app, next_nat i (by omega)]
    refine ih k (i + 1) (x7 ++ [32] ++ valL v) (by omega) (by omega) (by omega) (by simp only [List.length_append, List.length_cons, List.length_nil]; omega) (fun k' hk' => ?_)
    have h := hc k' hk'
    rw [hdr, List.map_cons, join_more x7 []] at h
    exact h
theorem refrows (cols : List S42) (rows : List (List S44)) (txt : List ByteArray) (hS : Small cols rows txt) (b0 b1 b2 : Int) (d : Nat) : ∀ (k j : Nat) (x3 : List ByteArray), j ≤ rows.length → rows.length - j = d → d * 2097160 + 4194330 < k → x3.length + d ≤ 7000000000000 →
    tabellionref58_Line.l1 k x3 (j : Int) b0 b1 b2 cols rows txt = some (x3 ++ (rows.drop j).map rowLine ++ txt.map textLine) := by
  have hnr := hS.nr
  have hnt := hS.nt
  induction d with
  | zero =>
    intro k j x3 hj hd hk hx
    obtain ⟨k, rfl⟩ : ∃ m, k = m + 1 := ⟨k - 1, by omega⟩
    rw [tabellionref58_Line.l1, if_neg (by omega), List.drop_eq_nil_of_le (by omega), List.map_nil, List.append_nil]
    have h := reftexts txt hnt hS.t b0 b1 b2 cols rows txt.length k 0 x3 (by omega) (by omega) (by omega) (by omega)
    rw [List.drop_zero] at h
    exact h
  | succ d ih =>
    intro k j x3 hj hd hk hx
    obtain ⟨k, rfl⟩ : ∃ m, k = m + 1 := ⟨k - 1, by omega⟩
    have hdr := rdL rows j (by omega)
    have hmem : rd_L7 rows (j : Int) ∈ rows := List.mem_of_mem_drop (by rw [hdr]; exact List.mem_cons_self ..)
    obtain ⟨hr1, hr2⟩ := hS.r _ hmem
    rw [tabellionref58_Line.l1, if_pos (by omega)]
    refine refvals rows j (by omega) hr1 hr2 x3 (by omega) b0 b1 b2 cols txt _ (d * 2097160 + 4194330 + 1) (by omega) (rd_L7 rows (j : Int)).length k 0 [114, 111, 119] (by omega) (by omega) (by omega) (by simp only [List.length_cons, List.length_nil]; omega) (fun k' hk' => ?_)
    rw [List.drop_zero, next_nat j (by omega), ih k' (j + 1) _ (by omega) (by omega) hk' (by rw [List.length_append, List.length_singleton]; omega), hdr, List.map_cons]
    show some (x3 ++ [rowLine (rd_L7 rows (j : Int))] ++ _ ++ _) = _
    simp
theorem refcols (cols : List S42) (hn : cols.length ≤ 2097152) (hv : ∀ c ∈ cols, c.f0.size ≤ 2097152 ∧ c.f1.size ≤ 2097152) (x3 : List ByteArray) (hx3 : x3.length ≤ 8000000000000) (b0 b1 b2 : Int) (b4 : List (List S44)) (b5 : List ByteArray) (res : List ByteArray) (K : Nat)
    (d : Nat) : ∀ (k i : Nat) (x4 : List UInt8), i ≤ cols.length → cols.length - i = d → K + d < k → x4.length + d * 4194310 ≤ 4611686018427387904 →
    (∀ k', K ≤ k' → tabellionref58_Line.j1 k' (x3 ++ [B (x4 ++ joinTail [32] ((cols.drop i).map nameL))]) b0 b1 b2 cols b4 b5 = some res) →
    tabellionref58_Line.l0 k x3 (B x4) (i : Int) b0 b1 b2 cols b4 b5 = some res := by
  induction d with
  | zero =>
    intro k i x4 hi hd hk hx hc
    obtain ⟨k, rfl⟩ : ∃ m, k = m + 1 := ⟨k - 1, by omega⟩
    rw [tabellionref58_Line.l0, if_neg (by omega), if_pos (by omega)]
    have h := hc k (by omega)
    rw [List.drop_eq_nil_of_le (by omega), List.map_nil, show joinTail [32] ([] : List (List UInt8)) = [] from rfl, List.append_nil] at h
    exact h
  | succ d ih =>
    intro k i x4 hi hd hk hx hc
    obtain ⟨k, rfl⟩ : ∃ m, k = m + 1 := ⟨k - 1, by omega⟩
    have hdr := rd42 cols i (by omega)
    have hmem : rd_T42 cols (i : Int) ∈ cols := List.mem_of_mem_drop (by rw [hdr]; exact List.mem_cons_self ..)
    obtain ⟨hv0, hv1⟩ := hv _ hmem
    obtain ⟨c, ec⟩ : ∃ c, c = rd_T42 cols (i : Int) := ⟨_, rfl⟩
    rw [← ec] at hv0 hv1 hdr
    have d0 := dlen c.f0
    have d1 := dlen c.f1
    rw [tabellionref58_Line.l0, if_pos (by omega), if_pos (by rw [B_size]; omega), if_pos (by omega), ← ec, toList_data, next_nat i (by omega), B_32]
    have step : tabellionref58_Line.l0 k x3 (B (x4 ++ [32] ++ nameL c)) ((i + 1 : Nat) : Int) b0 b1 b2 cols b4 b5 = some res := by
      have hl := nameL_length c
      refine ih k (i + 1) (x4 ++ [32] ++ nameL c) (by omega) (by omega) (by omega) (by simp only [List.length_append, List.length_cons, List.length_nil]; omega) (fun k' hk' => ?_)
      have h := hc k' hk'
      rw [hdr, List.map_cons, join_more x4 []] at h
      exact h
    unfold nameL at step
    by_cases he : c.f0.data.toList = []
    · rw [if_pos he] at step
      rw [if_pos he, if_pos (by rw [B_size, List.length_append, List.length_singleton]; omega), B_str]
      exact step
    · rw [if_neg he] at step
      rw [if_neg he, if_pos (by rw [B_size, List.length_append, List.length_singleton]; omega), B_str, if_pos (by rw [B_size]; simp only [List.length_append, List.length_cons, List.length_nil]; omega), B_46, if_pos (by rw [B_size]; simp only [List.length_append, List.length_cons, List.length_nil]; omega), B_str]
      rw [show x4 ++ [32] ++ (c.f0.data.toList ++ [46] ++ c.f1.data.toList) = x4 ++ [32] ++ c.f0.data.toList ++ [46] ++ c.f1.data.toList by simp] at step
      exact step
set_option maxRecDepth 100000 in
theorem refline_all (a b c : Int) (cols : List S42) (rows : List (List S44)) (txt : List ByteArray) (hS : Small cols rows txt) (ha : I64 a) (hb : I64 b) (hc : I64 c) (k : Nat) (hk : 5000000000000 < k) :
    tabellionref58_Line.f k a b c cols rows txt = some (linesOf a b c cols rows txt) := by
  have la := itoa_length_le a ha.1 ha.2
  have lb := itoa_length_le b hb.1 hb.2
  have lc := itoa_length_le c hc.1 hc.2
  have hT : ∀ n, I64 n → tabellionref02_Text.f n = some (B (itoa n)) := by
    intro n hn
    unfold tabellionref02_Text.f
    rw [if_pos ⟨hn.1, hn.2⟩]
  have hnc := hS.nc
  have hnr := hS.nr
  have hj : ∀ x3 : List ByteArray, x3.length ≤ 10 → ∀ k', 4500000000000 ≤ k' → tabellionref58_Line.j1 k' x3 a b c cols rows txt = some (x3 ++ rows.map rowLine ++ txt.map textLine) := by
    intro x3 hx k' hk'
    obtain ⟨m, rfl⟩ : ∃ m, k' = m + 1 := ⟨k' - 1, by omega⟩
    have hm : rows.length * 2097160 + 4194330 < m := by
      have h1 : rows.length * 2097160 ≤ 2097152 * 2097160 := Nat.mul_le_mul_right _ hnr
      clear hk ha hb hc la lb lc
      omega
    have h := refrows cols rows txt hS a b c rows.length m 0 x3 (by clear hk' hm hk; omega) (by clear hk' hm hk; omega) hm (by clear hk' hm hk; omega)
    rw [List.drop_zero] at h
    rw [tabellionref58_Line.j1]
    exact h
  have e1 : ((⟨#[114, 101, 112, 108, 121, 32]⟩ : ByteArray) ++ B (itoa a)).size = 6 + (itoa a).length := by rw [ByteArray.size_append, B_size]; rfl
  have e2 : (((⟨#[114, 101, 112, 108, 121, 32]⟩ : ByteArray) ++ B (itoa a)) ++ (⟨#[32]⟩ : ByteArray)).size = 6 + (itoa a).length + 1 := by rw [ByteArray.size_append, e1]; rfl
  have e3 : ((((⟨#[114, 101, 112, 108, 121, 32]⟩ : ByteArray) ++ B (itoa a)) ++ (⟨#[32]⟩ : ByteArray)) ++ B (itoa b)).size = 6 + (itoa a).length + 1 + (itoa b).length := by rw [ByteArray.size_append, e2, B_size]
  have e4 : (((((⟨#[114, 101, 112, 108, 121, 32]⟩ : ByteArray) ++ B (itoa a)) ++ (⟨#[32]⟩ : ByteArray)) ++ B (itoa b)) ++ (⟨#[32]⟩ : ByteArray)).size = 6 + (itoa a).length + 1 + (itoa b).length + 1 := by rw [ByteArray.size_append, e3]; rfl
  unfold tabellionref58_Line.f
  rw [hT a ha, Option.bind_some, if_pos (by rw [B_size]; omega), if_pos (by rw [e1]; omega), hT b hb, Option.bind_some, if_pos (by rw [e2, B_size]; omega), if_pos (by rw [e3]; omega), hT c hc, Option.bind_some, if_pos (by rw [e4, B_size]; omega), Option.bind_some]
  rw [show (((((⟨#[114, 101, 112, 108, 121, 32]⟩ : ByteArray) ++ B (itoa a)) ++ (⟨#[32]⟩ : ByteArray)) ++ B (itoa b)) ++ (⟨#[32]⟩ : ByteArray)) ++ B (itoa c) = headLine a b c from by unfold headLine; apply ByteArray.ext; simp [B]]
  unfold linesOf
  by_cases hz : cols = []
  · rw [if_neg (by rw [hz]; decide), if_pos hz]
    exact hj _ (by simp) k (by omega)
  · have hp : 0 < cols.length := List.length_pos_iff.2 hz
    rw [if_pos (by omega), if_neg hz]
    have h := refcols cols hnc hS.c [headLine a b c] (by simp) a b c rows txt ([headLine a b c, colsLine cols] ++ rows.map rowLine ++ txt.map textLine) 4500000000000 cols.length k 0 [99, 111, 108, 115] (by omega) (by omega) (by omega) (by simp only [List.length_cons, List.length_nil]; omega)
      (by intro k' hk'
          rw [List.drop_zero]
          exact hj [headLine a b c, colsLine cols] (by simp) k' hk')
    exact h
theorem strings_same (l : List ByteArray) (hn : l.length ≤ 4611686018427387904) (d : Nat) : ∀ (k i : Nat), i ≤ l.length → l.length - i = d → 2 * d + 1 < k → tabellionref09_Strings.l0 k l l (i : Int) = some true := by
  induction d with
  | zero =>
    intro k i hi hd hk
    obtain ⟨k, rfl⟩ : ∃ m, k = m + 2 := ⟨k - 2, by omega⟩
    obtain rfl : i = l.length := by omega
    rw [show k + 2 = (k + 1) + 1 from rfl]
    rw [tabellionref09_Strings.l0, if_neg (by omega), tabellionref09_Strings.j1, if_neg (by decide)]
    simp
  | succ d ih =>
    intro k i hi hd hk
    obtain ⟨k, rfl⟩ : ∃ m, k = m + 2 := ⟨k - 2, by omega⟩
    rw [show k + 2 = (k + 1) + 1 from rfl]
    rw [tabellionref09_Strings.l0, if_pos (by omega), tabellionref09_Strings.j1, if_pos (by simp; omega), if_pos (by omega), if_pos (by omega), if_pos (by omega), if_pos rfl, next_nat i (by omega)]
    exact ih k (i + 1) (by omega) (by omega) (by omega)
end Go.Proofs.YtkcnmfeenhpjpaaDoor.T
