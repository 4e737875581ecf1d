/- Plain law of script.Line: the lines of an answer. -/
import Derived.Test.YtkcnmfeenhpjpaaDoorPlainC
import Derived.Test.YtkcnmfeenhpjpaaDoorTx7
import Derived.Lib.ReplaceLaws
set_option linter.unusedVariables false
set_option linter.unusedSimpArgs false
namespace Go.Proofs.YtkcnmfeenhpjpaaDoor.T
open Go.Lib Go.RowKit Go.Proofs.YtkcnmfeenhpjpaaDoorW.PrintWords Go.Proofs.YtkcnmfeenhpjpaaDoorW.PrintLast Go.Proofs.YtkcnmfeenhpjpaaDoorW.PrintMore
def ex : List S40 := [⟨1, 0, 0, B [98, 101, 103, 105, 110]⟩, ⟨2, 0, 5, ⟨#[]⟩⟩, ⟨3, 0, 0, ⟨#[]⟩⟩]
def exText : List UInt8 := [48, 58, 32, 98, 101, 103, 105, 110, 10, 112, 111, 119, 101, 114, 32, 53, 10, 111, 112, 101, 110, 10]
theorem itoa_digit (m : Nat) (h : m < 10) : itoa (m : Int) = [UInt8.ofNat (48 + m)] := by rw [itoa_nonneg, decDigits_one h]
theorem ex_all : ex.all mayA = true := by decide
theorem ex_print : printA ex = exText := by
  have h0 : itoa 0 = [48] := itoa_digit 0 (by omega)
  have h5 : itoa 5 = [53] := itoa_digit 5 (by omega)
  simp only [ex, printA, lineA, lineL, h0, h5]
  decide
theorem ex_parse (k : Nat) (hk : 100 < k) : script_Parse.f k (B exText) = some (ex, 0, 0) := by
  have h := parse_printed [] ex [] k 1 ex_all (by rw [ex_print]; decide) (by show 3 ≤ k; omega) (by decide) (by omega) (by decide)
  rw [List.append_nil, ex_print] at h
  unfold script_Parse.f
  rw [h]
  obtain ⟨m, hm⟩ : ∃ m, k - ex.length = m + 1 := ⟨k - 4, by show k - 3 = _; omega⟩
  rw [hm]
  simp only [script_Parse.l0]
  rw [if_pos (by rw [toList_data]), List.nil_append]
def exBad : List UInt8 := [111, 112, 101, 110, 10, 52, 58, 32, 120, 10]
theorem ex_bad (k : Nat) (hk : 100 < k) : script_Parse.f k (B exBad) = some ([], 2, 1) := by
  have h := parse_printed [52, 58, 32, 120, 10] [⟨3, 0, 0, ⟨#[]⟩⟩] [] k 1 (by decide) (by decide) (by show 1 ≤ k; omega) (by decide) (by omega) (by decide)
  unfold script_Parse.f
  have e : printA [⟨3, 0, 0, ⟨#[]⟩⟩] ++ [52, 58, 32, 120, 10] = exBad := by decide
  rw [e] at h
  rw [h]
  obtain ⟨m, hm⟩ : ∃ m, k - [(⟨3, 0, 0, ⟨#[]⟩⟩ : S40)].length = m + 1 := ⟨k - 2, by show k - 1 = _; omega⟩
  rw [hm]
  simp only [script_Parse.l0]
  rw [if_neg (by rw [toList_data]; decide)]
  unfold strings_Cut.f
  rw [if_pos (by decide), Option.bind_some]
  have hc : cut (B [52, 58, 32, 120, 10]).data.toList (⟨#[10]⟩ : ByteArray).data.toList = ([52, 58, 32, 120], [], true) := by decide
  rw [hc]
  have ho : script_one.f (B [52, 58, 32, 120]) = some (0, 0, 0, ⟨#[]⟩, 1) := by
    unfold script_one.f
    rw [if_neg (by rw [toList_data]; decide), if_neg (by rw [toList_data]; decide)]
    unfold strings_Cut.f
    rw [if_pos (by decide), Option.bind_some]
    have hc2 : cut (B [52, 58, 32, 120]).data.toList (⟨#[58, 32]⟩ : ByteArray).data.toList = ([52], [120], true) := by decide
    rw [hc2, if_neg (by decide), if_neg (by decide)]
    unfold script_one.g
    have hn := num_itoa 4 (by decide) (by decide)
    rw [show itoa 4 = [52] from itoa_digit 4 (by omega)] at hn
    simp only [hn, Option.bind_some, if_true, may_eq]
    rfl
  rw [if_pos rfl]
  rw [show (⟨([52, 58, 32, 120], ([] : List UInt8), true).1.toArray⟩ : ByteArray) = B [52, 58, 32, 120] from rfl, ho]
  rfl
end Go.Proofs.YtkcnmfeenhpjpaaDoor.T
set_option linter.unusedVariables false
set_option linter.unusedSimpArgs false
namespace Go.Proofs.YtkcnmfeenhpjpaaDoor.T
open Go.Lib Go.RowKit Go.Proofs.YtkcnmfeenhpjpaaDoorW.PrintWords Go.Proofs.YtkcnmfeenhpjpaaDoorW.PrintLast Go.Proofs.YtkcnmfeenhpjpaaDoorW.PrintMore
/-- How great an answer's parts are, each by itself. -/
structure Small (cols : List S42) (rows : List (List S44)) (txt : List ByteArray) : Prop where
  nc : cols.length ≤ 2097152
  c : ∀ c ∈ cols, c.f0.size ≤ 2097152 ∧ c.f1.size ≤ 2097152
  nr : rows.length ≤ 2097152
  r : ∀ r ∈ rows, r.length ≤ 2097152 ∧ ∀ v ∈ r, v.f2.size ≤ 2097152 ∧ -9223372036854775808 ≤ v.f1 ∧ v.f1 ≤ 9223372036854775807
  nt : txt.length ≤ 2097152
  t : ∀ t ∈ txt, t.size ≤ 2097152
def nameL (c : S42) : List UInt8 := if c.f0.data.toList = [] then c.f1.data.toList else c.f0.data.toList ++ [46] ++ c.f1.data.toList
/-- A text with each quote twice. -/
def quoted (l : List UInt8) : List UInt8 := l.flatMap fun c => if c = 39 then [39, 39] else [c]
def valL (v : S44) : List UInt8 :=
  if v.f0 = 1 then (if v.f1 = 0 then bFalse.data.toList else bTrue.data.toList)
  else if v.f0 = 2 then itoa v.f1 else if v.f0 = 3 then 39 :: (quoted v.f2.data.toList ++ [39]) else bNull.data.toList
theorem rd42 (l : List S42) (i : Nat) (h : i < l.length) : l.drop i = rd_T42 l (i : Int) :: l.drop (i + 1) := by
  unfold rd_T42
  rw [List.drop_eq_getElem_cons h]
  congr 1
  rw [List.getD_eq_getElem?_getD]
  simp [h]
theorem rd44 (l : List S44) (i : Nat) (h : i < l.length) : l.drop i = rd_T44 l (i : Int) :: l.drop (i + 1) := by
  unfold rd_T44
  rw [List.drop_eq_getElem_cons h]
  congr 1
  rw [List.getD_eq_getElem?_getD]
  simp [h]
theorem rdL (l : List (List S44)) (i : Nat) (h : i < l.length) : l.drop i = rd_L7 l (i : Int) :: l.drop (i + 1) := by
  unfold rd_L7
  rw [List.drop_eq_getElem_cons h]
  congr 1
  rw [List.getD_eq_getElem?_getD]
  simp [h]
theorem rdS (l : List ByteArray) (i : Nat) (h : i < l.length) : l.drop i = rdOf ByteArray.empty l (i : Int) :: l.drop (i + 1) := by
  unfold rdOf
  rw [List.drop_eq_getElem_cons h]
  congr 1
  rw [List.getD_eq_getElem?_getD]
  simp [h]
theorem dlen (s : ByteArray) : s.data.toList.length = s.size := by rw [Array.length_toList]; rfl
theorem nameL_length (c : S42) : (nameL c).length ≤ c.f0.size + 1 + c.f1.size := by
  have h0 := dlen c.f0
  have h1 := dlen c.f1
  unfold nameL
  split
  · omega
  · simp only [List.length_append, List.length_cons, List.length_nil]; omega
theorem quoted_length (l : List UInt8) : (quoted l).length ≤ 2 * l.length := by
  induction l with
  | nil => exact Nat.le_refl _
  | cons c l ih =>
    unfold quoted at ih ⊢
    rw [List.flatMap_cons, List.length_append, List.length_cons]
    split <;> simp only [List.length_cons, List.length_nil] <;> omega
theorem index_quote (l : List UInt8) (h : (39 : UInt8) ∉ l) : quoted l = l := by
  induction l with
  | nil => rfl
  | cons c l ih =>
    rw [List.mem_cons] at h
    unfold quoted at ih ⊢
    rw [List.flatMap_cons, ih (fun e => h (.inr e)), if_neg (fun e => h (.inl e.symm))]
    rfl
theorem quoted_append (l m : List UInt8) : quoted (l ++ m) = quoted l ++ quoted m := by
  unfold quoted; rw [List.flatMap_append]
theorem count_split (t r : List UInt8) (h : (39 : UInt8) ∉ t) (n : Nat) (hn : (t ++ 39 :: r).length < n) : countFrom [39] n (t ++ 39 :: r) = 1 + countFrom [39] (n - 1) r := by
  obtain ⟨m, rfl⟩ : ∃ m, n = m + 1 := ⟨n - 1, by omega⟩
  have hi : index (t ++ 39 :: r) [39] = t.length := by
    have := cut_byte t r 39 h
    unfold cut at this
    rw [index_one]
    clear this hn
    induction t with
    | nil => simp [indexByte]
    | cons b l ih =>
      rw [List.mem_cons] at h
      simp only [List.cons_append, indexByte, ih (fun e => h (.inr e))]
      rw [if_neg (by simpa using fun e => h (.inl e.symm)), if_neg (by simp)]
      simp
  simp only [countFrom, hi]
  rw [if_neg (by simp), Nat.add_sub_cancel]
  congr 2
  simp
theorem replace_quoted (d : Nat) : ∀ (l : List UInt8) (n : Nat), l.length ≤ d → l.length < n → replaceK [39] [39, 39] (countFrom [39] n l) l = quoted l := by
  induction d with
  | zero =>
    intro l n h hn
    obtain rfl : l = [] := List.length_eq_zero_iff.1 (by omega)
    obtain ⟨m, rfl⟩ : ∃ m, n = m + 1 := ⟨n - 1, by omega⟩
    rfl
  | succ d ih =>
    intro l n h hn
    by_cases hm : (39 : UInt8) ∈ l
    · obtain ⟨t, r, ht, rfl⟩ := first_of l 39 hm
      rw [List.length_append, List.length_cons] at h hn
      rw [count_split t r ht n (by rw [List.length_append, List.length_cons]; omega), Nat.add_comm 1]
      have hi : index (t ++ 39 :: r) [39] = t.length := by
        rw [index_one]
        clear h hn hm
        induction t with
        | nil => simp [indexByte]
        | cons b l ih =>
          rw [List.mem_cons] at ht
          simp only [List.cons_append, indexByte, ih (fun e => ht (.inr e))]
          rw [if_neg (by simpa using fun e => ht (.inl e.symm)), if_neg (by simp)]
          simp
      rw [replaceK_hit _ _ _ _ _ hi]
      have e1 : (t ++ 39 :: r).take t.length = t := by simp
      have e2 : (t ++ 39 :: r).drop (t.length + [(39 : UInt8)].length) = r := by simp
      rw [e1, e2, ih r (n - 1) (by omega) (by omega), quoted_append, index_quote t ht]
      show t ++ [39, 39] ++ quoted r = t ++ ([39, 39] ++ quoted r)
      simp
    · rw [index_quote l hm]
      have hi : index l [39] = -1 := by
        rw [index_one]
        have hg := indexByte_ge l 39
        have : ¬ 0 ≤ indexByte l 39 := fun e => hm ((index_of_mem l 39).1 e)
        omega
      obtain ⟨m, rfl⟩ : ∃ m, n = m + 1 := ⟨n - 1, by omega⟩
      simp only [countFrom, hi]
      rfl
theorem replaceAll_quoted (l : List UInt8) : replaceAll l [39] [39, 39] = quoted l := by
  unfold replaceAll replace replaceNum
  rw [if_neg (by decide), if_pos (.inl (by decide))]
  exact replace_quoted l.length l (l.length + 1) (Nat.le_refl _) (by omega)
theorem val_eq (v : S44) (h : v.f2.size ≤ 2097152 ∧ -9223372036854775808 ≤ v.f1 ∧ v.f1 ≤ 9223372036854775807) : value_Text.f v.f0 v.f1 v.f2 = some (B (valL v)) ∧ (valL v).length ≤ 8388608 := by
  have hd := dlen v.f2
  have hq := quoted_length v.f2.data.toList
  unfold value_Text.f valL
  split
  · split <;> exact ⟨rfl, by decide⟩
  · split
    · unfold strconv_Itoa.f
      rw [if_pos h.2]
      exact ⟨rfl, by have := itoa_length_le v.f1 h.2.1 h.2.2; omega⟩
    · split
      · unfold strings_ReplaceAll.f
        have hc : countB v.f2 ⟨#[39]⟩ ≤ v.f2.size := by
          have := countB_mul_le ⟨#[39]⟩ (by decide) v.f2.size v.f2 (Nat.le_refl _)
          rw [show (⟨#[39]⟩ : ByteArray).size = 1 from rfl, Nat.mul_one] at this
          exact this
        rw [if_pos (by omega), if_pos (by decide), if_pos (by rw [show (⟨#[39, 39]⟩ : ByteArray).size = 2 from rfl]; omega), Option.bind_some]
        rw [show (⟨#[39]⟩ : ByteArray).data.toList = [39] from rfl, show (⟨#[39, 39]⟩ : ByteArray).data.toList = [39, 39] from rfl, replaceAll_quoted]
        rw [if_pos (by rw [show (⟨(quoted v.f2.data.toList).toArray⟩ : ByteArray).size = (quoted v.f2.data.toList).length from B_size _]; omega)]
        refine ⟨?_, by rw [List.length_cons, List.length_append, List.length_singleton]; omega⟩
        congr 1
      · exact ⟨rfl, by decide⟩
/-- The texts' lines. -/
def textLine (t : ByteArray) : ByteArray := (⟨#[116, 101, 120, 116, 32]⟩ : ByteArray) ++ t
theorem line_texts (txt : List ByteArray) (hn : txt.length ≤ 2097152) (ht : ∀ t ∈ txt, t.size ≤ 2097152) (d : Nat) : ∀ (k i : Nat) (x3 : List ByteArray), i ≤ txt.length → txt.length - i = d → d < k → x3.length + d ≤ 8000000000000 →
    script_Line.l3 k x3 txt (txt.length : Int) (i : Int) = some (x3 ++ (txt.drop i).map textLine) := by
  induction d with
  | zero =>
    intro k i x3 hi hd hk _
    obtain ⟨k, rfl⟩ : ∃ m, k = m + 1 := ⟨k - 1, by omega⟩
    obtain rfl : i = txt.length := by omega
    simp only [script_Line.l3]
    rw [if_neg (by omega)]
    simp
  | succ d ih =>
    intro k i x3 hi hd hk hx
    obtain ⟨k, rfl⟩ : ∃ m, k = m + 1 := ⟨k - 1, by omega⟩
    have hlt : i < txt.length := by omega
    have hdr := rdS txt i hlt
    have hmem : rdOf ByteArray.empty txt (i : Int) ∈ txt := List.mem_of_mem_drop (by rw [hdr]; exact List.mem_cons_self ..)
    have hs := ht _ hmem
    simp only [script_Line.l3]
    rw [if_pos (by omega), if_pos (by omega), if_pos (by omega), if_pos (by omega), if_pos (by omega), wrap_small _ (by omega) (by omega)]
    have h2 := ih k (i + 1) (x3 ++ [textLine (rdOf ByteArray.empty txt (i : Int))]) (by omega) (by omega) (by omega) (by rw [List.length_append, List.length_singleton]; omega)
    rw [show ((i + 1 : Nat) : Int) = (i : Int) + 1 by omega] at h2
    rw [hdr, List.map_cons, show x3 ++ textLine (rdOf ByteArray.empty txt (i : Int)) :: (txt.drop (i + 1)).map textLine = (x3 ++ [textLine (rdOf ByteArray.empty txt (i : Int))]) ++ (txt.drop (i + 1)).map textLine by simp]
    exact h2
theorem join_eq (x : List UInt8) (r : List (List UInt8)) (hn : r.length ≤ 4194304) (hs : ∀ y ∈ x :: r, y.length ≤ 16777216) : strings_Join.f ((x :: r).map B) ⟨#[32]⟩ = some (B (x ++ joinTail [32] r)) := by
  have hl : ∀ r : List (List UInt8), (∀ y ∈ r, y.length ≤ 16777216) → (joinTail [32] r).length ≤ r.length * 16777217 := by
    intro r
    induction r with
    | nil => intro _; exact Nat.le_refl _
    | cons y r ih =>
      intro h
      have h1 := h y (List.mem_cons_self ..)
      have h2 := ih (fun z hz => h z (List.mem_cons_of_mem _ hz))
      unfold joinTail at h2 ⊢
      rw [List.map_cons, List.flatten_cons, List.length_append, List.length_append, List.length_singleton, List.length_cons]
      omega
  have h1 := hs x (List.mem_cons_self ..)
  have h2 := hl r (fun z hz => hs z (List.mem_cons_of_mem _ hz))
  have e : ((x :: r).map B).map (·.data.toList) = x :: r := by
    rw [List.map_map]
    have : ((fun s : ByteArray => s.data.toList) ∘ B) = id := by funext l; rfl
    rw [this, List.map_id]
  unfold strings_Join.f
  rw [e, show (⟨#[32]⟩ : ByteArray).data.toList = [32] from rfl, join_cons]
  rw [if_pos (by rw [List.length_map, List.length_cons]; omega), if_pos (by rw [List.length_append]; omega)]
/-- A row's values, from the i-th on, and what comes of the row. -/
theorem line_vals (row : List S44) (hn : row.length ≤ 2097152) (hv : ∀ v ∈ row, v.f2.size ≤ 2097152 ∧ -9223372036854775808 ≤ v.f1 ∧ v.f1 ≤ 9223372036854775807) (x3 : List ByteArray) (hx3 : x3.length ≤ 8000000000000) (rows : List (List S44)) (nr j : Int) (b0 b1 b2 : Int) (b3 : List S42) (b4 : List (List S44)) (b5 : List ByteArray) (res : List ByteArray) (K : Nat)
    (d : Nat) : ∀ (k i : Nat) (x9 : List (List UInt8)), i ≤ row.length → row.length - i = d → K + d < k → x9.length + d ≤ 4194304 → (∀ y ∈ x9, y.length ≤ 16777216) →
    (∀ k', K ≤ k' → script_Line.l1 k' (x3 ++ [B ([114, 111, 119] ++ joinTail [32] (x9 ++ (row.drop i).map valL))]) rows nr (wrap64 (j + 1)) b0 b1 b2 b3 b4 b5 = some res) →
    script_Line.l2 k x3 (([114, 111, 119] :: x9).map B) rows nr j row (row.length : Int) (i : Int) b0 b1 b2 b3 b4 b5 = some res := by
  induction d with
  | zero =>
    intro k i x9 hi hd hk hx hy hc
    obtain ⟨k, rfl⟩ : ∃ m, k = m + 1 := ⟨k - 1, by omega⟩
    obtain rfl : i = row.length := by omega
    simp only [script_Line.l2]
    rw [if_neg (by omega), join_eq [114, 111, 119] x9 (by omega) (by intro y h; rw [List.mem_cons] at h; rcases h with rfl | h; · decide
                                                                     · exact hy y h), Option.bind_some, if_pos (by omega)]
    have h := hc k (by omega)
    rw [List.drop_length, List.map_nil, List.append_nil] at h
    exact h
  | succ d ih =>
    intro k i x9 hi hd hk hx hy hc
    obtain ⟨k, rfl⟩ : ∃ m, k = m + 1 := ⟨k - 1, by omega⟩
    have hlt : i < row.length := by omega
    have hdr := rd44 row i hlt
    have hmem : rd_T44 row (i : Int) ∈ row := List.mem_of_mem_drop (by rw [hdr]; exact List.mem_cons_self ..)
    obtain ⟨hval, hvl⟩ := val_eq _ (hv _ hmem)
    simp only [script_Line.l2]
    rw [if_pos (by omega), if_pos (by omega), if_pos (by omega), hval, Option.bind_some, if_pos (by rw [List.length_map, List.length_cons]; omega), wrap_small _ (by omega) (by omega)]
    have h2 := ih k (i + 1) (x9 ++ [valL (rd_T44 row (i : Int))]) (by omega) (by omega) (by omega) (by rw [List.length_append, List.length_singleton]; omega)
      (by intro y h; rw [List.mem_append, List.mem_singleton] at h; rcases h with h | rfl; · exact hy y h
          · omega)
      (by intro k' hk'
          have h := hc k' hk'
          rw [hdr, List.map_cons, show x9 ++ valL (rd_T44 row (i : Int)) :: (row.drop (i + 1)).map valL = (x9 ++ [valL (rd_T44 row (i : Int))]) ++ (row.drop (i + 1)).map valL by simp] at h
          exact h)
    rw [show ((i + 1 : Nat) : Int) = (i : Int) + 1 by omega] at h2
    rw [show (([114, 111, 119] :: x9).map B) ++ [B (valL (rd_T44 row (i : Int)))] = ([114, 111, 119] :: (x9 ++ [valL (rd_T44 row (i : Int))])).map B by simp]
    exact h2
def rowLine (r : List S44) : ByteArray := B ([114, 111, 119] ++ joinTail [32] (r.map valL))
set_option maxRecDepth 100000 in
theorem line_rows (cols : List S42) (rows : List (List S44)) (txt : List ByteArray) (hS : Small cols rows txt) (b0 b1 b2 : Int) (d : Nat) : ∀ (k j : Nat) (x3 : List ByteArray), j ≤ rows.length → rows.length - j = d → d * 2097160 + 2097160 < k → x3.length + d ≤ 7000000000000 →
    script_Line.l1 k x3 rows (rows.length : Int) (j : Int) b0 b1 b2 cols rows txt = some (x3 ++ (rows.drop j).map rowLine ++ txt.map textLine) := by
  induction d with
  | zero =>
    intro k j x3 hi hd hk hx
    obtain ⟨k, rfl⟩ : ∃ m, k = m + 1 := ⟨k - 1, by omega⟩
    obtain rfl : j = rows.length := by omega
    simp only [script_Line.l1]
    rw [if_neg (by omega)]
    have hn := hS.nt
    have h := line_texts txt hn hS.t txt.length k 0 x3 (by omega) (by omega) (by omega) (by omega)
    rw [show ((0 : Nat) : Int) = 0 from rfl, List.drop_zero] at h
    rw [h, List.drop_length, List.map_nil, List.append_nil]
  | succ d ih =>
    intro k j x3 hi hd hk hx
    obtain ⟨k, rfl⟩ : ∃ m, k = m + 1 := ⟨k - 1, by omega⟩
    have hlt : j < rows.length := by omega
    have hnr := hS.nr
    have hdr := rdL rows j hlt
    have hmem : rd_L7 rows (j : Int) ∈ rows := List.mem_of_mem_drop (by rw [hdr]; exact List.mem_cons_self ..)
    obtain ⟨h1, h2⟩ := hS.r _ hmem
    simp only [script_Line.l1]
    rw [if_pos (by omega), if_pos (by omega), if_pos (by omega)]
    have h3 := line_vals (rd_L7 rows (j : Int)) h1 h2 x3 (by omega) rows (rows.length : Int) (j : Int) b0 b1 b2 cols rows txt (x3 ++ (rows.drop j).map rowLine ++ txt.map textLine) (d * 2097160 + 2097161)
      (rd_L7 rows (j : Int)).length k 0 [] (by omega) (by omega) (by omega) (by simp; omega) (by intro y h; cases h)
      (by intro k' hk'
          rw [wrap_small _ (by omega) (by omega)]
          have hk2 : d * 2097160 + 2097160 < k' := Nat.lt_of_lt_of_le (Nat.lt_succ_self _) hk'
          have h := ih k' (j + 1) (x3 ++ [rowLine (rd_L7 rows (j : Int))]) (by clear hk' hk2; omega) (by clear hk' hk2; omega) hk2 (by clear hk' hk2; rw [List.length_append, List.length_singleton]; omega)
          rw [show ((j + 1 : Nat) : Int) = (j : Int) + 1 by omega] at h
          rw [hdr, List.map_cons, List.drop_zero, List.nil_append]
          rw [show x3 ++ rowLine (rd_L7 rows (j : Int)) :: (rows.drop (j + 1)).map rowLine = (x3 ++ [rowLine (rd_L7 rows (j : Int))]) ++ (rows.drop (j + 1)).map rowLine by simp]
          exact h)
    exact h3
/-- The columns, from the i-th on, and what comes of them. -/
theorem line_cols (cols : List S42) (hn : cols.length ≤ 2097152) (hv : ∀ c ∈ cols, c.f0.size ≤ 2097152 ∧ c.f1.size ≤ 2097152) (x3 : List ByteArray) (hx3 : x3.length ≤ 8000000000000) (b0 b1 b2 : Int) (b3 : List S42) (b4 : List (List S44)) (b5 : List ByteArray) (res : List ByteArray) (K : Nat)
    (d : Nat) : ∀ (k i : Nat) (x4 : List (List UInt8)), i ≤ cols.length → cols.length - i = d → K + d < k → x4.length + d ≤ 4194304 → (∀ y ∈ x4, y.length ≤ 16777216) →
    (∀ k', K ≤ k' → script_Line.j1 k' (x3 ++ [B ([99, 111, 108, 115] ++ joinTail [32] (x4 ++ (cols.drop i).map nameL))]) b0 b1 b2 b3 b4 b5 = some res) →
    script_Line.l0 k x3 (([99, 111, 108, 115] :: x4).map B) cols (cols.length : Int) (i : Int) b0 b1 b2 b3 b4 b5 = some res := by
  induction d with
  | zero =>
    intro k i x9 hi hd hk hx hy hc
    obtain ⟨k, rfl⟩ : ∃ m, k = m + 1 := ⟨k - 1, by omega⟩
    obtain rfl : i = cols.length := by omega
    simp only [script_Line.l0]
    rw [if_neg (by omega), join_eq [99, 111, 108, 115] x9 (by omega) (by intro y h; rw [List.mem_cons] at h; rcases h with rfl | h; · decide
                                                                         · exact hy y h), Option.bind_some, if_pos (by omega)]
    have h := hc k (by omega)
    rw [List.drop_length, List.map_nil, List.append_nil] at h
    exact h
  | succ d ih =>
    intro k i x9 hi hd hk hx hy hc
    obtain ⟨k, rfl⟩ : ∃ m, k = m + 1 := ⟨k - 1, by omega⟩
    have hlt : i < cols.length := by omega
    have hdr := rd42 cols i hlt
    have hmem : rd_T42 cols (i : Int) ∈ cols := List.mem_of_mem_drop (by rw [hdr]; exact List.mem_cons_self ..)
    obtain ⟨hv0, hv1⟩ := hv _ hmem
    have hnl := nameL_length (rd_T42 cols (i : Int))
    have h2 := ih k (i + 1) (x9 ++ [nameL (rd_T42 cols (i : Int))]) (by omega) (by omega) (by omega) (by rw [List.length_append, List.length_singleton]; omega)
      (by intro y h; rw [List.mem_append, List.mem_singleton] at h; rcases h with h | rfl; · exact hy y h
          · omega)
      (by intro k' hk'
          have h := hc k' hk'
          rw [hdr, List.map_cons, show x9 ++ nameL (rd_T42 cols (i : Int)) :: (cols.drop (i + 1)).map nameL = (x9 ++ [nameL (rd_T42 cols (i : Int))]) ++ (cols.drop (i + 1)).map nameL by simp] at h
          exact h)
    rw [show ((i + 1 : Nat) : Int) = (i : Int) + 1 by omega, show (([99, 111, 108, 115] :: (x9 ++ [nameL (rd_T42 cols (i : Int))])).map B) = (([99, 111, 108, 115] :: x9).map B) ++ [B (nameL (rd_T42 cols (i : Int)))] by simp] at h2
    simp only [script_Line.l0]
    rw [if_pos (by omega), if_pos (by omega), if_pos (by omega), toList_data]
    by_cases he : (rd_T42 cols (i : Int)).f0.data.toList = []
    · rw [if_pos he, if_pos (by rw [List.length_map, List.length_cons]; omega), wrap_small _ (by omega) (by omega)]
      rw [show B (nameL (rd_T42 cols (i : Int))) = (rd_T42 cols (i : Int)).f1 by unfold nameL; rw [if_pos he]] at h2
      exact h2
    · have hb : ((rd_T42 cols (i : Int)).f0 ++ (⟨#[46]⟩ : ByteArray)).size = (rd_T42 cols (i : Int)).f0.size + 1 := by rw [ByteArray.size_append]; rfl
      rw [if_neg he, if_pos (by omega), if_pos (by rw [hb]; omega), if_pos (by rw [List.length_map, List.length_cons]; omega), wrap_small _ (by omega) (by omega)]
      have e : B (nameL (rd_T42 cols (i : Int))) = ((rd_T42 cols (i : Int)).f0 ++ (⟨#[46]⟩ : ByteArray)) ++ (rd_T42 cols (i : Int)).f1 := by
        unfold nameL
        rw [if_neg he]
        apply ByteArray.ext
        simp
      rw [e] at h2
      exact h2
def headLine (a b c : Int) : ByteArray := B ([114, 101, 112, 108, 121, 32] ++ itoa a ++ [32] ++ itoa b ++ [32] ++ itoa c)
def colsLine (cols : List S42) : ByteArray := B ([99, 111, 108, 115] ++ joinTail [32] (cols.map nameL))
/-- An answer's lines. -/
def linesOf (a b c : Int) (cols : List S42) (rows : List (List S44)) (txt : List ByteArray) : List ByteArray :=
  (if cols = [] then [headLine a b c] else [headLine a b c, colsLine cols]) ++ rows.map rowLine ++ txt.map textLine
def I64 (n : Int) : Prop := -9223372036854775808 ≤ n ∧ n ≤ 9223372036854775807
set_option maxRecDepth 100000 in
theorem line_all (a b c : Int) (cols : List S42) (rows : List (List S44)) (txt : List ByteArray) (hS : Small cols rows txt) (ha : I64 a) (hb : I64 b) (hc : I64 c) (k : Nat) (hk : 2097152 * 2097160 + 2097160 + 2097152 + 100 < k) :
    script_Line.f k a b c cols rows txt = some (linesOf a b c cols rows txt) := by
  have la := itoa_length_le a ha.1 ha.2
  have lb := itoa_length_le b hb.1 hb.2
  have lc := itoa_length_le c hc.1 hc.2
  have hT : ∀ n, I64 n → num_Text.f n = some (B (itoa n)) := by
    intro n hn
    unfold num_Text.f strconv_Itoa.f
    rw [if_pos ⟨hn.1, hn.2⟩, Option.bind_some]
  have hnc := hS.nc
  have hnr := hS.nr
  have hj : ∀ x3 : List ByteArray, x3.length ≤ 10 → ∀ k', 2097152 * 2097160 + 2097160 + 10 ≤ k' → script_Line.j1 k' x3 a b c cols rows txt = some (x3 ++ rows.map rowLine ++ txt.map textLine) := by
    intro x3 hx k' hk'
    obtain ⟨m, rfl⟩ : ∃ m, k' = m + 1 := ⟨k' - 1, by omega⟩
    simp only [script_Line.j1]
    have hm : rows.length * 2097160 + 2097160 < m := by
      have h1 : rows.length * 2097160 ≤ 2097152 * 2097160 := Nat.mul_le_mul_right _ hnr
      clear hk ha hb hc la lb lc
      omega
    have h := line_rows cols rows txt hS a b c rows.length m 0 x3 (by clear hk' hm hk; omega) (by clear hk' hm hk; omega) hm (by clear hk' hm hk; omega)
    rw [show ((0 : Nat) : Int) = 0 from rfl, List.drop_zero] at h
    exact h
  have e1 : ((⟨#[114, 101, 112, 108, 121, 32]⟩ : ByteArray) ++ B (itoa a)).size = 6 + (itoa a).length := by rw [ByteArray.size_append, B_size]; rfl
  have e2 : (((⟨#[114, 101, 112, 108, 121, 32]⟩ : ByteArray) ++ B (itoa a)) ++ (⟨#[32]⟩ : ByteArray)).size = 6 + (itoa a).length + 1 := by rw [ByteArray.size_append, e1]; rfl
  have e3 : ((((⟨#[114, 101, 112, 108, 121, 32]⟩ : ByteArray) ++ B (itoa a)) ++ (⟨#[32]⟩ : ByteArray)) ++ B (itoa b)).size = 6 + (itoa a).length + 1 + (itoa b).length := by rw [ByteArray.size_append, e2, B_size]
  have e4 : (((((⟨#[114, 101, 112, 108, 121, 32]⟩ : ByteArray) ++ B (itoa a)) ++ (⟨#[32]⟩ : ByteArray)) ++ B (itoa b)) ++ (⟨#[32]⟩ : ByteArray)).size = 6 + (itoa a).length + 1 + (itoa b).length + 1 := by rw [ByteArray.size_append, e3]; rfl
  unfold script_Line.f
  rw [hT a ha, Option.bind_some, if_pos (by rw [B_size]; omega), if_pos (by rw [e1]; omega), hT b hb, Option.bind_some, if_pos (by rw [e2, B_size]; omega), if_pos (by rw [e3]; omega), hT c hc, Option.bind_some, if_pos (by rw [e4, B_size]; omega), Option.bind_some]
  rw [show (((((⟨#[114, 101, 112, 108, 121, 32]⟩ : ByteArray) ++ B (itoa a)) ++ (⟨#[32]⟩ : ByteArray)) ++ B (itoa b)) ++ (⟨#[32]⟩ : ByteArray)) ++ B (itoa c) = headLine a b c from by unfold headLine; apply ByteArray.ext; simp [B]]
  unfold linesOf
  by_cases hz : cols = []
  · rw [if_neg (by rw [hz]; decide), if_pos hz]
    exact hj _ (by simp) k (by omega)
  · have hp : 0 < cols.length := List.length_pos_iff.2 hz
    rw [if_pos (by omega), if_neg hz]
    have h := line_cols cols hnc hS.c [headLine a b c] (by simp) a b c cols rows txt ([headLine a b c, colsLine cols] ++ rows.map rowLine ++ txt.map textLine) (2097152 * 2097160 + 2097160 + 20) cols.length k 0 [] (by omega) (by omega) (by omega) (by simp; omega) (by intro y h; cases h)
      (by intro k' hk'
          rw [List.drop_zero, List.nil_append]
          exact hj [headLine a b c, colsLine cols] (by simp) k' (by omega))
    exact h
end Go.Proofs.YtkcnmfeenhpjpaaDoor.T
