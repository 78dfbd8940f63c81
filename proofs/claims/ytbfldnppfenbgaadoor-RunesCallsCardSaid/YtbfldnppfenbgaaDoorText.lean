/-
  Contracts of package runes: Is, Text, Cut. Conditions: the tables of unicode/utf8 lie as laid; sizes as stated.
-/
import Derived.Test.YtbfldnppfenbgaaDoorRunes
import Derived.Laws.IdiomStrings
namespace Go.Proofs.YtbfldnppfenbgaaDoor
open Go.RowKit Go.Lib
set_option maxRecDepth 100000

/-- 'string(b)' of a row of bytes that the call owns. -/
theorem run_string_own {P : Program} (w : World) (src dst e : TypeId) (hs : P.underlying src = some (.slice e)) (he : P.underlying e = some (.int .u8)) (hd : P.underlying dst = some .string) {base : Nat} {v : Value} {l : List UInt8}
    (hown : w.ownsRow base e 1 v l.length (byteCells l)) : (convert src dst v).run P w = .ok (.string ⟨l.toArray⟩) w := by
  rcases hown.2 with ⟨rfl, h0⟩ | ⟨g, cap, cur, rfl, -, -, -, -, -, -⟩
  · have : l = [] := by simpa [byteCells] using h0
    subst this
    rw [run_convert_bytes_string w src dst e none 0 0 hs he hd]
    rfl
  · exact run_convert_bytes_back (P := P) w src dst e ⟨g, 0, none⟩ cap l hs he hd (fun j hj => hown.cells (g := g) rfl j _ (by simp [byteCells, hj]))

/-- Is. -/
theorem is_any (c : Int) (w : World) : Calls Tryd.prog 19 #[.int .i64 c] w fun e w' => e = .returned (.bool (chB c)) ∧ w = w' := by
  by_cases h0 : 0 ≤ c
  · by_cases h1 : c ≤ 1114111
    · by_cases h2 : 55296 ≤ c
      · by_cases h3 : c ≤ 57343
        · have e : chB c = false := by simp only [chB, decide_eq_false_iff_not]; omega
          rw [e]; clear e
          go_enter Tryd.func19, Tryd.ntmps19
          go_wp2
          go_ret
          exact ⟨rfl, rfl⟩
        · have e : chB c = true := by rw [chB_iff]; omega
          rw [e]; clear e
          go_enter Tryd.func19, Tryd.ntmps19
          go_wp2
          go_ret
          exact ⟨rfl, rfl⟩
      · have e : chB c = true := by rw [chB_iff]; omega
        rw [e]; clear e
        go_enter Tryd.func19, Tryd.ntmps19
        go_wp2
        go_ret
        exact ⟨rfl, rfl⟩
    · have e : chB c = false := by simp only [chB, decide_eq_false_iff_not]; omega
      rw [e]; clear e
      go_enter Tryd.func19, Tryd.ntmps19
      go_wp2
      go_ret
      exact ⟨rfl, rfl⟩
  · have e : chB c = false := by simp only [chB, decide_eq_false_iff_not]; omega
    rw [e]; clear e
    go_enter Tryd.func19, Tryd.ntmps19
    go_wp2
    go_ret
    exact ⟨rfl, rfl⟩

theorem encA_len (cs : List Int) : (encA cs).length ≤ 4 * cs.length := by
  induction cs with
  | nil => simp [encA_nil]
  | cons c cs ih =>
    rw [encA_cons, List.length_append, List.length_cons]
    have := (enc_len c).2
    omega
theorem runeCells_eq (c : Int) : runeCells c = byteCells (encodeRune c) := (byteCells_encodeRune c).symm
theorem info_byte : (Tryd.prog.info? 5).map (fun i => (i.zero, i.size, i.bytes)) = some (some (.int .u8 0), 1, 1) := by kernel_rfl

/-- All are characters. -/
def allCh (xs : List Int) : Bool := xs.all chB
def textOf (xs : List Int) : List UInt8 := if allCh xs then encA xs else []
def textE (xs : List Int) : Int := if allCh xs then 0 else 3
theorem text_yes {xs : List Int} (h : allCh xs = true) : textOf xs = encA xs ∧ textE xs = 0 := by simp [textOf, textE, h]
theorem text_no {xs : List Int} (h : allCh xs = false) : textOf xs = [] ∧ textE xs = 3 := by simp [textOf, textE, h]
theorem allCh_iff {xs : List Int} : allCh xs = true ↔ ∀ c ∈ xs, chB c = true := by simp [allCh]

theorem take_snoc {xs : List Int} {k : Nat} {x : Int} (h : xs[k]? = some x) : xs.take (k + 1) = xs.take k ++ [x] := by
  rw [List.take_add_one, h]; rfl

set_option maxHeartbeats 1000000 in
theorem text_walk (b off c : Nat) (xs : List Int) (w : World) (h0 : 0 < xs.length) (hn : xs.length ≤ 65536) (hb : b < w.heap.size) (hx : ∀ x ∈ xs, -9223372036854775808 ≤ x ∧ x ≤ 9223372036854775807)
    (h1 : ∀ j x, xs[j]? = some x → w.cell? ⟨b, off + j, none⟩ = some (.int .i64 x)) :
    Calls Tryd.prog 18 #[.slice (some ⟨b, off, none⟩) xs.length c] w fun e w' => e = .returned (.tuple #[.string ⟨(textOf xs).toArray⟩, .int .i64 (textE xs)]) ∧ Below w.heap.size w w' := by
  have H1 := Lib.hid h1
  have HX := Lib.hid hx
  clear h1 hx
  go_enter Tryd.func18, Tryd.ntmps18
  go_wp2
  go_loopw [4, 12] (fun bv i wr => ∃ k : Nat, k ≤ xs.length ∧ i = .int .i64 k ∧ wr.ownsRow w.heap.size 5 1 bv (encA (xs.take k)).length (byteCells (encA (xs.take k))) ∧ Below w.heap.size w wr ∧ Hid (∀ x ∈ xs.take k, chB x = true)) (fun _ i _ => xs.length - (intOf i).toNat)
  case atStart => exact ⟨0, Nat.zero_le _, rfl, World.ownsRow_nil _ _ _ _, Below.refl _ _, by simp [Hid]⟩
  case round =>
    obtain ⟨k, hk, rfl, hown, hbw, HC⟩ := hrel
    by_cases hlt : k < xs.length
    · obtain ⟨x, hxk⟩ : ∃ x, xs[k]? = some x := ⟨_, List.getElem?_eq_getElem hlt⟩
      have hc : wr.cell? ⟨b, off + k, none⟩ = some (.int .i64 x) := (hbw.cell (p := ⟨b, off + k, none⟩) hb).trans (H1.out k x hxk)
      have hmem : x ∈ xs := List.mem_of_getElem? hxk
      have hbd := HX.out x hmem
      obtain ⟨hb1, hb2⟩ := hbd
      have hsn := Lib.hid (take_snoc hxk)
      have HM := Lib.hid hmem
      clear hxk hmem
      cases hch : chB x with
      | true =>
        obtain ⟨q0, q1, q2⟩ := chB_iff.1 hch
        have I := Lib.hid (fun w' => is_any x w')
        rw [hch] at I
        have HCH := Lib.hid hch
        clear hch q2
        have hlen : (encA (xs.take k)).length + 4 ≤ 140737488355328 := by
          have := encA_len (xs.take k)
          have h2 : (xs.take k).length ≤ k := List.length_take_le _ _
          omega
        have HA := Lib.hid (fun (v : Value) (w' : World) (ho : w'.ownsRow w.heap.size 5 1 v (encA (xs.take k)).length (byteCells (encA (xs.take k)))) (hB : w.heap.size ≤ w'.heap.size) => Tryd.utf8_AppendRune_plain w.heap.size v _ _ x (by omega) (by omega) w' ho hlen hB)
        have hs2 := hbw.size
        have OB := Lib.hid (And.intro hown hbw)
        clear hown hbw hlen
        go_wp2_with (first
          | (go_at_call 19; refine (I.out _).mono ?_; rintro e w' ⟨rfl, rfl⟩)
          | (go_at_call 40; refine (HA.out _ _ OB.out.1 hs2).mono ?_; rintro e w2 ⟨v2, rfl, hown2, o2, hg2⟩))
        have hbw2 : Below w.heap.size w w2 := (OB.out.2.alloc hs2 o2).grown hg2 (by simp; omega) (fun j hj => (OB.out.1.lt j hj).1)
        rw [runeCells_eq, byteCells_length, ← List.length_append] at hown2
        have e1 : byteCells (encA (xs.take k)) ++ byteCells (encodeRune x) = byteCells (encA (xs.take k) ++ encodeRune x) := by simp [byteCells]
        have e2 : encA (xs.take k) ++ encodeRune x = encA (xs.take (k + 1)) := by rw [hsn.out, encA_append, encA_cons, encA_nil, List.append_nil]
        rw [e1, e2] at hown2
        have OB2 := Lib.hid (And.intro hown2 hbw2)
        clear hown2 hbw2 e1 e2 hg2
        go_wp2
        go_roundw
        case rel =>
          refine ⟨k + 1, by omega, by go_num, OB2.out.1, OB2.out.2, ?_⟩
          show ∀ y ∈ _, _
          rw [hsn.out]
          intro y hy
          rcases List.mem_append.1 hy with hy | hy
          · exact HC.out y hy
          · rw [List.mem_singleton.1 hy]; exact HCH.out
        case measure => simp [intOf]; omega
      | false =>
        have I := Lib.hid (fun w' => is_any x w')
        rw [hch] at I
        have hall : allCh xs = false := by
          cases h : allCh xs with
          | false => rfl
          | true =>
            have := allCh_iff.1 h x HM.out
            rw [hch] at this
            cases this
        have HAll := Lib.hid hall
        have OB := Lib.hid hbw
        clear hch hall hbw hown
        go_wp2_with (go_at_call 19; refine (I.out _).mono ?_; rintro e w' ⟨rfl, rfl⟩)
        go_ret2
        refine ⟨?_, OB.out⟩
        rw [(text_no HAll.out).1, (text_no HAll.out).2]
        rfl
    · have hkn : xs.take k = xs := List.take_of_length_le (by omega)
      have hall : allCh xs = true := by rw [allCh_iff]; have := HC.out; rwa [hkn] at this
      rw [hkn] at hown
      have hcv := run_string_own wr 43 9 5 Tryd.underlying43 Tryd.underlying5 Tryd.underlying9 hown
      have OB := Lib.hid hbw
      have HAll := Lib.hid hall
      clear hbw hown hkn hall
      go_wp2
      go_ret2
      refine ⟨?_, OB.out⟩
      rw [(text_yes HAll.out).1, (text_yes HAll.out).2]
      rfl

theorem text_long (A : Option Addr) (n c : Nat) (w : World) (h : 65536 < n) (hn : n ≤ 9223372036854775807) :
    Calls Tryd.prog 18 #[.slice A n c] w fun e w' => e = .returned (.tuple #[.string ⟨#[]⟩, .int .i64 4]) ∧ w = w' := by
  go_enter Tryd.func18, Tryd.ntmps18
  go_wp2
  go_ret2
  exact ⟨rfl, rfl⟩
theorem text_empty (A : Option Addr) (c : Nat) (w : World) :
    Calls Tryd.prog 18 #[.slice A 0 c] w fun e w' => e = .returned (.tuple #[.string ⟨#[]⟩, .int .i64 0]) ∧ w = w' := by
  have hcv : ∀ w', (convert 43 9 (.slice none 0 0)).run Tryd.prog w' = .ok (.string ⟨#[]⟩) w' := fun w' => run_string_own (l := []) w' 43 9 5 Tryd.underlying43 Tryd.underlying5 Tryd.underlying9 (World.ownsRow_nil w' w'.heap.size 5 1)
  go_enter Tryd.func18, Tryd.ntmps18
  go_wp2
  refine wp_loop_rounds 1 ?_
  rw [rounds_succ]
  go_wp2
  go_ret2
  exact ⟨rfl, rfl⟩
/-- Text of a list that is not too long. -/
theorem text_any (B : Nat) (v : Value) (xs : List Int) (w : World) (h : Ints w B v xs) (hB : B ≤ w.heap.size) (hn : xs.length ≤ 65536) (hx : ∀ x ∈ xs, -9223372036854775808 ≤ x ∧ x ≤ 9223372036854775807) :
    Calls Tryd.prog 18 #[v] w fun e w' => e = .returned (.tuple #[.string ⟨(textOf xs).toArray⟩, .int .i64 (textE xs)]) ∧ Below w.heap.size w w' := by
  obtain ⟨A, c, rfl, hc1, hm1, ha⟩ := h
  by_cases h0 : 0 < xs.length
  · obtain ⟨b, off, rfl, hb, hc⟩ := ha h0
    exact text_walk b off c xs w h0 hn (by omega) hx hc
  · have e1 : xs = [] := List.eq_nil_of_length_eq_zero (by omega)
    subst e1
    exact (text_empty A c w).mono fun e w' ⟨he, hw⟩ => ⟨he, by rw [hw]; exact Below.refl _ _⟩

/-! ### Cut -/
/-- Where the character at an index begins. -/
def posOf (l : List UInt8) (k : Nat) : Nat := (encA ((runes l).take k)).length
theorem posOf_zero (l : List UInt8) : posOf l 0 = 0 := by simp [posOf, encA_nil]
theorem posOf_all {l : List UInt8} (hv : validD l = true) (k : Nat) (hk : (runes l).length ≤ k) : posOf l k = l.length := by
  rw [posOf, List.take_of_length_le hk, valid_eq hv]
theorem drop_posOf {l : List UInt8} (hv : validD l = true) (k : Nat) : l.drop (posOf l k) = encA ((runes l).drop k) := by
  have h : l = encA ((runes l).take k) ++ encA ((runes l).drop k) := by rw [← encA_append, List.take_append_drop, valid_eq hv]
  unfold posOf
  generalize runes l = r at h ⊢
  rw [h, List.drop_left]
theorem posOf_lt {l : List UInt8} (hv : validD l = true) (k : Nat) : posOf l k < l.length ↔ k < (runes l).length := by
  have h := congrArg List.length (drop_posOf hv k)
  rw [List.length_drop] at h
  constructor
  · intro h1
    rcases Nat.lt_or_ge k (runes l).length with h2 | h2
    · exact h2
    · rw [posOf_all hv k h2] at h1; omega
  · intro h1
    rw [List.drop_eq_getElem_cons h1, encA_cons, List.length_append] at h
    have := (enc_len (runes l)[k]).1
    omega
theorem posOf_step {l : List UInt8} (hv : validD l = true) (k : Nat) (hk : k < (runes l).length) : posOf l (k + 1) = posOf l k + (decodeL (l.drop (posOf l k))).2 := by
  have hc := valid_ch hv (runes l)[k] (List.getElem_mem hk)
  rw [drop_posOf hv k, List.drop_eq_getElem_cons hk, encA_cons, decode_enc _ hc]
  unfold posOf
  rw [List.take_add_one, List.getElem?_eq_getElem hk, encA_append, List.length_append]
  simp [encA_cons, encA_nil]
theorem posOf_mono {l : List UInt8} (a b : Nat) (h : a ≤ b) : posOf l a ≤ posOf l b := by
  have e : (runes l).take b = (runes l).take a ++ ((runes l).take b).drop a := by
    conv => lhs; rw [← List.take_append_drop a ((runes l).take b), List.take_take, Nat.min_eq_left h]
  unfold posOf
  rw [e, encA_append, List.length_append]
  omega
theorem posOf_le {l : List UInt8} (hv : validD l = true) (k : Nat) : posOf l k ≤ l.length := by
  have := posOf_mono (l := l) k (max k (runes l).length) (Nat.le_max_left _ _)
  rw [posOf_all hv _ (Nat.le_max_right _ _)] at this
  exact this
/-- The bytes between two places. -/
def cutOf (l : List UInt8) (a b : Nat) : List UInt8 := encA (((runes l).drop a).take (b - a))
theorem cut_list {s : ByteArray} (hv : validD s.data.toList = true) (a b : Nat) (h : a ≤ b) : (s.extract (posOf s.data.toList a) (posOf s.data.toList b)).data.toList = cutOf s.data.toList a b := by
  rw [ByteArray.data_extract, Array.toList_extract, List.extract_eq_take_drop, drop_posOf hv a]
  have e : (runes s.data.toList).take b = (runes s.data.toList).take a ++ ((runes s.data.toList).drop a).take (b - a) := by
    rw [← List.drop_take]
    conv => lhs; rw [← List.take_append_drop a ((runes s.data.toList).take b), List.take_take, Nat.min_eq_left h]
  have e2 : posOf s.data.toList b - posOf s.data.toList a = (cutOf s.data.toList a b).length := by
    unfold posOf cutOf
    rw [e, encA_append, List.length_append]
    omega
  rw [e2]
  have e3 : encA ((runes s.data.toList).drop a) = cutOf s.data.toList a b ++ encA (((runes s.data.toList).drop a).drop (b - a)) := by
    unfold cutOf
    rw [← encA_append, List.take_append_drop]
  rw [e3, List.take_left']
  rfl

theorem cut_no (s : ByteArray) (a b : Int) (w : World) (hs : s.size ≤ 1000000000000) (hT : Tabs w) (hv : validD s.data.toList = false) :
    Calls Tryd.prog 15 #[.string s, .int .i64 a, .int .i64 b] w fun e w' => e = .returned (.tuple #[.string ⟨#[]⟩, .int .i64 5]) ∧ Below w.heap.size w w' := by
  have C := Lib.hid (valid_no s w hs hT hv)
  clear hT hv
  go_enter Tryd.func15, Tryd.ntmps15
  go_wp2_with (go_at_call 16; refine C.out.mono ?_; rintro e w1 ⟨rfl, hb1⟩)
  go_ret2
  exact ⟨rfl, hb1⟩
theorem count_any (s : ByteArray) (w : World) (hs : s.size ≤ 1000000000000) : Calls Tryd.prog 38 #[.string s] w fun e w' => e = .returned (.int .i64 ((runes s.data.toList).length : Nat)) ∧ Below w.heap.size w w' :=
  (Tryd.utf8_RuneCountInString s w (by omega)).mono fun e w'' ⟨he, pos, hp⟩ => ⟨by rw [he, runeCount_eq], by rw [hp]; exact below_iter _ _ _⟩
theorem cut_range (s : ByteArray) (a b : Int) (w : World) (hs : s.size ≤ 1000000000000) (hT : Tabs w) (hv : validD s.data.toList = true) (h : a < 0 ∨ b < a ∨ (runes s.data.toList).length < b)
    (ha : -9223372036854775808 ≤ a) (ha' : a ≤ 9223372036854775807) (hb : -9223372036854775808 ≤ b) (hb' : b ≤ 9223372036854775807) :
    Calls Tryd.prog 15 #[.string s, .int .i64 a, .int .i64 b] w fun e w' => e = .returned (.tuple #[.string ⟨#[]⟩, .int .i64 3]) ∧ Below w.heap.size w w' := by
  have C := Lib.hid (valid_yes s w hs hT hv)
  have D := Lib.hid (fun w' => count_any s w' hs)
  generalize (runes s.data.toList).length = n at D h
  clear hT hv
  by_cases h1 : a < 0
  · clear h
    go_enter Tryd.func15, Tryd.ntmps15
    go_wp2_with (go_at_call 16; refine C.out.mono ?_; rintro e w1 ⟨rfl, hb1⟩)
    go_ret2
    exact ⟨rfl, hb1⟩
  · by_cases h2 : b < a
    · clear h
      go_enter Tryd.func15, Tryd.ntmps15
      go_wp2_with (go_at_call 16; refine C.out.mono ?_; rintro e w1 ⟨rfl, hb1⟩)
      go_ret2
      exact ⟨rfl, hb1⟩
    · have h3 : (n : Int) < b := by omega
      clear h
      go_enter Tryd.func15, Tryd.ntmps15
      go_wp2_with (first
        | (go_at_call 16; refine C.out.mono ?_; rintro e w1 ⟨rfl, hb1⟩)
        | (go_at_call 38; refine (D.out _).mono ?_; rintro e w2 ⟨rfl, hb2⟩))
      go_ret2
      exact ⟨rfl, hb1.trans (hb2.mono hb1.size)⟩

set_option maxHeartbeats 2000000 in
theorem cut_walk (s : ByteArray) (a b : Nat) (w : World) (hs : s.size ≤ 1000000000000) (hT : Tabs w) (hv : validD s.data.toList = true) (hab : a ≤ b) (hbn : b ≤ (runes s.data.toList).length) :
    Calls Tryd.prog 15 #[.string s, .int .i64 a, .int .i64 b] w fun e w' => e = .returned (.tuple #[.string (s.extract (posOf s.data.toList a) (posOf s.data.toList b)), .int .i64 0]) ∧ Below w.heap.size w w' := by
  have C := Lib.hid (valid_yes s w hs hT hv)
  have D := Lib.hid (fun w' => count_any s w' hs)
  have hrl : (runes s.data.toList).length ≤ s.size := by have := runes_le s.data.toList; simpa using this
  have HS := Lib.hid (fun k => posOf_step hv k)
  have HLt := Lib.hid (fun k => posOf_lt hv k)
  have hsz : s.data.toList.length = s.size := by simp
  rw [hsz] at HLt
  have HAll := Lib.hid (fun k => posOf_all hv k)
  rw [hsz] at HAll
  have HLe := Lib.hid (fun k => posOf_le hv k)
  rw [hsz] at HLe
  have HZ := Lib.hid (posOf_zero s.data.toList)
  have HM := Lib.hid (posOf_mono (l := s.data.toList))
  have HP : Hid (∀ k, posOf s.data.toList (k + 1) = posOf s.data.toList k + (Utf8.decode s (posOf s.data.toList k)).2 ∨ ¬ k < (runes s.data.toList).length) := by
    show ∀ k, _
    intro k
    by_cases hk : k < (runes s.data.toList).length
    · left; rw [HS.out k hk, decodeL_drop]
    · right; exact hk
  obtain ⟨n, hn⟩ : ∃ n, n = (runes s.data.toList).length := ⟨_, rfl⟩
  rw [← hn] at D HLt HAll HP hbn hrl
  obtain ⟨P, hP⟩ : ∃ P : Nat → Nat, P = posOf s.data.toList := ⟨_, rfl⟩
  rw [← hP] at HLt HAll HP HLe HZ HM ⊢
  clear hT hv hn HS hsz hP
  have d1 : decide ((a : Int) < 0) = false := decide_eq_false (by omega)
  have d2 : decide (b < a) = false := decide_eq_false (by omega)
  have d3 : decide (n < b) = false := decide_eq_false (by omega)
  go_enter Tryd.func15, Tryd.ntmps15
  go_wp2_with (first
    | (go_at_call 16; refine C.out.mono ?_; rintro e w1 ⟨rfl, hb1⟩)
    | (go_at_call 38; refine (D.out _).mono ?_; rintro e w2 ⟨rfl, hb2⟩))
  have HB2 := Lib.hid (hb1.trans (hb2.mono hb1.size))
  clear C D hb1 hb2
  go_loopw [8, 9, 10] (fun f l nv wr => ∃ k f0 : Nat, wr = w2.iter s (P k) ∧ k ≤ b ∧ nv = .int .i64 k ∧ l = .int .i64 s.size ∧ f = .int .i64 f0 ∧ Hid ((k ≤ a → f0 = s.size) ∧ (a < k → f0 = P a))) (fun _ _ _ wr => s.size - wr.iterPos w2.heap.size)
  case atStart => exact ⟨0, s.size, by rw [HZ.out], Nat.zero_le _, rfl, rfl, rfl, ⟨fun _ => rfl, fun h => absurd h (by omega)⟩⟩
  case round =>
    obtain ⟨k, f0, rfl, hk, rfl, rfl, rfl, HF⟩ := hrel
    by_cases hkn : k < n
    · have hp : P k < s.size := (HLt.out k).2 hkn
      have hnx : ∀ ty, (Instr.next (.pointer (some ⟨w2.heap.size, 0, none⟩)) true ty).run Tryd.prog (w2.iter s (P k)) = _ := fun ty => run_next_any w2 s (P k) ty hp
      have hwd := Lib.decode_width_pos s (P k) hp
      have hst : Hid (P (k + 1) = P k + (Utf8.decode s (P k)).2) := (HP.out k).resolve_right (fun h => h hkn)
      generalize (Utf8.decode s (P k)).2 = wd at hnx hwd hst
      generalize (Utf8.decode s (P k)).1 = c at hnx
      by_cases hkb : k = b
      · have hb' : ((k : Int) == (b : Int)) = true := by simp [hkb]
        by_cases hka : k = a
        · have ha' : ((k : Int) == (a : Int)) = true := by simp [hka]
          have E1 := Lib.hid hkb
          have E2 := Lib.hid hka
          clear hkb hka
          have hle : P k ≤ s.size := by omega
          go_wp2
          go_ret2
          refine ⟨?_, HB2.out.trans ((below_iter _ _ _).mono HB2.out.size)⟩
          rw [← E1.out, ← E2.out, show s.extract (P k) (P k) = ByteArray.empty by simp]
          rfl
        · have ha' : ((k : Int) == (a : Int)) = false := beq_eq_false_iff_ne.2 (by omega)
          have hf : f0 = P a := HF.out.2 (by omega)
          have hm : P a ≤ P k := HM.out a k (by omega)
          have E1 := Lib.hid hkb
          have hle : P k ≤ s.size := by omega
          have hfl : f0 ≤ P k := by omega
          have EF := Lib.hid hf
          clear hkb hka hf hm
          go_wp2
          go_ret2
          refine ⟨?_, HB2.out.trans ((below_iter _ _ _).mono HB2.out.size)⟩
          rw [← E1.out, ← EF.out]
          rfl
      · have hb' : ((k : Int) == (b : Int)) = false := beq_eq_false_iff_ne.2 (by omega)
        have hkb' : k + 1 ≤ b := by omega
        clear hkb
        by_cases hka : k = a
        · have ha' : ((k : Int) == (a : Int)) = true := by simp [hka]
          have E2 := Lib.hid hka
          clear hka
          go_wp2
          go_roundw
          case rel => exact ⟨k + 1, P k, by rw [hst.out], hkb', by go_num, rfl, rfl, ⟨fun h => absurd h (by have := E2.out; omega), fun _ => by rw [E2.out]⟩⟩
          case measure => simp; omega
        · have ha' : ((k : Int) == (a : Int)) = false := beq_eq_false_iff_ne.2 (by omega)
          have HN := Lib.hid hka
          clear hka
          go_wp2
          go_roundw
          case rel => exact ⟨k + 1, f0, by rw [hst.out], hkb', by go_num, rfl, rfl, ⟨fun h => HF.out.1 (by omega), fun h => HF.out.2 (by have := HN.out; omega)⟩⟩
          case measure => simp; omega
    · have hp : ¬ P k < s.size := fun h => hkn ((HLt.out k).1 h)
      have hnx : ∀ ty, (Instr.next (.pointer (some ⟨w2.heap.size, 0, none⟩)) true ty).run Tryd.prog (w2.iter s (P k)) = _ := fun ty => run_next_end w2 s (P k) ty hp
      have hbk : P b = s.size := HAll.out b (by omega)
      have hf : f0 = P a := by
        rcases Nat.lt_or_ge a k with h | h
        · exact HF.out.2 h
        · rw [HF.out.1 h]; exact (HAll.out a (by omega)).symm
      have hfl : f0 ≤ s.size := by have := HLe.out a; omega
      have EB := Lib.hid hbk
      have EF := Lib.hid hf
      clear hbk hf
      go_wp2
      go_ret2
      refine ⟨?_, HB2.out.trans ((below_iter _ _ _).mono HB2.out.size)⟩
      rw [EB.out, ← EF.out]
      rfl

/-- Cut, as one contract each for its three answers: a cut that is there. -/
theorem cut_yes (s : ByteArray) (a b : Int) (w : World) (hs : s.size ≤ 1000000000000) (hT : Tabs w) (hv : validD s.data.toList = true) (h0 : 0 ≤ a) (hab : a ≤ b) (hbn : b ≤ (runes s.data.toList).length) :
    Calls Tryd.prog 15 #[.string s, .int .i64 a, .int .i64 b] w fun e w' => ∃ t : ByteArray, e = .returned (.tuple #[.string t, .int .i64 0]) ∧ t.data.toList = cutOf s.data.toList a.toNat b.toNat ∧ t.size ≤ s.size ∧ Below w.heap.size w w' := by
  obtain ⟨a, rfl⟩ := Int.eq_ofNat_of_zero_le h0
  obtain ⟨b, rfl⟩ := Int.eq_ofNat_of_zero_le (Int.le_trans h0 hab)
  refine (cut_walk s a b w hs hT hv (by omega) (by omega)).mono fun e w' ⟨he, hb⟩ => ⟨_, he, ?_, ?_, hb⟩
  · exact cut_list hv a b (by omega)
  · rw [ByteArray.size_extract]; omega
end Go.Proofs.YtbfldnppfenbgaaDoor
