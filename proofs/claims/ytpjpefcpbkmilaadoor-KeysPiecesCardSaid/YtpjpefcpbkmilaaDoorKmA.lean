/-
  Make, Split and Valid of the chapter of keys: what they return. Conditions: numbers of 64 bits.
-/
import Derived.Test.YtpjpefcpbkmilaaDoorKmBits
import Derived.Test.YtpjpefcpbkmilaaDoorProg
import Derived.KernelRfl
namespace Go.Proofs.YtpjpefcpbkmilaaDoor
set_option maxRecDepth 100000
variable {G : Nat}
def IsC (c : Int) : Prop := 0 ≤ c ∧ c ≤ 1114111 ∧ ¬(55296 ≤ c ∧ c ≤ 57343)
instance (c : Int) : Decidable (IsC c) := by unfold IsC; infer_instance
def IsB (c : Int) : Prop := IsC c ∨ (2097152 < c ∧ c ≤ 2097179)
instance (c : Int) : Decidable (IsB c) := by unfold IsB; infer_instance
theorem bool_of {b : Bool} {p : Prop} [Decidable p] (h : b = true ↔ p) : Value.bool b = .bool (decide p) := by
  congr 1
  rw [Bool.eq_iff_iff, h, decide_eq_true_iff]
theorem tup2 {ta : Nat → Value} {t u : Nat} {x y x' y' : Int} (h1 : ta t = .int .i64 x) (h2 : ta u = .int .i64 y) (e1 : x = x') (e2 : y = y') : Value.tuple #[ta t, ta u] = .tuple #[.int .i64 x', .int .i64 y'] := by rw [h1, h2, e1, e2]
theorem ret_bw {ta : Nat → Value} {t : Nat} {b : Bool} {p : Prop} [Decidable p] (h : ta t = .bool b) (k : b = true ↔ p) : ta t = .bool (decide p) := by rw [h]; exact bool_of k
theorem is_wc (c : Int) (σ : Mem) : WC G Tryd.prog 38 #[.int .i64 c] σ fun v σ' => v = .bool (decide (IsC c)) ∧ σ' = σ := by
  refine WC.enter (fn := Tryd.f38) Tryd.func38 rfl ?_
  all_goals (refine W.seq ?_; refine W.region ?_)
  all_goals refine RW.val (by kernel_rfl) (by kernel_rfl) rfl (by kernel_rfl) ?_
  all_goals refine RW.nil ?_
  all_goals (refine W.seq ?_; refine W.region ?_)
  all_goals refine RW.val (by kernel_rfl) (by kernel_rfl) rfl (by kernel_rfl) ?_
  all_goals refine RW.val (by kernel_rfl) (by kernel_rfl) rfl (by kernel_rfl) ?_
  all_goals refine RW.val (by kernel_rfl) (by kernel_rfl) rfl (by kernel_rfl) ?_
  all_goals first | (refine RW.val (by rfl) (by kernel_rfl) rfl (by kernel_rfl) ?_) | (refine RW.skip (by rfl) (by kernel_rfl) ?_) | (refine RW.both _ _ rfl rfl rfl (fun h => ?_) (fun h => ?_) <;> (first | (have h := of_decide_eq_true h) | (have h := of_decide_eq_false h) | (have h := eq_of_beq h) | (have h := ne_of_beq_false h) | (simp only [Bool.not_eq_true', Bool.not_eq_false', decide_eq_true_eq, decide_eq_false_iff_not, bne_iff_ne, ne_eq, bne_eq_false_iff_eq] at h) | skip) <;> (try (exfalso; omega)) <;> (first | (refine RW.val (by rfl) (by kernel_rfl) rfl (by kernel_rfl) ?_) | (refine RW.skip (by rfl) (by kernel_rfl) ?_)))
  all_goals first | (refine RW.val (by rfl) (by kernel_rfl) rfl (by kernel_rfl) ?_) | (refine RW.skip (by rfl) (by kernel_rfl) ?_) | (refine RW.both _ _ rfl rfl rfl (fun h => ?_) (fun h => ?_) <;> (first | (have h := of_decide_eq_true h) | (have h := of_decide_eq_false h) | (have h := eq_of_beq h) | (have h := ne_of_beq_false h) | (simp only [Bool.not_eq_true', Bool.not_eq_false', decide_eq_true_eq, decide_eq_false_iff_not, bne_iff_ne, ne_eq, bne_eq_false_iff_eq] at h) | skip) <;> (try (exfalso; omega)) <;> (first | (refine RW.val (by rfl) (by kernel_rfl) rfl (by kernel_rfl) ?_) | (refine RW.skip (by rfl) (by kernel_rfl) ?_)))
  all_goals refine RW.val (by kernel_rfl) (by kernel_rfl) rfl (by kernel_rfl) ?_
  all_goals refine RW.val (by kernel_rfl) (by kernel_rfl) rfl (by kernel_rfl) ?_
  all_goals first | (refine RW.val (by rfl) (by kernel_rfl) rfl (by kernel_rfl) ?_) | (refine RW.skip (by rfl) (by kernel_rfl) ?_) | (refine RW.both _ _ rfl rfl rfl (fun h => ?_) (fun h => ?_) <;> (first | (have h := of_decide_eq_true h) | (have h := of_decide_eq_false h) | (have h := eq_of_beq h) | (have h := ne_of_beq_false h) | (simp only [Bool.not_eq_true', Bool.not_eq_false', decide_eq_true_eq, decide_eq_false_iff_not, bne_iff_ne, ne_eq, bne_eq_false_iff_eq] at h) | skip) <;> (try (exfalso; omega)) <;> (first | (refine RW.val (by rfl) (by kernel_rfl) rfl (by kernel_rfl) ?_) | (refine RW.skip (by rfl) (by kernel_rfl) ?_)))
  all_goals first | (refine RW.val (by rfl) (by kernel_rfl) rfl (by kernel_rfl) ?_) | (refine RW.skip (by rfl) (by kernel_rfl) ?_) | (refine RW.both _ _ rfl rfl rfl (fun h => ?_) (fun h => ?_) <;> (first | (have h := of_decide_eq_true h) | (have h := of_decide_eq_false h) | (have h := eq_of_beq h) | (have h := ne_of_beq_false h) | (simp only [Bool.not_eq_true', Bool.not_eq_false', decide_eq_true_eq, decide_eq_false_iff_not, bne_iff_ne, ne_eq, bne_eq_false_iff_eq] at h) | skip) <;> (try (exfalso; omega)) <;> (first | (refine RW.val (by rfl) (by kernel_rfl) rfl (by kernel_rfl) ?_) | (refine RW.skip (by rfl) (by kernel_rfl) ?_)))
  all_goals first | (refine RW.val (by rfl) (by kernel_rfl) rfl (by kernel_rfl) ?_) | (refine RW.skip (by rfl) (by kernel_rfl) ?_) | (refine RW.both _ _ rfl rfl rfl (fun h => ?_) (fun h => ?_) <;> (first | (have h := of_decide_eq_true h) | (have h := of_decide_eq_false h) | (have h := eq_of_beq h) | (have h := ne_of_beq_false h) | (simp only [Bool.not_eq_true', Bool.not_eq_false', decide_eq_true_eq, decide_eq_false_iff_not, bne_iff_ne, ne_eq, bne_eq_false_iff_eq] at h) | skip) <;> (try (exfalso; omega)) <;> (first | (refine RW.val (by rfl) (by kernel_rfl) rfl (by kernel_rfl) ?_) | (refine RW.skip (by rfl) (by kernel_rfl) ?_)))
  all_goals first | (refine RW.val (by rfl) (by kernel_rfl) rfl (by kernel_rfl) ?_) | (refine RW.skip (by rfl) (by kernel_rfl) ?_) | (refine RW.both _ _ rfl rfl rfl (fun h => ?_) (fun h => ?_) <;> (first | (have h := of_decide_eq_true h) | (have h := of_decide_eq_false h) | (have h := eq_of_beq h) | (have h := ne_of_beq_false h) | (simp only [Bool.not_eq_true', Bool.not_eq_false', decide_eq_true_eq, decide_eq_false_iff_not, bne_iff_ne, ne_eq, bne_eq_false_iff_eq] at h) | skip) <;> (try (exfalso; omega)) <;> (first | (refine RW.val (by rfl) (by kernel_rfl) rfl (by kernel_rfl) ?_) | (refine RW.skip (by rfl) (by kernel_rfl) ?_)))
  all_goals first | (refine RW.val (by rfl) (by kernel_rfl) rfl (by kernel_rfl) ?_) | (refine RW.skip (by rfl) (by kernel_rfl) ?_) | (refine RW.both _ _ rfl rfl rfl (fun h => ?_) (fun h => ?_) <;> (first | (have h := of_decide_eq_true h) | (have h := of_decide_eq_false h) | (have h := eq_of_beq h) | (have h := ne_of_beq_false h) | (simp only [Bool.not_eq_true', Bool.not_eq_false', decide_eq_true_eq, decide_eq_false_iff_not, bne_iff_ne, ne_eq, bne_eq_false_iff_eq] at h) | skip) <;> (try (exfalso; omega)) <;> (first | (refine RW.val (by rfl) (by kernel_rfl) rfl (by kernel_rfl) ?_) | (refine RW.skip (by rfl) (by kernel_rfl) ?_)))
  all_goals first | (refine RW.val (by rfl) (by kernel_rfl) rfl (by kernel_rfl) ?_) | (refine RW.skip (by rfl) (by kernel_rfl) ?_) | (refine RW.both _ _ rfl rfl rfl (fun h => ?_) (fun h => ?_) <;> (first | (have h := of_decide_eq_true h) | (have h := of_decide_eq_false h) | (have h := eq_of_beq h) | (have h := ne_of_beq_false h) | (simp only [Bool.not_eq_true', Bool.not_eq_false', decide_eq_true_eq, decide_eq_false_iff_not, bne_iff_ne, ne_eq, bne_eq_false_iff_eq] at h) | skip) <;> (try (exfalso; omega)) <;> (first | (refine RW.val (by rfl) (by kernel_rfl) rfl (by kernel_rfl) ?_) | (refine RW.skip (by rfl) (by kernel_rfl) ?_)))
  all_goals first | (refine RW.val (by rfl) (by kernel_rfl) rfl (by kernel_rfl) ?_) | (refine RW.skip (by rfl) (by kernel_rfl) ?_) | (refine RW.both _ _ rfl rfl rfl (fun h => ?_) (fun h => ?_) <;> (first | (have h := of_decide_eq_true h) | (have h := of_decide_eq_false h) | (have h := eq_of_beq h) | (have h := ne_of_beq_false h) | (simp only [Bool.not_eq_true', Bool.not_eq_false', decide_eq_true_eq, decide_eq_false_iff_not, bne_iff_ne, ne_eq, bne_eq_false_iff_eq] at h) | skip) <;> (try (exfalso; omega)) <;> (first | (refine RW.val (by rfl) (by kernel_rfl) rfl (by kernel_rfl) ?_) | (refine RW.skip (by rfl) (by kernel_rfl) ?_)))
  all_goals refine RW.val (by kernel_rfl) (by kernel_rfl) rfl (by kernel_rfl) ?_
  all_goals refine RW.val (by kernel_rfl) (by kernel_rfl) rfl (by kernel_rfl) ?_
  all_goals refine RW.nil ?_
  all_goals (refine W.ret ?_; repeat (first | refine seqQ_ret ?_ | refine blkQ_ret ?_ | refine rndQ_ret ?_))
  all_goals (refine endQ_one rfl ?_; refine ⟨ret_bw rfl ?_, rfl⟩; (first | (unfold IsC; (try simp only [decide_eq_true_eq, Bool.not_eq_true', decide_eq_false_iff_not, Bool.false_eq_true, false_iff, true_iff]); omega) | (simp; omega)))
theorem names_wc (σ : Mem) : WC G Tryd.prog 48 #[] σ fun _ σ' => σ' = σ :=
  ⟨_, σ, closed_scall (G := 16) (n := 100) (args := []) (v := (.agg ((["f1", "f2", "f3", "f4", "f5", "f6", "f7", "f8", "f9", "f10", "f11", "f12", "up", "down", "left", "right", "home", "end", "prior", "next", "insert", "delete", "backspace", "return", "tab", "escape", "backtab"] : List String).map fun s => Value.string s.toUTF8).toArray)) (K := noK []) noK_right (by kernel_rfl) rfl (by kernel_rfl) (fun _ _ h => by cases h) (fun _ _ h => by cases h) (fun _ _ h => by cases h) σ (fun _ _ h => by cases h), rfl⟩
theorem isBase_wc (c : Int) (σ : Mem) : WC G Tryd.prog 29 #[.int .i64 c] σ fun v σ' => v = .bool (decide (IsB c)) ∧ σ' = σ := by
  refine WC.enter (fn := Tryd.f29) Tryd.func29 rfl ?_
  all_goals (refine W.seq ?_; refine W.region ?_)
  all_goals refine RW.val (by kernel_rfl) (by kernel_rfl) rfl (by kernel_rfl) ?_
  all_goals refine RW.nil ?_
  all_goals (refine W.seq ?_; refine W.region ?_)
  all_goals refine RW.val (by kernel_rfl) (by kernel_rfl) rfl (by kernel_rfl) ?_
  all_goals (refine RW.call (by kernel_rfl) (by kernel_rfl) rfl rfl rfl (by kernel_rfl) (by kernel_rfl) ?_; refine (is_wc _ _).mono ?_; rintro _ _ ⟨rfl, rfl⟩)
  all_goals refine RW.val (by kernel_rfl) (by kernel_rfl) rfl (by kernel_rfl) ?_
  all_goals first | (refine RW.val (by rfl) (by kernel_rfl) rfl (by kernel_rfl) ?_) | (refine RW.skip (by rfl) (by kernel_rfl) ?_) | (refine RW.both _ _ rfl rfl rfl (fun h => ?_) (fun h => ?_) <;> (first | (have h := of_decide_eq_true h) | (have h := of_decide_eq_false h) | (have h := eq_of_beq h) | (have h := ne_of_beq_false h) | (simp only [Bool.not_eq_true', Bool.not_eq_false', decide_eq_true_eq, decide_eq_false_iff_not, bne_iff_ne, ne_eq, bne_eq_false_iff_eq] at h) | skip) <;> (try (exfalso; unfold IsB IsC at *; omega)) <;> (first | (refine RW.val (by rfl) (by kernel_rfl) rfl (by kernel_rfl) ?_) | (refine RW.skip (by rfl) (by kernel_rfl) ?_)))
  all_goals first | (refine RW.val (by rfl) (by kernel_rfl) rfl (by kernel_rfl) ?_) | (refine RW.skip (by rfl) (by kernel_rfl) ?_) | (refine RW.both _ _ rfl rfl rfl (fun h => ?_) (fun h => ?_) <;> (first | (have h := of_decide_eq_true h) | (have h := of_decide_eq_false h) | (have h := eq_of_beq h) | (have h := ne_of_beq_false h) | (simp only [Bool.not_eq_true', Bool.not_eq_false', decide_eq_true_eq, decide_eq_false_iff_not, bne_iff_ne, ne_eq, bne_eq_false_iff_eq] at h) | skip) <;> (try (exfalso; unfold IsB IsC at *; omega)) <;> (first | (refine RW.val (by rfl) (by kernel_rfl) rfl (by kernel_rfl) ?_) | (refine RW.skip (by rfl) (by kernel_rfl) ?_)))
  all_goals first | (refine RW.val (by rfl) (by kernel_rfl) rfl (by kernel_rfl) ?_) | (refine RW.skip (by rfl) (by kernel_rfl) ?_) | (refine RW.both _ _ rfl rfl rfl (fun h => ?_) (fun h => ?_) <;> (first | (have h := of_decide_eq_true h) | (have h := of_decide_eq_false h) | (have h := eq_of_beq h) | (have h := ne_of_beq_false h) | (simp only [Bool.not_eq_true', Bool.not_eq_false', decide_eq_true_eq, decide_eq_false_iff_not, bne_iff_ne, ne_eq, bne_eq_false_iff_eq] at h) | skip) <;> (try (exfalso; unfold IsB IsC at *; omega)) <;> (first | (refine RW.val (by rfl) (by kernel_rfl) rfl (by kernel_rfl) ?_) | (refine RW.skip (by rfl) (by kernel_rfl) ?_)))
  all_goals first | (refine RW.val (by rfl) (by kernel_rfl) rfl (by kernel_rfl) ?_) | (refine RW.skip (by rfl) (by kernel_rfl) ?_) | (refine RW.both _ _ rfl rfl rfl (fun h => ?_) (fun h => ?_) <;> (first | (have h := of_decide_eq_true h) | (have h := of_decide_eq_false h) | (have h := eq_of_beq h) | (have h := ne_of_beq_false h) | (simp only [Bool.not_eq_true', Bool.not_eq_false', decide_eq_true_eq, decide_eq_false_iff_not, bne_iff_ne, ne_eq, bne_eq_false_iff_eq] at h) | skip) <;> (try (exfalso; unfold IsB IsC at *; omega)) <;> (first | (refine RW.val (by rfl) (by kernel_rfl) rfl (by kernel_rfl) ?_) | (refine RW.skip (by rfl) (by kernel_rfl) ?_)))
  all_goals first | ((refine RW.call (by rfl) (by kernel_rfl) rfl rfl rfl (by kernel_rfl) (by kernel_rfl) ?_; refine (names_wc _).mono ?_; rintro _ _ rfl)) | (refine RW.skip (by rfl) (by kernel_rfl) ?_) | (refine RW.both _ _ rfl rfl rfl (fun h => ?_) (fun h => ?_) <;> (first | (have h := of_decide_eq_true h) | (have h := of_decide_eq_false h) | (have h := eq_of_beq h) | (have h := ne_of_beq_false h) | (simp only [Bool.not_eq_true', Bool.not_eq_false', decide_eq_true_eq, decide_eq_false_iff_not, bne_iff_ne, ne_eq, bne_eq_false_iff_eq] at h) | skip) <;> (try (exfalso; unfold IsB IsC at *; omega)) <;> (first | ((refine RW.call (by rfl) (by kernel_rfl) rfl rfl rfl (by kernel_rfl) (by kernel_rfl) ?_; refine (names_wc _).mono ?_; rintro _ _ rfl)) | (refine RW.skip (by rfl) (by kernel_rfl) ?_)))
  all_goals first | (refine RW.val (by rfl) (by kernel_rfl) rfl (by kernel_rfl) ?_) | (refine RW.skip (by rfl) (by kernel_rfl) ?_) | (refine RW.both _ _ rfl rfl rfl (fun h => ?_) (fun h => ?_) <;> (first | (have h := of_decide_eq_true h) | (have h := of_decide_eq_false h) | (have h := eq_of_beq h) | (have h := ne_of_beq_false h) | (simp only [Bool.not_eq_true', Bool.not_eq_false', decide_eq_true_eq, decide_eq_false_iff_not, bne_iff_ne, ne_eq, bne_eq_false_iff_eq] at h) | skip) <;> (try (exfalso; unfold IsB IsC at *; omega)) <;> (first | (refine RW.val (by rfl) (by kernel_rfl) rfl (by kernel_rfl) ?_) | (refine RW.skip (by rfl) (by kernel_rfl) ?_)))
  all_goals first | (first | (refine RW.valE (by rfl) (by kernel_rfl) rfl (congrArg (Value.int .i64) (wrap_in (by omega) (by omega))) (by kernel_rfl) ?_) | (refine RW.val (by rfl) (by kernel_rfl) rfl (by kernel_rfl) ?_)) | (refine RW.skip (by rfl) (by kernel_rfl) ?_) | (refine RW.both _ _ rfl rfl rfl (fun h => ?_) (fun h => ?_) <;> (first | (have h := of_decide_eq_true h) | (have h := of_decide_eq_false h) | (have h := eq_of_beq h) | (have h := ne_of_beq_false h) | (simp only [Bool.not_eq_true', Bool.not_eq_false', decide_eq_true_eq, decide_eq_false_iff_not, bne_iff_ne, ne_eq, bne_eq_false_iff_eq] at h) | skip) <;> (try (exfalso; unfold IsB IsC at *; omega)) <;> (first | (first | (refine RW.valE (by rfl) (by kernel_rfl) rfl (congrArg (Value.int .i64) (wrap_in (by omega) (by omega))) (by kernel_rfl) ?_) | (refine RW.val (by rfl) (by kernel_rfl) rfl (by kernel_rfl) ?_)) | (refine RW.skip (by rfl) (by kernel_rfl) ?_)))
  all_goals first | (refine RW.val (by rfl) (by kernel_rfl) rfl (by kernel_rfl) ?_) | (refine RW.skip (by rfl) (by kernel_rfl) ?_) | (refine RW.both _ _ rfl rfl rfl (fun h => ?_) (fun h => ?_) <;> (first | (have h := of_decide_eq_true h) | (have h := of_decide_eq_false h) | (have h := eq_of_beq h) | (have h := ne_of_beq_false h) | (simp only [Bool.not_eq_true', Bool.not_eq_false', decide_eq_true_eq, decide_eq_false_iff_not, bne_iff_ne, ne_eq, bne_eq_false_iff_eq] at h) | skip) <;> (try (exfalso; unfold IsB IsC at *; omega)) <;> (first | (refine RW.val (by rfl) (by kernel_rfl) rfl (by kernel_rfl) ?_) | (refine RW.skip (by rfl) (by kernel_rfl) ?_)))
  all_goals first | (refine RW.val (by rfl) (by kernel_rfl) rfl (by kernel_rfl) ?_) | (refine RW.skip (by rfl) (by kernel_rfl) ?_) | (refine RW.both _ _ rfl rfl rfl (fun h => ?_) (fun h => ?_) <;> (first | (have h := of_decide_eq_true h) | (have h := of_decide_eq_false h) | (have h := eq_of_beq h) | (have h := ne_of_beq_false h) | (simp only [Bool.not_eq_true', Bool.not_eq_false', decide_eq_true_eq, decide_eq_false_iff_not, bne_iff_ne, ne_eq, bne_eq_false_iff_eq] at h) | skip) <;> (try (exfalso; unfold IsB IsC at *; omega)) <;> (first | (refine RW.val (by rfl) (by kernel_rfl) rfl (by kernel_rfl) ?_) | (refine RW.skip (by rfl) (by kernel_rfl) ?_)))
  all_goals refine RW.val (by kernel_rfl) (by kernel_rfl) rfl (by kernel_rfl) ?_
  all_goals refine RW.val (by kernel_rfl) (by kernel_rfl) rfl (by kernel_rfl) ?_
  all_goals refine RW.nil ?_
  all_goals (refine W.ret ?_; repeat (first | refine seqQ_ret ?_ | refine blkQ_ret ?_ | refine rndQ_ret ?_))
  all_goals (refine endQ_one rfl ?_; refine ⟨ret_bw rfl ?_, rfl⟩; (unfold IsB IsC at *; (try simp only [decide_eq_true_eq, Bool.not_eq_true', decide_eq_false_iff_not, Bool.false_eq_true, false_iff, true_iff]); omega))
def mkE (b k : Int) : Int :=
  if k = 0 ∨ k = 1 ∨ k = 4 ∨ k = 5 then b + 33554432 * k
  else if (97 ≤ b ∧ b ≤ 122) ∨ (64 ≤ b ∧ b ≤ 95) then b % 32 + 33554432 * (k - 2)
  else if b = 63 then 127 + 33554432 * (k - 2)
  else if b < 32 ∧ b ≠ 9 ∧ b ≠ 13 ∧ b ≠ 27 then b + 33554432 * (k - 2)
  else b + 33554432 * k
theorem ctl (k : Int) (h : k = 2 ∨ k = 3 ∨ k = 6 ∨ k = 7) : iAndNot .i64 (33554432 * k) 67108864 = 33554432 * (k - 2) := by
  rcases h with rfl | rfl | rfl | rfl <;> decide
theorem make_yes (b k : Int) (hb : IsB b) (h0 : 0 ≤ k) (h8 : k < 8) (σ : Mem) : WC G Tryd.prog 10 #[.int .i64 b, .int .i64 (33554432 * k)] σ fun v σ' => v = .tuple #[.int .i64 (mkE b k), .int .i64 0] ∧ σ' = σ := by
  have hk : k = 0 ∨ k = 1 ∨ k = 2 ∨ k = 3 ∨ k = 4 ∨ k = 5 ∨ k = 6 ∨ k = 7 := by omega
  rcases hk with rfl | rfl | rfl | rfl | rfl | rfl | rfl | rfl
  all_goals
    refine WC.enter (fn := Tryd.f10) Tryd.func10 rfl ?_
  all_goals (refine W.seq ?_; refine W.region ?_)
  all_goals refine RW.val (by kernel_rfl) (by kernel_rfl) rfl (by kernel_rfl) ?_
  all_goals refine RW.val (by kernel_rfl) (by kernel_rfl) rfl (by kernel_rfl) ?_
  all_goals refine RW.nil ?_
  all_goals (refine W.seq ?_; refine W.seq ?_; refine W.region ?_)
  all_goals refine RW.val (by kernel_rfl) (by kernel_rfl) rfl (by kernel_rfl) ?_
  all_goals (refine RW.call (by kernel_rfl) (by kernel_rfl) rfl rfl rfl (by kernel_rfl) (by kernel_rfl) ?_; refine (isBase_wc _ _).mono ?_; rintro _ _ ⟨rfl, rfl⟩)
  all_goals refine RW.val (by kernel_rfl) (by kernel_rfl) rfl (by kernel_rfl) ?_
  all_goals refine RW.val (by kernel_rfl) (by kernel_rfl) rfl (by kernel_rfl) ?_
  all_goals first | (refine RW.val (by rfl) (by kernel_rfl) rfl (by kernel_rfl) ?_) | (refine RW.skip (by rfl) (by kernel_rfl) ?_) | (refine RW.both _ _ rfl rfl rfl (fun h => ?_) (fun h => ?_) <;> (first | (have h := of_decide_eq_true h) | (have h := of_decide_eq_false h) | (have h := eq_of_beq h) | (have h := ne_of_beq_false h) | (simp only [Bool.not_eq_true', Bool.not_eq_false', decide_eq_true_eq, decide_eq_false_iff_not, bne_iff_ne, ne_eq, bne_eq_false_iff_eq] at h) | skip) <;> (try (exfalso; first | exact Bool.noConfusion h | (unfold IsB IsC at *; omega) | (exact absurd h (by decide)))) <;> (first | (refine RW.val (by rfl) (by kernel_rfl) rfl (by kernel_rfl) ?_) | (refine RW.skip (by rfl) (by kernel_rfl) ?_)))
  all_goals first | (refine RW.val (by rfl) (by kernel_rfl) rfl (by kernel_rfl) ?_) | (refine RW.skip (by rfl) (by kernel_rfl) ?_) | (refine RW.both _ _ rfl rfl rfl (fun h => ?_) (fun h => ?_) <;> (first | (have h := of_decide_eq_true h) | (have h := of_decide_eq_false h) | (have h := eq_of_beq h) | (have h := ne_of_beq_false h) | (simp only [Bool.not_eq_true', Bool.not_eq_false', decide_eq_true_eq, decide_eq_false_iff_not, bne_iff_ne, ne_eq, bne_eq_false_iff_eq] at h) | skip) <;> (try (exfalso; first | exact Bool.noConfusion h | (unfold IsB IsC at *; omega) | (exact absurd h (by decide)))) <;> (first | (refine RW.val (by rfl) (by kernel_rfl) rfl (by kernel_rfl) ?_) | (refine RW.skip (by rfl) (by kernel_rfl) ?_)))
  all_goals first | (refine RW.val (by rfl) (by kernel_rfl) rfl (by kernel_rfl) ?_) | (refine RW.skip (by rfl) (by kernel_rfl) ?_) | (refine RW.both _ _ rfl rfl rfl (fun h => ?_) (fun h => ?_) <;> (first | (have h := of_decide_eq_true h) | (have h := of_decide_eq_false h) | (have h := eq_of_beq h) | (have h := ne_of_beq_false h) | (simp only [Bool.not_eq_true', Bool.not_eq_false', decide_eq_true_eq, decide_eq_false_iff_not, bne_iff_ne, ne_eq, bne_eq_false_iff_eq] at h) | skip) <;> (try (exfalso; first | exact Bool.noConfusion h | (unfold IsB IsC at *; omega) | (exact absurd h (by decide)))) <;> (first | (refine RW.val (by rfl) (by kernel_rfl) rfl (by kernel_rfl) ?_) | (refine RW.skip (by rfl) (by kernel_rfl) ?_)))
  all_goals refine RW.val (by kernel_rfl) (by kernel_rfl) rfl (by kernel_rfl) ?_
  all_goals refine RW.nil ?_
  all_goals
    refine W.cond rfl (fun h => ?_) (fun h => ?_)
    rotate_right 1
    focus
      (first | (have h := of_decide_eq_true h) | (have h := of_decide_eq_false h) | (have h := eq_of_beq h) | (have h := ne_of_beq_false h) | (simp only [Bool.not_eq_true', Bool.not_eq_false', decide_eq_true_eq, decide_eq_false_iff_not, bne_iff_ne, ne_eq, bne_eq_false_iff_eq] at h) | skip)
      try (exfalso; first | exact Bool.noConfusion h | (unfold IsB IsC at *; omega) | (exact absurd h (by decide)))
      all_goals (refine W.skip ?_)
    rotate_right 1
    focus
      (first | (have h := of_decide_eq_true h) | (have h := of_decide_eq_false h) | (have h := eq_of_beq h) | (have h := ne_of_beq_false h) | (simp only [Bool.not_eq_true', Bool.not_eq_false', decide_eq_true_eq, decide_eq_false_iff_not, bne_iff_ne, ne_eq, bne_eq_false_iff_eq] at h) | skip)
      try (exfalso; first | exact Bool.noConfusion h | (unfold IsB IsC at *; omega) | (exact absurd h (by decide)))
      all_goals (refine W.seq ?_; refine W.region ?_)
      all_goals refine RW.val (by kernel_rfl) (by kernel_rfl) rfl (by kernel_rfl) ?_
      all_goals refine RW.val (by kernel_rfl) (by kernel_rfl) rfl (by kernel_rfl) ?_
      all_goals refine RW.nil ?_
      all_goals (refine W.ret ?_; repeat (first | refine seqQ_ret ?_ | refine blkQ_ret ?_ | refine rndQ_ret ?_))
      all_goals (refine endQ_two rfl ?_; refine ⟨tup2 rfl rfl ?_ rfl, rfl⟩; unfold IsB IsC at hb; (try rw [ctl _ (by omega)]); (try rw [Int.tmod_eq_emod_of_nonneg (by omega)]); rw [iOr_add _ _ (by omega) (by omega) (by omega) (by omega)]; unfold mkE; (repeat' split) <;> omega)
  all_goals (refine W.seq ?_; refine W.seq ?_; refine W.region ?_)
  all_goals refine RW.val (by kernel_rfl) (by kernel_rfl) rfl (by kernel_rfl) ?_
  all_goals refine RW.val (by kernel_rfl) (by kernel_rfl) rfl (by kernel_rfl) ?_
  all_goals refine RW.val (by kernel_rfl) (by kernel_rfl) rfl (by kernel_rfl) ?_
  all_goals refine RW.nil ?_
  all_goals
    refine W.cond rfl (fun h => ?_) (fun h => ?_)
    rotate_right 1
    focus
      (first | (have h := of_decide_eq_true h) | (have h := of_decide_eq_false h) | (have h := eq_of_beq h) | (have h := ne_of_beq_false h) | (simp only [Bool.not_eq_true', Bool.not_eq_false', decide_eq_true_eq, decide_eq_false_iff_not, bne_iff_ne, ne_eq, bne_eq_false_iff_eq] at h) | skip)
      try (exfalso; first | exact Bool.noConfusion h | (unfold IsB IsC at *; omega) | (exact absurd h (by decide)))
      all_goals (refine W.skip ?_)
    rotate_right 1
    focus
      (first | (have h := of_decide_eq_true h) | (have h := of_decide_eq_false h) | (have h := eq_of_beq h) | (have h := ne_of_beq_false h) | (simp only [Bool.not_eq_true', Bool.not_eq_false', decide_eq_true_eq, decide_eq_false_iff_not, bne_iff_ne, ne_eq, bne_eq_false_iff_eq] at h) | skip)
      try (exfalso; first | exact Bool.noConfusion h | (unfold IsB IsC at *; omega) | (exact absurd h (by decide)))
      all_goals (refine W.seq ?_; refine W.region ?_)
      all_goals refine RW.val (by kernel_rfl) (by kernel_rfl) rfl (by kernel_rfl) ?_
      all_goals refine RW.val (by kernel_rfl) (by kernel_rfl) rfl (by kernel_rfl) ?_
      all_goals refine RW.val (by kernel_rfl) (by kernel_rfl) rfl (by kernel_rfl) ?_
      all_goals refine RW.nil ?_
      all_goals (refine W.block ?_)
      all_goals (refine W.seq ?_; refine W.seq ?_; refine W.region ?_)
      all_goals refine RW.val (by kernel_rfl) (by kernel_rfl) rfl (by kernel_rfl) ?_
      all_goals refine RW.val (by kernel_rfl) (by kernel_rfl) rfl (by kernel_rfl) ?_
      all_goals refine RW.val (by kernel_rfl) (by kernel_rfl) rfl (by kernel_rfl) ?_
      all_goals first | (refine RW.val (by rfl) (by kernel_rfl) rfl (by kernel_rfl) ?_) | (refine RW.skip (by rfl) (by kernel_rfl) ?_) | (refine RW.both _ _ rfl rfl rfl (fun h => ?_) (fun h => ?_) <;> (first | (have h := of_decide_eq_true h) | (have h := of_decide_eq_false h) | (have h := eq_of_beq h) | (have h := ne_of_beq_false h) | (simp only [Bool.not_eq_true', Bool.not_eq_false', decide_eq_true_eq, decide_eq_false_iff_not, bne_iff_ne, ne_eq, bne_eq_false_iff_eq] at h) | skip) <;> (try (exfalso; first | exact Bool.noConfusion h | (unfold IsB IsC at *; omega) | (exact absurd h (by decide)))) <;> (first | (refine RW.val (by rfl) (by kernel_rfl) rfl (by kernel_rfl) ?_) | (refine RW.skip (by rfl) (by kernel_rfl) ?_)))
      all_goals first | (refine RW.val (by rfl) (by kernel_rfl) rfl (by kernel_rfl) ?_) | (refine RW.skip (by rfl) (by kernel_rfl) ?_) | (refine RW.both _ _ rfl rfl rfl (fun h => ?_) (fun h => ?_) <;> (first | (have h := of_decide_eq_true h) | (have h := of_decide_eq_false h) | (have h := eq_of_beq h) | (have h := ne_of_beq_false h) | (simp only [Bool.not_eq_true', Bool.not_eq_false', decide_eq_true_eq, decide_eq_false_iff_not, bne_iff_ne, ne_eq, bne_eq_false_iff_eq] at h) | skip) <;> (try (exfalso; first | exact Bool.noConfusion h | (unfold IsB IsC at *; omega) | (exact absurd h (by decide)))) <;> (first | (refine RW.val (by rfl) (by kernel_rfl) rfl (by kernel_rfl) ?_) | (refine RW.skip (by rfl) (by kernel_rfl) ?_)))
      all_goals refine RW.val (by kernel_rfl) (by kernel_rfl) rfl (by kernel_rfl) ?_
      all_goals refine RW.val (by kernel_rfl) (by kernel_rfl) rfl (by kernel_rfl) ?_
      all_goals refine RW.nil ?_
      all_goals
        refine W.cond rfl (fun h => ?_) (fun h => ?_)
        rotate_right 1
        focus
          (first | (have h := of_decide_eq_true h) | (have h := of_decide_eq_false h) | (have h := eq_of_beq h) | (have h := ne_of_beq_false h) | (simp only [Bool.not_eq_true', Bool.not_eq_false', decide_eq_true_eq, decide_eq_false_iff_not, bne_iff_ne, ne_eq, bne_eq_false_iff_eq] at h) | skip)
          try (exfalso; first | exact Bool.noConfusion h | (unfold IsB IsC at *; omega) | (exact absurd h (by decide)))
          all_goals (refine W.region ?_)
          all_goals refine RW.val (by kernel_rfl) (by kernel_rfl) rfl (by kernel_rfl) ?_
          all_goals refine RW.val (by kernel_rfl) (by kernel_rfl) rfl (by kernel_rfl) ?_
          all_goals refine RW.val (by kernel_rfl) (by kernel_rfl) rfl (by kernel_rfl) ?_
          all_goals first | (refine RW.val (by rfl) (by kernel_rfl) rfl (by kernel_rfl) ?_) | (refine RW.skip (by rfl) (by kernel_rfl) ?_) | (refine RW.both _ _ rfl rfl rfl (fun h => ?_) (fun h => ?_) <;> (first | (have h := of_decide_eq_true h) | (have h := of_decide_eq_false h) | (have h := eq_of_beq h) | (have h := ne_of_beq_false h) | (simp only [Bool.not_eq_true', Bool.not_eq_false', decide_eq_true_eq, decide_eq_false_iff_not, bne_iff_ne, ne_eq, bne_eq_false_iff_eq] at h) | skip) <;> (try (exfalso; first | exact Bool.noConfusion h | (unfold IsB IsC at *; omega) | (exact absurd h (by decide)))) <;> (first | (refine RW.val (by rfl) (by kernel_rfl) rfl (by kernel_rfl) ?_) | (refine RW.skip (by rfl) (by kernel_rfl) ?_)))
          all_goals first | (refine RW.val (by rfl) (by kernel_rfl) rfl (by kernel_rfl) ?_) | (refine RW.skip (by rfl) (by kernel_rfl) ?_) | (refine RW.both _ _ rfl rfl rfl (fun h => ?_) (fun h => ?_) <;> (first | (have h := of_decide_eq_true h) | (have h := of_decide_eq_false h) | (have h := eq_of_beq h) | (have h := ne_of_beq_false h) | (simp only [Bool.not_eq_true', Bool.not_eq_false', decide_eq_true_eq, decide_eq_false_iff_not, bne_iff_ne, ne_eq, bne_eq_false_iff_eq] at h) | skip) <;> (try (exfalso; first | exact Bool.noConfusion h | (unfold IsB IsC at *; omega) | (exact absurd h (by decide)))) <;> (first | (refine RW.val (by rfl) (by kernel_rfl) rfl (by kernel_rfl) ?_) | (refine RW.skip (by rfl) (by kernel_rfl) ?_)))
          all_goals refine RW.val (by kernel_rfl) (by kernel_rfl) rfl (by kernel_rfl) ?_
          all_goals refine RW.val (by kernel_rfl) (by kernel_rfl) rfl (by kernel_rfl) ?_
          all_goals refine RW.nil ?_
        rotate_right 1
        focus
          (first | (have h := of_decide_eq_true h) | (have h := of_decide_eq_false h) | (have h := eq_of_beq h) | (have h := ne_of_beq_false h) | (simp only [Bool.not_eq_true', Bool.not_eq_false', decide_eq_true_eq, decide_eq_false_iff_not, bne_iff_ne, ne_eq, bne_eq_false_iff_eq] at h) | skip)
          try (exfalso; first | exact Bool.noConfusion h | (unfold IsB IsC at *; omega) | (exact absurd h (by decide)))
          all_goals (refine W.skip ?_)
      all_goals
        refine W.cond rfl (fun h => ?_) (fun h => ?_)
        rotate_right 1
        focus
          (first | (have h := of_decide_eq_true h) | (have h := of_decide_eq_false h) | (have h := eq_of_beq h) | (have h := ne_of_beq_false h) | (simp only [Bool.not_eq_true', Bool.not_eq_false', decide_eq_true_eq, decide_eq_false_iff_not, bne_iff_ne, ne_eq, bne_eq_false_iff_eq] at h) | skip)
          try (exfalso; first | exact Bool.noConfusion h | (unfold IsB IsC at *; omega) | (exact absurd h (by decide)))
          all_goals (refine W.seq ?_; refine W.region ?_)
          all_goals refine RW.val (by kernel_rfl) (by kernel_rfl) rfl (by kernel_rfl) ?_
          all_goals refine RW.val (by kernel_rfl) (by kernel_rfl) rfl (by kernel_rfl) ?_
          all_goals refine RW.val (by kernel_rfl) (by kernel_rfl) rfl (by kernel_rfl) ?_
          all_goals refine RW.nil ?_
          all_goals
            refine W.cond rfl (fun h => ?_) (fun h => ?_)
            rotate_right 1
            focus
              (first | (have h := of_decide_eq_true h) | (have h := of_decide_eq_false h) | (have h := eq_of_beq h) | (have h := ne_of_beq_false h) | (simp only [Bool.not_eq_true', Bool.not_eq_false', decide_eq_true_eq, decide_eq_false_iff_not, bne_iff_ne, ne_eq, bne_eq_false_iff_eq] at h) | skip)
              try (exfalso; first | exact Bool.noConfusion h | (unfold IsB IsC at *; omega) | (exact absurd h (by decide)))
              all_goals (refine W.seq ?_; refine W.region ?_)
              all_goals refine RW.val (by kernel_rfl) (by kernel_rfl) rfl (by kernel_rfl) ?_
              all_goals refine RW.val (by kernel_rfl) (by kernel_rfl) rfl (by kernel_rfl) ?_
              all_goals refine RW.val (by kernel_rfl) (by kernel_rfl) rfl (by kernel_rfl) ?_
              all_goals first | (refine RW.val (by rfl) (by kernel_rfl) rfl (by kernel_rfl) ?_) | (refine RW.skip (by rfl) (by kernel_rfl) ?_) | (refine RW.both _ _ rfl rfl rfl (fun h => ?_) (fun h => ?_) <;> (first | (have h := of_decide_eq_true h) | (have h := of_decide_eq_false h) | (have h := eq_of_beq h) | (have h := ne_of_beq_false h) | (simp only [Bool.not_eq_true', Bool.not_eq_false', decide_eq_true_eq, decide_eq_false_iff_not, bne_iff_ne, ne_eq, bne_eq_false_iff_eq] at h) | skip) <;> (try (exfalso; first | exact Bool.noConfusion h | (unfold IsB IsC at *; omega) | (exact absurd h (by decide)))) <;> (first | (refine RW.val (by rfl) (by kernel_rfl) rfl (by kernel_rfl) ?_) | (refine RW.skip (by rfl) (by kernel_rfl) ?_)))
              all_goals first | (refine RW.val (by rfl) (by kernel_rfl) rfl (by kernel_rfl) ?_) | (refine RW.skip (by rfl) (by kernel_rfl) ?_) | (refine RW.both _ _ rfl rfl rfl (fun h => ?_) (fun h => ?_) <;> (first | (have h := of_decide_eq_true h) | (have h := of_decide_eq_false h) | (have h := eq_of_beq h) | (have h := ne_of_beq_false h) | (simp only [Bool.not_eq_true', Bool.not_eq_false', decide_eq_true_eq, decide_eq_false_iff_not, bne_iff_ne, ne_eq, bne_eq_false_iff_eq] at h) | skip) <;> (try (exfalso; first | exact Bool.noConfusion h | (unfold IsB IsC at *; omega) | (exact absurd h (by decide)))) <;> (first | (refine RW.val (by rfl) (by kernel_rfl) rfl (by kernel_rfl) ?_) | (refine RW.skip (by rfl) (by kernel_rfl) ?_)))
              all_goals refine RW.val (by kernel_rfl) (by kernel_rfl) rfl (by kernel_rfl) ?_
              all_goals refine RW.val (by kernel_rfl) (by kernel_rfl) rfl (by kernel_rfl) ?_
              all_goals first | (refine RW.val (by rfl) (by kernel_rfl) rfl (by kernel_rfl) ?_) | (refine RW.skip (by rfl) (by kernel_rfl) ?_) | (refine RW.both _ _ rfl rfl rfl (fun h => ?_) (fun h => ?_) <;> (first | (have h := of_decide_eq_true h) | (have h := of_decide_eq_false h) | (have h := eq_of_beq h) | (have h := ne_of_beq_false h) | (simp only [Bool.not_eq_true', Bool.not_eq_false', decide_eq_true_eq, decide_eq_false_iff_not, bne_iff_ne, ne_eq, bne_eq_false_iff_eq] at h) | skip) <;> (try (exfalso; first | exact Bool.noConfusion h | (unfold IsB IsC at *; omega) | (exact absurd h (by decide)))) <;> (first | (refine RW.val (by rfl) (by kernel_rfl) rfl (by kernel_rfl) ?_) | (refine RW.skip (by rfl) (by kernel_rfl) ?_)))
              all_goals first | (refine RW.val (by rfl) (by kernel_rfl) rfl (by kernel_rfl) ?_) | (refine RW.skip (by rfl) (by kernel_rfl) ?_) | (refine RW.both _ _ rfl rfl rfl (fun h => ?_) (fun h => ?_) <;> (first | (have h := of_decide_eq_true h) | (have h := of_decide_eq_false h) | (have h := eq_of_beq h) | (have h := ne_of_beq_false h) | (simp only [Bool.not_eq_true', Bool.not_eq_false', decide_eq_true_eq, decide_eq_false_iff_not, bne_iff_ne, ne_eq, bne_eq_false_iff_eq] at h) | skip) <;> (try (exfalso; first | exact Bool.noConfusion h | (unfold IsB IsC at *; omega) | (exact absurd h (by decide)))) <;> (first | (refine RW.val (by rfl) (by kernel_rfl) rfl (by kernel_rfl) ?_) | (refine RW.skip (by rfl) (by kernel_rfl) ?_)))
              all_goals refine RW.val (by kernel_rfl) (by kernel_rfl) rfl (by kernel_rfl) ?_
              all_goals refine RW.val (by kernel_rfl) (by kernel_rfl) rfl (by kernel_rfl) ?_
              all_goals first | (refine RW.val (by rfl) (by kernel_rfl) rfl (by kernel_rfl) ?_) | (refine RW.skip (by rfl) (by kernel_rfl) ?_) | (refine RW.both _ _ rfl rfl rfl (fun h => ?_) (fun h => ?_) <;> (first | (have h := of_decide_eq_true h) | (have h := of_decide_eq_false h) | (have h := eq_of_beq h) | (have h := ne_of_beq_false h) | (simp only [Bool.not_eq_true', Bool.not_eq_false', decide_eq_true_eq, decide_eq_false_iff_not, bne_iff_ne, ne_eq, bne_eq_false_iff_eq] at h) | skip) <;> (try (exfalso; first | exact Bool.noConfusion h | (unfold IsB IsC at *; omega) | (exact absurd h (by decide)))) <;> (first | (refine RW.val (by rfl) (by kernel_rfl) rfl (by kernel_rfl) ?_) | (refine RW.skip (by rfl) (by kernel_rfl) ?_)))
              all_goals first | (refine RW.val (by rfl) (by kernel_rfl) rfl (by kernel_rfl) ?_) | (refine RW.skip (by rfl) (by kernel_rfl) ?_) | (refine RW.both _ _ rfl rfl rfl (fun h => ?_) (fun h => ?_) <;> (first | (have h := of_decide_eq_true h) | (have h := of_decide_eq_false h) | (have h := eq_of_beq h) | (have h := ne_of_beq_false h) | (simp only [Bool.not_eq_true', Bool.not_eq_false', decide_eq_true_eq, decide_eq_false_iff_not, bne_iff_ne, ne_eq, bne_eq_false_iff_eq] at h) | skip) <;> (try (exfalso; first | exact Bool.noConfusion h | (unfold IsB IsC at *; omega) | (exact absurd h (by decide)))) <;> (first | (refine RW.val (by rfl) (by kernel_rfl) rfl (by kernel_rfl) ?_) | (refine RW.skip (by rfl) (by kernel_rfl) ?_)))
              all_goals refine RW.val (by kernel_rfl) (by kernel_rfl) rfl (by kernel_rfl) ?_
              all_goals refine RW.val (by kernel_rfl) (by kernel_rfl) rfl (by kernel_rfl) ?_
              all_goals refine RW.nil ?_
              all_goals
                refine W.cond rfl (fun h => ?_) (fun h => ?_)
                rotate_right 1
                focus
                  (first | (have h := of_decide_eq_true h) | (have h := of_decide_eq_false h) | (have h := eq_of_beq h) | (have h := ne_of_beq_false h) | (simp only [Bool.not_eq_true', Bool.not_eq_false', decide_eq_true_eq, decide_eq_false_iff_not, bne_iff_ne, ne_eq, bne_eq_false_iff_eq] at h) | skip)
                  try (exfalso; first | exact Bool.noConfusion h | (unfold IsB IsC at *; omega) | (exact absurd h (by decide)))
                  all_goals (refine W.skip ?_)
                rotate_right 1
                focus
                  (first | (have h := of_decide_eq_true h) | (have h := of_decide_eq_false h) | (have h := eq_of_beq h) | (have h := ne_of_beq_false h) | (simp only [Bool.not_eq_true', Bool.not_eq_false', decide_eq_true_eq, decide_eq_false_iff_not, bne_iff_ne, ne_eq, bne_eq_false_iff_eq] at h) | skip)
                  try (exfalso; first | exact Bool.noConfusion h | (unfold IsB IsC at *; omega) | (exact absurd h (by decide)))
                  all_goals (refine W.region ?_)
                  all_goals refine RW.val (by kernel_rfl) (by kernel_rfl) rfl (by kernel_rfl) ?_
                  all_goals refine RW.val (by kernel_rfl) (by kernel_rfl) rfl (by kernel_rfl) ?_
                  all_goals refine RW.nil ?_
            rotate_right 1
            focus
              (first | (have h := of_decide_eq_true h) | (have h := of_decide_eq_false h) | (have h := eq_of_beq h) | (have h := ne_of_beq_false h) | (simp only [Bool.not_eq_true', Bool.not_eq_false', decide_eq_true_eq, decide_eq_false_iff_not, bne_iff_ne, ne_eq, bne_eq_false_iff_eq] at h) | skip)
              try (exfalso; first | exact Bool.noConfusion h | (unfold IsB IsC at *; omega) | (exact absurd h (by decide)))
              all_goals (refine W.region ?_)
              all_goals refine RW.val (by kernel_rfl) (by kernel_rfl) rfl (by kernel_rfl) ?_
              all_goals refine RW.val (by kernel_rfl) (by kernel_rfl) rfl (by kernel_rfl) ?_
              all_goals refine RW.val (by kernel_rfl) (by kernel_rfl) rfl (by kernel_rfl) ?_
              all_goals refine RW.nil ?_
        rotate_right 1
        focus
          (first | (have h := of_decide_eq_true h) | (have h := of_decide_eq_false h) | (have h := eq_of_beq h) | (have h := ne_of_beq_false h) | (simp only [Bool.not_eq_true', Bool.not_eq_false', decide_eq_true_eq, decide_eq_false_iff_not, bne_iff_ne, ne_eq, bne_eq_false_iff_eq] at h) | skip)
          try (exfalso; first | exact Bool.noConfusion h | (unfold IsB IsC at *; omega) | (exact absurd h (by decide)))
          all_goals (refine W.region ?_)
          all_goals refine RW.val (by kernel_rfl) (by kernel_rfl) rfl (by kernel_rfl) ?_
          all_goals refine RW.val (by kernel_rfl) (by kernel_rfl) rfl (by kernel_rfl) ?_
          all_goals refine RW.val (by kernel_rfl) (by kernel_rfl) rfl (by kernel_rfl) ?_
          all_goals refine RW.val (by kernel_rfl) (by kernel_rfl) rfl (by kernel_rfl) ?_
          all_goals refine RW.val (by kernel_rfl) (by kernel_rfl) rfl (by kernel_rfl) ?_
          all_goals refine RW.nil ?_
  all_goals (refine W.seq ?_; refine W.region ?_)
  all_goals refine RW.val (by kernel_rfl) (by kernel_rfl) rfl (by kernel_rfl) ?_
  all_goals refine RW.val (by kernel_rfl) (by kernel_rfl) rfl (by kernel_rfl) ?_
  all_goals refine RW.val (by kernel_rfl) (by kernel_rfl) rfl (by kernel_rfl) ?_
  all_goals refine RW.val (by kernel_rfl) (by kernel_rfl) rfl (by kernel_rfl) ?_
  all_goals refine RW.val (by kernel_rfl) (by kernel_rfl) rfl (by kernel_rfl) ?_
  all_goals refine RW.nil ?_
  all_goals (refine W.ret ?_; repeat (first | refine seqQ_ret ?_ | refine blkQ_ret ?_ | refine rndQ_ret ?_))
  all_goals (refine endQ_two rfl ?_; refine ⟨tup2 rfl rfl ?_ rfl, rfl⟩; unfold IsB IsC at hb; (try rw [ctl _ (by omega)]); (try rw [Int.tmod_eq_emod_of_nonneg (by omega)]); rw [iOr_add _ _ (by omega) (by omega) (by omega) (by omega)]; unfold mkE; (repeat' split) <;> omega)
theorem mkE_split (b k : Int) (hb : IsB b) (h0 : 0 ≤ k) (h8 : k < 8) : ∃ c j, mkE b k = c + 33554432 * j ∧ IsB c ∧ 0 ≤ j ∧ j < 8 ∧ mkE c j = mkE b k ∧ ((c = b ∧ j = k) ∨ ((k = 2 ∨ k = 3 ∨ k = 6 ∨ k = 7) ∧ j = k - 2 ∧ (c = b % 32 ∨ (c = 127 ∧ b = 63)))) := by
  unfold IsB IsC at hb
  by_cases h1 : k = 0 ∨ k = 1 ∨ k = 4 ∨ k = 5
  · refine ⟨b, k, by simp [mkE, h1], by unfold IsB IsC; omega, h0, h8, rfl, .inl ⟨rfl, rfl⟩⟩
  · by_cases h2 : (97 ≤ b ∧ b ≤ 122) ∨ (64 ≤ b ∧ b ≤ 95)
    · refine ⟨b % 32, k - 2, by simp only [mkE, if_neg h1, if_pos h2], by unfold IsB IsC; omega, by omega, by omega, ?_, .inr ⟨by omega, rfl, .inl rfl⟩⟩
      have h3 : k - 2 = 0 ∨ k - 2 = 1 ∨ k - 2 = 4 ∨ k - 2 = 5 := by omega
      simp only [mkE, if_neg h1, if_pos h2, if_pos h3]
    · by_cases h3 : b = 63
      · refine ⟨127, k - 2, by simp only [mkE, if_neg h1, if_neg h2, if_pos h3], by unfold IsB IsC; omega, by omega, by omega, ?_, .inr ⟨by omega, rfl, .inr ⟨rfl, h3⟩⟩⟩
        have h4 : k - 2 = 0 ∨ k - 2 = 1 ∨ k - 2 = 4 ∨ k - 2 = 5 := by omega
        simp only [mkE, if_neg h1, if_neg h2, if_pos h3, if_pos h4]
      · by_cases h4 : b < 32 ∧ b ≠ 9 ∧ b ≠ 13 ∧ b ≠ 27
        · refine ⟨b, k - 2, by simp only [mkE, if_neg h1, if_neg h2, if_neg h3, if_pos h4], by unfold IsB IsC; omega, by omega, by omega, ?_, .inr ⟨by omega, rfl, .inl (by omega)⟩⟩
          have h5 : k - 2 = 0 ∨ k - 2 = 1 ∨ k - 2 = 4 ∨ k - 2 = 5 := by omega
          simp only [mkE, if_neg h1, if_neg h2, if_neg h3, if_pos h4, if_pos h5]
        · exact ⟨b, k, by simp only [mkE, if_neg h1, if_neg h2, if_neg h3, if_neg h4], by unfold IsB IsC; omega, h0, h8, rfl, .inl ⟨rfl, rfl⟩⟩
theorem tup3 {ta : Nat → Value} {t u v : Nat} {x y x' y' : Int} {b b' : Bool} (h1 : ta t = .int .i64 x) (h2 : ta u = .int .i64 y) (h3 : ta v = .bool b) (e1 : x = x') (e2 : y = y') (e3 : b = b') : Value.tuple #[ta t, ta u, ta v] = .tuple #[.int .i64 x', .int .i64 y', .bool b'] := by rw [h1, h2, h3, e1, e2, e3]
theorem split_yes (c j : Int) (hc : IsB c) (h0 : 0 ≤ j) (h8 : j < 8) (hm : mkE c j = c + 33554432 * j) (σ : Mem) : WC G Tryd.prog 12 #[.int .i64 (c + 33554432 * j)] σ fun v σ' => v = .tuple #[.int .i64 c, .int .i64 (33554432 * j), .bool true] ∧ σ' = σ := by
  refine WC.enter (fn := Tryd.f12) Tryd.func12 rfl ?_
  all_goals (refine W.seq ?_; refine W.region ?_)
  all_goals refine RW.val (by kernel_rfl) (by kernel_rfl) rfl (by kernel_rfl) ?_
  all_goals refine RW.val (by kernel_rfl) (by kernel_rfl) rfl (by kernel_rfl) ?_
  all_goals refine RW.val (by kernel_rfl) (by kernel_rfl) rfl (by kernel_rfl) ?_
  all_goals refine RW.nil ?_
  all_goals (refine W.seq ?_; refine W.region ?_)
  all_goals refine RW.val (by kernel_rfl) (by kernel_rfl) rfl (by kernel_rfl) ?_
  all_goals refine RW.valE (by kernel_rfl) (by kernel_rfl) rfl (congrArg (Value.int .i64) (iAndNot_mask c j (by unfold IsB IsC at hc; omega) (by unfold IsB IsC at hc; omega) h0 h8)) (by kernel_rfl) ?_
  all_goals refine RW.val (by kernel_rfl) (by kernel_rfl) rfl (by kernel_rfl) ?_
  all_goals refine RW.valE (by kernel_rfl) (by kernel_rfl) rfl (congrArg (Value.int .i64) (iAnd_mask c j (by unfold IsB IsC at hc; omega) (by unfold IsB IsC at hc; omega) h0 h8)) (by kernel_rfl) ?_
  all_goals refine RW.val (by kernel_rfl) (by kernel_rfl) rfl (by kernel_rfl) ?_
  all_goals refine RW.val (by kernel_rfl) (by kernel_rfl) rfl (by kernel_rfl) ?_
  all_goals refine RW.nil ?_
  all_goals (refine W.seq ?_; refine W.seq ?_; refine W.region ?_)
  all_goals refine RW.val (by kernel_rfl) (by kernel_rfl) rfl (by kernel_rfl) ?_
  all_goals refine RW.val (by kernel_rfl) (by kernel_rfl) rfl (by kernel_rfl) ?_
  all_goals (refine RW.call (by kernel_rfl) (by kernel_rfl) rfl rfl rfl (by kernel_rfl) (by kernel_rfl) ?_; (try rw [iAndNot_mask _ _ (by unfold IsB IsC at *; omega) (by unfold IsB IsC at *; omega) (by assumption) (by assumption)]); (try rw [iAnd_mask _ _ (by unfold IsB IsC at *; omega) (by unfold IsB IsC at *; omega) (by assumption) (by assumption)]);  refine (make_yes c j hc h0 h8 _).mono ?_; rintro _ _ ⟨rfl, rfl⟩)
  all_goals refine RW.val (by kernel_rfl) (by kernel_rfl) rfl (by kernel_rfl) ?_
  all_goals refine RW.val (by kernel_rfl) (by kernel_rfl) rfl (by kernel_rfl) ?_
  all_goals refine RW.val (by kernel_rfl) (by kernel_rfl) rfl (by kernel_rfl) ?_
  all_goals refine RW.val (by kernel_rfl) (by kernel_rfl) rfl (by kernel_rfl) ?_
  all_goals refine RW.val (by kernel_rfl) (by kernel_rfl) rfl (by kernel_rfl) ?_
  all_goals refine RW.nil ?_
  all_goals (refine W.seq ?_; refine W.region ?_)
  all_goals refine RW.val (by kernel_rfl) (by kernel_rfl) rfl (by kernel_rfl) ?_
  all_goals refine RW.val (by kernel_rfl) (by kernel_rfl) rfl (by kernel_rfl) ?_
  all_goals refine RW.val (by kernel_rfl) (by kernel_rfl) rfl (by kernel_rfl) ?_
  all_goals first | (refine RW.val (by rfl) (by kernel_rfl) rfl (by kernel_rfl) ?_) | (refine RW.skip (by rfl) (by kernel_rfl) ?_) | (refine RW.both _ _ rfl rfl rfl (fun h => ?_) (fun h => ?_) <;> (first | (have h := of_decide_eq_true h) | (have h := of_decide_eq_false h) | (have h := eq_of_beq h) | (have h := ne_of_beq_false h) | (simp only [Bool.not_eq_true', Bool.not_eq_false', decide_eq_true_eq, decide_eq_false_iff_not, bne_iff_ne, ne_eq, bne_eq_false_iff_eq] at h) | skip) <;> (try (exfalso; first | exact Bool.noConfusion h | exact h hm | exact absurd hm h | omega)) <;> (first | (refine RW.val (by rfl) (by kernel_rfl) rfl (by kernel_rfl) ?_) | (refine RW.skip (by rfl) (by kernel_rfl) ?_)))
  all_goals first | (refine RW.val (by rfl) (by kernel_rfl) rfl (by kernel_rfl) ?_) | (refine RW.skip (by rfl) (by kernel_rfl) ?_) | (refine RW.both _ _ rfl rfl rfl (fun h => ?_) (fun h => ?_) <;> (first | (have h := of_decide_eq_true h) | (have h := of_decide_eq_false h) | (have h := eq_of_beq h) | (have h := ne_of_beq_false h) | (simp only [Bool.not_eq_true', Bool.not_eq_false', decide_eq_true_eq, decide_eq_false_iff_not, bne_iff_ne, ne_eq, bne_eq_false_iff_eq] at h) | skip) <;> (try (exfalso; first | exact Bool.noConfusion h | exact h hm | exact absurd hm h | omega)) <;> (first | (refine RW.val (by rfl) (by kernel_rfl) rfl (by kernel_rfl) ?_) | (refine RW.skip (by rfl) (by kernel_rfl) ?_)))
  all_goals first | (refine RW.val (by rfl) (by kernel_rfl) rfl (by kernel_rfl) ?_) | (refine RW.skip (by rfl) (by kernel_rfl) ?_) | (refine RW.both _ _ rfl rfl rfl (fun h => ?_) (fun h => ?_) <;> (first | (have h := of_decide_eq_true h) | (have h := of_decide_eq_false h) | (have h := eq_of_beq h) | (have h := ne_of_beq_false h) | (simp only [Bool.not_eq_true', Bool.not_eq_false', decide_eq_true_eq, decide_eq_false_iff_not, bne_iff_ne, ne_eq, bne_eq_false_iff_eq] at h) | skip) <;> (try (exfalso; first | exact Bool.noConfusion h | exact h hm | exact absurd hm h | omega)) <;> (first | (refine RW.val (by rfl) (by kernel_rfl) rfl (by kernel_rfl) ?_) | (refine RW.skip (by rfl) (by kernel_rfl) ?_)))
  all_goals refine RW.val (by kernel_rfl) (by kernel_rfl) rfl (by kernel_rfl) ?_
  all_goals refine RW.nil ?_
  all_goals
    refine W.cond rfl (fun h => ?_) (fun h => ?_)
    rotate_right 1
    focus
      (first | (have h := of_decide_eq_true h) | (have h := of_decide_eq_false h) | (have h := eq_of_beq h) | (have h := ne_of_beq_false h) | (simp only [Bool.not_eq_true', Bool.not_eq_false', decide_eq_true_eq, decide_eq_false_iff_not, bne_iff_ne, ne_eq, bne_eq_false_iff_eq] at h) | skip)
      try (exfalso; first | exact Bool.noConfusion h | exact h hm | exact absurd hm h | omega)
      all_goals (refine W.skip ?_)
    rotate_right 1
    focus
      (first | (have h := of_decide_eq_true h) | (have h := of_decide_eq_false h) | (have h := eq_of_beq h) | (have h := ne_of_beq_false h) | (simp only [Bool.not_eq_true', Bool.not_eq_false', decide_eq_true_eq, decide_eq_false_iff_not, bne_iff_ne, ne_eq, bne_eq_false_iff_eq] at h) | skip)
      try (exfalso; first | exact Bool.noConfusion h | exact h hm | exact absurd hm h | omega)
      all_goals (refine W.seq ?_; refine W.region ?_)
      all_goals refine RW.val (by kernel_rfl) (by kernel_rfl) rfl (by kernel_rfl) ?_
      all_goals refine RW.val (by kernel_rfl) (by kernel_rfl) rfl (by kernel_rfl) ?_
      all_goals refine RW.val (by kernel_rfl) (by kernel_rfl) rfl (by kernel_rfl) ?_
      all_goals refine RW.nil ?_
      all_goals (refine W.ret ?_; repeat (first | refine seqQ_ret ?_ | refine blkQ_ret ?_ | refine rndQ_ret ?_))
      all_goals (refine endQ_three rfl ?_; refine ⟨tup3 rfl rfl rfl rfl rfl rfl, rfl⟩)
  all_goals (refine W.seq ?_; refine W.region ?_)
  all_goals refine RW.val (by kernel_rfl) (by kernel_rfl) rfl (by kernel_rfl) ?_
  all_goals refine RW.val (by kernel_rfl) (by kernel_rfl) rfl (by kernel_rfl) ?_
  all_goals refine RW.val (by kernel_rfl) (by kernel_rfl) rfl (by kernel_rfl) ?_
  all_goals refine RW.val (by kernel_rfl) (by kernel_rfl) rfl (by kernel_rfl) ?_
  all_goals refine RW.val (by kernel_rfl) (by kernel_rfl) rfl (by kernel_rfl) ?_
  all_goals refine RW.nil ?_
  all_goals (refine W.ret ?_; repeat (first | refine seqQ_ret ?_ | refine blkQ_ret ?_ | refine rndQ_ret ?_))
  all_goals (refine endQ_three rfl ?_; refine ⟨tup3 rfl rfl rfl rfl rfl rfl, rfl⟩)
theorem kvalid_yes (c j : Int) (hc : IsB c) (h0 : 0 ≤ j) (h8 : j < 8) (hm : mkE c j = c + 33554432 * j) (σ : Mem) : WC G Tryd.prog 13 #[.int .i64 (c + 33554432 * j)] σ fun v σ' => v = .bool true ∧ σ' = σ := by
  refine WC.enter (fn := Tryd.f13) Tryd.func13 rfl ?_
  all_goals (refine W.seq ?_; refine W.region ?_)
  all_goals refine RW.val (by kernel_rfl) (by kernel_rfl) rfl (by kernel_rfl) ?_
  all_goals refine RW.nil ?_
  all_goals (refine W.seq ?_; refine W.region ?_)
  all_goals refine RW.val (by kernel_rfl) (by kernel_rfl) rfl (by kernel_rfl) ?_
  all_goals (refine RW.call (by kernel_rfl) (by kernel_rfl) rfl rfl rfl (by kernel_rfl) (by kernel_rfl) ?_; refine (split_yes c j hc h0 h8 hm _).mono ?_; rintro _ _ ⟨rfl, rfl⟩)
  all_goals refine RW.val (by kernel_rfl) (by kernel_rfl) rfl (by kernel_rfl) ?_
  all_goals refine RW.val (by kernel_rfl) (by kernel_rfl) rfl (by kernel_rfl) ?_
  all_goals refine RW.val (by kernel_rfl) (by kernel_rfl) rfl (by kernel_rfl) ?_
  all_goals refine RW.val (by kernel_rfl) (by kernel_rfl) rfl (by kernel_rfl) ?_
  all_goals refine RW.val (by kernel_rfl) (by kernel_rfl) rfl (by kernel_rfl) ?_
  all_goals refine RW.val (by kernel_rfl) (by kernel_rfl) rfl (by kernel_rfl) ?_
  all_goals refine RW.val (by kernel_rfl) (by kernel_rfl) rfl (by kernel_rfl) ?_
  all_goals refine RW.nil ?_
  all_goals (refine W.seq ?_; refine W.region ?_)
  all_goals refine RW.val (by kernel_rfl) (by kernel_rfl) rfl (by kernel_rfl) ?_
  all_goals refine RW.val (by kernel_rfl) (by kernel_rfl) rfl (by kernel_rfl) ?_
  all_goals refine RW.nil ?_
  all_goals (refine W.ret ?_; repeat (first | refine seqQ_ret ?_ | refine blkQ_ret ?_ | refine rndQ_ret ?_))
  all_goals (refine endQ_one rfl ?_; exact ⟨rfl, rfl⟩)
end Go.Proofs.YtpjpefcpbkmilaaDoor
