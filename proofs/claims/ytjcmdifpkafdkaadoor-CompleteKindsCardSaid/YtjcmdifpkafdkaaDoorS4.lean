/-
  Walks in pieces; rows that grow by append. Over any program. Conditions: none.
  More rules of the walk: a variable that is made and set; a region of open order in which the rows stand. Over any program. Conditions: none.
  Structs held against one another, in the second memory. Over any program. Conditions: none.
  The walk's rules for ranges over functions. Over any program. Conditions: none.
  The walk where memory only grows: what is made, what is set, what a function's result cells hold. Over any program. Conditions: none.
  What a range's function does when it calls what it was handed. Over any program. Conditions: none.
  What a walk knows of the memory: what is frozen, and a list of rows and grown slices that lie apart from it and from one another. Over any program. Conditions: none.
  The rules of a walk once more, with what the kernel reckons left out: shorter to write. Over any program. Conditions: none.
  Elements of a grown slice: their places, and what they are set to. Over any program. Conditions: none.
  The entries of a memory in another order. Over any program. Conditions: none.
-/
import Derived.Test.YtjcmdifpkafdkaaDoorS3
import Derived.Laws.StructEq
namespace Go.Proofs.YtjcmdifpkafdkaaDoor
variable {P : Program} {G : Nat} {nt : Nat} {rd : Option Nat} {ta : Nat → Value} {σ : Mem} {dm : List DItem}

theorem W.mono {c : Code} {Q Q' : Exit → (Nat → Value) → List DItem → Mem → Prop} (h : W G P rd nt c ta dm σ Q) (k : ∀ ex ta dm σ, Q ex ta dm σ → Q' ex ta dm σ) : W G P rd nt c ta dm σ Q' := by
 obtain ⟨ex, ta', dm', σ', h1, h2⟩ := h
 exact ⟨ex, ta', dm', σ', h1, k _ _ _ _ h2⟩
def blkOf : Value → Option Nat
 | .slice (some ⟨b, _, _⟩) _ _ => some b
 | _ => none
inductive GRow (G : Nat) (σ : Mem) (e : TypeId) (s : Nat) : Value → Nat → List Value → Prop
 | nil : GRow G σ e s (.slice none 0 0) 0 []
 | row {q l c : Nat} {r : Row} {xs : List Value} (hq : G ≤ q) (hr : σ.get q = some (.row r)) (ht : r.t = e) (hc : r.cs.length = c * s) (hl : l ≤ c) (hx : r.cs.take (l * s) = xs) : GRow G σ e s (.slice (some ⟨q, 0, some s⟩) l c) l xs
theorem GRow.keep {σ' : Mem} {e : TypeId} {s l : Nat} {v : Value} {xs : List Value} (h : GRow G σ e s v l xs) (hk : ∀ b, blkOf v = some b → σ'.get b = σ.get b) : GRow G σ' e s v l xs := by
 cases h with
 | nil => exact .nil
 | row hq hr ht hc hl hx => exact .row hq (by rw [hk _ rfl]; exact hr) ht hc hl hx
theorem GRow.lt {e : TypeId} {s l : Nat} {v : Value} {xs : List Value} (h : GRow G σ e s v l xs) {b : Nat} (hb : blkOf v = some b) : G ≤ b ∧ b < σ.next := by
 cases h with
 | nil => cases hb
 | row hq hr => cases hb; exact ⟨hq, Mem.lt hr⟩
theorem GRow.is {e : TypeId} {s l : Nat} {v : Value} {xs : List Value} (h : GRow G σ e s v l xs) {b : Nat} (hb : blkOf v = some b) : ∃ r, σ.get b = some (.row r) ∧ r.t = e := by
 cases h with
 | nil => cases hb
 | row hq hr ht => cases hb; exact ⟨_, hr, ht⟩
theorem GRow.length {e : TypeId} {s l : Nat} {v : Value} {xs : List Value} (h : GRow G σ e s v l xs) : xs.length = l * s := by
 cases h with
 | nil => simp
 | row hq hr ht hc hl hx =>
  rw [← hx, List.length_take, hc]
  exact Nat.min_eq_left (Nat.mul_le_mul_right _ hl)
theorem GRow.sl {e : TypeId} {s l : Nat} {v : Value} {xs : List Value} (h : GRow G σ e s v l xs) : Sl σ s v xs := by
 have hlen := h.length
 cases h with
 | nil => exact .nil
 | row hq hr ht hc hl hx =>
  refine .some hr hlen fun i x hi => ?_
  rw [← hx, List.getElem?_take] at hi
  split at hi
  ·simpa using hi
  ·cases hi
theorem grow_append {e : TypeId} {s l n : Nat} {v x : Value} {xs ys : List Value} {t u : TypeId} {d : TypeDesc} {i : TypeInfo} {z : Value} (h : GRow G σ e s v l xs) (hG : G ≤ σ.next) (ht : uT P t = some (.slice e)) (hu : uT P u = some d) (hi : iT P e = some i) (hz : i.zero = some z) (hzs : z.cells.size = i.size) (hs : i.size = s) (hs0 : 0 < s)
    (hsrc : srcG d i z σ x = some (n, ys)) (hn : 0 < n) (hone : ys.all (·.oneCell') = true) (hb : l + n ≤ 1000000000 ∧ (l + n) * i.bytes ≤ 1000000000) :
    ∃ v' cmd, appendF G P σ t u v x = some (v', cmd) ∧ GRow G (cmd.app σ) e s v' (l + n) (xs ++ ys) ∧ σ.next ≤ (cmd.app σ).next ∧ (cmd.app σ).abs = σ.abs ∧ (∀ b y, σ.get b = some y → blkOf v ≠ some b → (cmd.app σ).get b = some y) ∧ (blkOf v' = blkOf v ∨ blkOf v' = some σ.next) := by
  have hyl := srcG_len hsrc
  rw [hs] at hyl
  have hn0 : ¬ n = 0 := by omega
  have hcond : z.cells.size = i.size ∧ 0 < i.size := ⟨hzs, by omega⟩
  cases h with
  | nil =>
    refine ⟨.slice (some ⟨σ.next, 0, some s⟩) n n, .push (.row ⟨ys, e, true⟩), ?_, ?_⟩
    · unfold appendF
      simp only [ht, hu, hi, hz, hcond, hsrc, and_self, if_true, if_neg hn0]
      rw [if_pos (by simpa using hb), hs]
    · refine ⟨?_, by simp [MCmd.app, Mem.push], rfl, fun b y hy _ => get_push_old hy, .inr rfl⟩
      simp only [Nat.zero_add, List.nil_append]
      exact .row (by omega) get_push rfl (by simpa using hyl) (Nat.le_refl _) (by rw [← hyl, List.take_length])
  | @row q _ c r _ hq hr hte hc hl hx =>
    have hls : l * s ≤ c * s := Nat.mul_le_mul_right _ hl
    by_cases hfit : l + n ≤ c
    · have hls2 : (l + n) * s ≤ c * s := Nat.mul_le_mul_right _ hfit
      have hadd : (l + n) * s = l * s + n * s := Nat.add_mul _ _ _
      refine ⟨.slice (some ⟨q, 0, some s⟩) (l + n) c, .put q (.row ⟨overL r.cs (0 + l * s) ys, r.t, r.g⟩), ?_, ?_⟩
      · unfold appendF
        simp only [ht, hu, hi, hz, hcond, hsrc, and_self, if_true, if_neg hn0, hr, if_pos hfit]
        rw [if_pos ⟨hq, by rw [hs, hyl, hc]; omega, hone⟩, hs]
      · have hov : overL r.cs (l * s) ys = r.cs.take (l * s) ++ ys ++ r.cs.drop (l * s + ys.length) := rfl
        refine ⟨?_, Nat.le_refl _, rfl, fun b y hy hne => get_put_ne hy (fun e => hne (by rw [e]; rfl)), .inl rfl⟩
        rw [Nat.zero_add]
        refine .row hq (get_put hr) hte ?_ hfit ?_
        · show (overL r.cs (l * s) ys).length = _
          rw [hov]
          simp only [List.length_append, List.length_take, List.length_drop]
          omega
        · show (overL r.cs (l * s) ys).take _ = _
          rw [hov, hx]
          have hxl : xs.length = l * s := by rw [← hx, List.length_take]; omega
          rw [show (l + n) * s = (xs ++ ys).length by rw [List.length_append]; omega, List.take_left']
          rfl
    · refine ⟨.slice (some ⟨σ.next, 0, some s⟩) (l + n) (l + n), .kpush q (.row ⟨(r.cs.drop 0).take (l * s) ++ ys, e, true⟩), ?_, ?_⟩
      · unfold appendF
        simp only [ht, hu, hi, hz, hcond, hsrc, and_self, if_true, if_neg hn0, hr, if_neg hfit]
        rw [if_pos ⟨hb.1, hb.2, by rw [hs, hc]; omega⟩, if_pos ⟨hs.symm, hq, hte, hone⟩, hs]
      · have hxl : xs.length = l * s := by rw [← hx, List.length_take]; omega
        have hnx : (σ.kill q).next = σ.next := rfl
        refine ⟨?_, by simp [MCmd.app, Mem.push, Mem.kill], rfl, fun b y hy hne => get_push_old (get_kill_ne hy (fun e => hne (by rw [e]; rfl))), .inr rfl⟩
        refine .row (r := ⟨(r.cs.drop 0).take (l * s) ++ ys, e, true⟩) (by omega) ?_ rfl ?_ (Nat.le_refl _) ?_
        · have := get_push (σ := σ.kill q) (x := .row ⟨(r.cs.drop 0).take (l * s) ++ ys, e, true⟩)
          rw [hnx] at this
          exact this
        · simp only [List.drop_zero, hx, List.length_append, hxl, hyl, Nat.add_mul]
        · simp only [List.drop_zero, hx]
          rw [show (l + n) * s = (xs ++ ys).length by rw [List.length_append, hxl, hyl, Nat.add_mul], List.take_length]
end Go.Proofs.YtjcmdifpkafdkaaDoor
namespace Go.Proofs.YtjcmdifpkafdkaaDoor
variable {P : Program} {G : Nat} {nt : Nat} {rd : Option Nat} {ops : Array Oper} {l : List Oper} {ta : Nat → Value} {σ : Mem} {dm : List DItem} {rs : List (Rec × Mem)}
section
variable {K : (Nat → Value) → Mem → Prop} {o1 o2 : Oper}
end
section
variable {K : List (Rec × Mem) → (Nat → Value) → Mem → Prop} {o : Oper}
theorem RW.len {c : Call} {x : Operand} {t : TypeId} {v : Value} (hw : wantedT ops ta o = true) (hk : opndOk G o = true) (ho : o.op = .call c) (hc : c.callee = .builtin .len) (ha : c.args = #[x]) (ht : c.argTypes = #[t]) (hx : lenF P t (oper2 ta x) = some v) (hd : dstOk nt o.dst = true)
    (h : RW G P nt ops l (putO ta o.dst v) σ ((.val v, σ) :: rs) K) : RW G P nt ops (o :: l) ta σ rs K :=
  RW.vop hw hk (vop_len ho hc ha ht hx) hd h
theorem RW.cut {x : Operand} {hi : Operand} {t : TypeId} {v : Value} (hw : wantedT ops ta o = true) (hk : opndOk G o = true) (ho : o.op = .slice t x none (some hi) none) (hx : sliceF P t (oper2 ta x) none (some (oper2 ta hi)) none = some v) (hd : dstOk nt o.dst = true)
    (h : RW G P nt ops l (putO ta o.dst v) σ ((.val v, σ) :: rs) K) : RW G P nt ops (o :: l) ta σ rs K :=
  RW.vop hw hk (vop_slice ho hx) hd h
end
noncomputable def infoB (P : Program) (e : TypeId) (s m : Nat) : Bool := match iT P e with
 | some i => (match i.zero with
  | some z => Nat.beq z.cells.size i.size && Nat.beq i.size s && Nat.ble i.bytes m
  | none => false)
 | none => false
theorem infoB_ok {e : TypeId} {s m : Nat} (h : infoB P e s m = true) : ∃ i z, iT P e = some i ∧ i.zero = some z ∧ z.cells.size = i.size ∧ i.size = s ∧ i.bytes ≤ m := by
 unfold infoB at h
 split at h
 ·rename_i i hi
  split at h
  ·rename_i z hz
   simp only [Bool.and_eq_true] at h
   exact ⟨i, z, hi, hz, Nat.eq_of_beq_eq_true h.1.1, Nat.eq_of_beq_eq_true h.1.2, Nat.le_of_ble_eq_true h.2⟩
  ·cases h
 ·cases h
theorem GRow.len {e : TypeId} {s n : Nat} {v : Value} {xs : List Value} {t : TypeId} (h : GRow G σ e s v n xs) (ht : uT P t = some (.slice e)) : lenF P t v = some (.int .i64 n) := by
 unfold lenF
 cases h <;> simp only [ht]
theorem GRow.some {e : TypeId} {s n : Nat} {v : Value} {xs : List Value} (h : GRow G σ e s v n xs) (hn : 0 < n) : ∃ q c r, v = .slice (.some ⟨q, 0, .some s⟩) n c ∧ σ.get q = .some (.row r) ∧ G ≤ q ∧ ∀ (i : Nat) x, xs[i]? = .some x → r.cs[i]? = .some x := by
 cases h with
 | nil => omega
 | @row q _ c r _ hq hr ht hc hl hx =>
  refine ⟨q, c, r, rfl, hr, hq, fun i x hi => ?_⟩
  rw [← hx, List.getElem?_take] at hi
  split at hi
  ·exact hi
  ·cases hi
def AllE (b : Nat) (x : Blk2) : List (Rec × Mem) → Prop
 | [] => True
 | (r, e) :: l => (r.isE = true → e.get b = some x) ∧ AllE b x l
theorem stages_row {b n : Nat} {x : Blk2} {σ2 : Mem} (h2 : σ2.get b = some x) : ∀ (l : List (Rec × Mem)) (j : Nat), AllE b x l → ∀ s ∈ stagesR l j n σ2, s.2.get b = some x
 | [], j, _, s, hs => by
  simp only [stagesR, List.mem_singleton] at hs
  subst hs
  exact h2
 | (r, e) :: l, j, h, s, hs => by
  simp only [stagesR] at hs
  cases hr : r.isE with
  | true =>
   rw [hr] at hs
   rcases List.mem_cons.1 hs with h1 | h1
   ·subst h1; exact h.1 hr
   ·exact stages_row h2 l (j + 1) h.2 s h1
  | false =>
   rw [hr] at hs
   exact stages_row h2 l (j + 1) h.2 s hs
theorem nB {p : Prop} (h : false = true) : p := Bool.noConfusion h
theorem dyn_row {b n j : Nat} {x : Row} {σ2 e : Mem} {l : List (Rec × Mem)} {q : Prop} {p : (Nat × Mem) → Prop} (h0 : e.get b = some (.row x)) (h2 : σ2.get b = some (.row x)) (h : AllE b (.row x) l) : q ∨ ∃ row, e.get b = some (.row row) ∧ ∀ s ∈ stagesR l j n σ2, p s → s.2.get b = some (.row row) :=
 .inr ⟨x, h0, fun s hs _ => stages_row h2 l j h s hs⟩
end Go.Proofs.YtjcmdifpkafdkaaDoor
namespace Go.Proofs.YtjcmdifpkafdkaaDoor
variable {P : Program} {o : Oper} {ρ : Operand → Value}

end Go.Proofs.YtjcmdifpkafdkaaDoor
namespace Go.Proofs.YtjcmdifpkafdkaaDoor
variable {P : Program} {G : Nat} {nt : Nat} {rd : Option Nat} {ops : Array Oper} {l : List Oper} {ta : Nat → Value} {σ : Mem} {dm : List DItem} {rs : List (Rec × Mem)}

abbrev rdy (nt : Nat) (ta : Nat → Value) (ps : Array Tmp) (as bo : Code) (df : Nat) : Blk2 := .loop .ready none nt ta ps as bo df
theorem W.range {g : Operand} {ps : Array Tmp} {as bo : Code} {f : FuncId} {fa ca : Array Value} {Q : Exit → (Nat → Value) → List DItem → Mem → Prop} (hg : oper2 ta g = .func (.func f) fa ca) (hgl : ∀ i, g ≠ .global i) (hgc : ∀ v, g ≠ .const v) (hp : plainFn P f = true)
    (h : WC G P f (fa ++ #[.func (.yield (σ.next + 1)) #[] #[]] ++ ca) ((σ.push (.defs true)).push (rdy nt ta ps as bo σ.next)) fun _ σ2 => ∃ st pe nt' ta' ps' as' bo' df' ex, σ2.get (σ.next + 1) = some (.loop st pe nt' ta' ps' as' bo' df') ∧ (st == .busy) = false ∧ leftBy pe = some ex ∧
      Q ex ta (.mark σ.next :: dm) (σ2.put (σ.next + 1) (.loop .exhausted pe nt' ta' ps' as' bo' df'))) : W G P none nt (.rangeFunc g ps as bo) ta dm σ Q := by
  obtain ⟨v, σ2, h1, st, pe, nt', ta', ps', as', bo', df', ex, h2, h3, h4, h5⟩ := h
  exact ⟨ex, ta, _, _, SCode.range hg hgl hgc hp rfl h1 h2 h3 h4, h5⟩
theorem RW.yield {o : Oper} {K : List (Rec × Mem) → (Nat → Value) → Mem → Prop} {c : Call} {x : Operand} {b ntL : Nat} {st : LoopState} {pe : Option Code} {taL : Nat → Value} {ps : Array Tmp} {as bo : Code} {df : Nat} (hw : wantedT ops ta o = true) (hk : opndOk G o = true) (ho : o.op = .call c) (hc : c.callee = .value x) (hx : oper2 ta x = .func (.yield b) #[] #[]) (hl : G ≤ b)
    (h0 : σ.get b = some (.loop st pe ntL taL ps as bo df)) (hsz : c.args.size = ps.size) (hps : ∀ p ∈ ps.toList, p < ntL) (hd : dstOk nt o.dst = true)
    (h : W G P (some b) ntL as (setPs taL ps.toList (c.args.toList.map (oper2 ta))) [] σ fun ex ta2 dm1 σ1 => ex = .normal ∧ ∃ pe1 nt1 ta1 ps1 as1 bo1 df1, σ1.get b = some (.loop .ready pe1 nt1 ta1 ps1 as1 bo1 df1) ∧
      W G P (some b) ntL bo ta2 dm1 (σ1.put b (.loop .busy pe1 nt1 ta1 ps1 as1 bo1 df1)) fun ex3 _ _ σ3 => ∃ st3 pe3 nt3 ta4 ps3 as3 bo3 df3 r sn pn, σ3.get b = some (.loop st3 pe3 nt3 ta4 ps3 as3 bo3 df3) ∧ roundOut ex3 = some (r, sn, pn) ∧
        RW G P nt ops l (putO ta o.dst (.bool r)) (σ3.put b (.loop sn pn nt3 ta4 ps3 as3 bo3 df3)) ((.eff (.bool r), σ) :: rs) K) : RW G P nt ops (o :: l) ta σ rs K := by
  obtain ⟨ex, ta2, dm1, σ1, h1, rfl, pe1, nt1, ta1, ps1, as1, bo1, df1, h2, ex3, ta3, dm3, σ3, h3, st3, pe3, nt3, ta4, ps3, as3, bo3, df3, r, sn, pn, h4, h5, h6⟩ := h
  exact RW.eff hw hk (eop_yield ho hc hx hl h0 hsz hps h1 h2 h3 h4 h5) hd h6
def endQD (G : Nat) (P : Program) (rv : List ResultVar) (R : Value → Mem → Prop) (ex : Exit) (ta : Nat → Value) (dm : List DItem) (σ : Mem) : Prop := exOk ex = true ∧ ∃ σ2, Shut G P dm σ σ2 ∧ ∃ vs, resL P ta σ2 rv = some vs ∧ R (tupV vs) σ2
theorem WC.enterD {f : FuncId} {args : Array Value} {fn : Func} {c : Code} {R : Value → Mem → Prop} (hf : P.funcs[f]? = some fn) (hb : fn.body = some c) (h : W G P none (args.size + (fn.ntmps - args.size)) c (fun t => args.getD t undef) [] σ (endQD G P fn.results.toList R)) : WC G P f args σ R := by
 obtain ⟨ex, ta', dm', σ', h1, h2, σ2, h0, vs, h3, h4⟩ := h
 have hex : ex = .normal ∨ ex = .ret := by cases ex <;> simp [exOk] at h2 <;> simp
 exact ⟨_, σ2, SCall.of_code hf hb h1 hex h0 (sres h3), h4⟩
end Go.Proofs.YtjcmdifpkafdkaaDoor
namespace Go.Proofs.YtjcmdifpkafdkaaDoor
variable {P : Program} {G : Nat} {nt : Nat} {rd : Option Nat} {ops : Array Oper} {l : List Oper} {ta : Nat → Value} {σ : Mem} {dm : List DItem} {rs : List (Rec × Mem)}

structure Grow (σ σ' : Mem) : Prop where
 old : ∀ b y, σ.get b = some y → σ'.get b = some y
 nx : σ.next ≤ σ'.next
 abs : σ'.abs = σ.abs
theorem Grow.refl (σ : Mem) : Grow σ σ := ⟨fun _ _ h => h, Nat.le_refl _, rfl⟩
theorem Grow.trans {σ1 σ2 σ3 : Mem} (h : Grow σ1 σ2) (k : Grow σ2 σ3) : Grow σ1 σ3 := ⟨fun b y hy => k.old b y (h.old b y hy), Nat.le_trans h.nx k.nx, k.abs.trans h.abs⟩
structure Set1 (σ σ' : Mem) (b : Nat) (x : Blk2) : Prop where
 at_ : σ'.get b = some x
 old : ∀ c y, c ≠ b → σ.get c = some y → σ'.get c = some y
 nx : σ'.next = σ.next
 abs : σ'.abs = σ.abs
theorem Grow.set {σ0 σ1 σ2 : Mem} {b : Nat} {x : Blk2} (h : Grow σ0 σ1) (k : Set1 σ1 σ2 b x) (hb : σ0.next ≤ b) : Grow σ0 σ2 :=
 ⟨fun c y hy => k.old c y (by have := Mem.lt hy; omega) (h.old c y hy), by rw [k.nx]; exact h.nx, k.abs.trans h.abs⟩
section
variable {K : (Nat → Value) → Mem → Prop} {o : Oper}
end
theorem resL_cell {a : Tmp} {t : TypeId} {b n : Nat} {r : Row} {d : TypeDesc} {v : Value} {vs : List Value} {rv : List ResultVar} (ha : ta a = .pointer (some ⟨b, 0, none⟩)) (hr : σ.get b = some (.row r)) (hd : uT P t = some d) (hn : (if isAggD d then sizeT P t else some 1) = some n) (hl : r.cs.length = n) (hv : varF P t r.cs = some v) (h : resL P ta σ rv = some vs) : resL P ta σ (.cell a t :: rv) = some (v :: vs) := by
 unfold resL
 simp only [ha, hr, hd, hn, Nat.zero_add, List.drop_zero]
 rw [if_pos (by omega), ← hl, List.take_length, hv, h]
theorem resL_tmp {t : Tmp} {vs : List Value} {rv : List ResultVar} (h : resL P ta σ rv = some vs) : resL P ta σ (.tmp t :: rv) = some (ta t :: vs) := by
 unfold resL
 rw [h]
theorem endG {R : Value → Mem → Prop} {ex : Exit} {rv : List ResultVar} {vs : List Value} (he : exOk ex = true) (hr : resL P ta σ rv = some vs) (h : R (tupV vs) σ) : endQ P rv R ex ta [] σ := ⟨he, rfl, vs, hr, h⟩
theorem endGD0 {R : Value → Mem → Prop} {ex : Exit} {rv : List ResultVar} {vs : List Value} (he : exOk ex = true) (hr : resL P ta σ rv = some vs) (h : R (tupV vs) σ) : endQD G P rv R ex ta [] σ := ⟨he, _, .nil _, vs, hr, h⟩
end Go.Proofs.YtjcmdifpkafdkaaDoor
namespace Go.Proofs.YtjcmdifpkafdkaaDoor
variable {P : Program} {G : Nat} {nt : Nat} {ops : Array Oper} {l : List Oper} {ta : Nat → Value} {σ : Mem} {rs : List (Rec × Mem)}
def Yield (G : Nat) (P : Program) (b : Nat) (args : List Value) (σ : Mem) (R : Bool → Mem → Prop) : Prop :=
 ∃ st pe ntL taL ps as bo df, σ.get b = some (.loop st pe ntL taL ps as bo df) ∧ args.length = ps.size ∧ (∀ p ∈ ps.toList, p < ntL) ∧
  W G P (some b) ntL as (setPs taL ps.toList args) [] σ fun ex ta2 dm1 σ1 => ex = .normal ∧ ∃ pe1 nt1 ta1 ps1 as1 bo1 df1, σ1.get b = some (.loop .ready pe1 nt1 ta1 ps1 as1 bo1 df1) ∧
   W G P (some b) ntL bo ta2 dm1 (σ1.put b (.loop .busy pe1 nt1 ta1 ps1 as1 bo1 df1)) fun ex3 _ _ σ3 => ∃ st3 pe3 nt3 ta4 ps3 as3 bo3 df3 r sn pn, σ3.get b = some (.loop st3 pe3 nt3 ta4 ps3 as3 bo3 df3) ∧ roundOut ex3 = some (r, sn, pn) ∧ R r (σ3.put b (.loop sn pn nt3 ta4 ps3 as3 bo3 df3))
theorem Yield.mono {b : Nat} {args : List Value} {R R' : Bool → Mem → Prop} (h : Yield G P b args σ R) (k : ∀ r σ', R r σ' → R' r σ') : Yield G P b args σ R' := by
 obtain ⟨st, pe, ntL, taL, ps, as_, bo, df, y0, y1, y2, y3⟩ := h
 exact ⟨st, pe, ntL, taL, ps, as_, bo, df, y0, y1, y2, y3.mono fun ex ta2 dm1 σ1 ⟨e1, pe1, nt1, ta1, ps1, as1, bo1, df1, e2, e3⟩ => ⟨e1, pe1, nt1, ta1, ps1, as1, bo1, df1, e2, e3.mono fun ex3 _ _ σ3 ⟨st3, pe3, nt3, ta4, ps3, as3, bo3, df3, r, sn, pn, e4, e5, e6⟩ => ⟨st3, pe3, nt3, ta4, ps3, as3, bo3, df3, r, sn, pn, e4, e5, k _ _ e6⟩⟩⟩
theorem Yield.of {b ntL : Nat} {taL : Nat → Value} {ps : Array Tmp} {as bo : Code} {df : Nat} {args : List Value} {R : Bool → Mem → Prop} (h0 : σ.get b = some (rdy ntL taL ps as bo df)) (h1 : args.length = ps.size) (h2 : ∀ p ∈ ps.toList, p < ntL)
    (h : W G P (some b) ntL as (setPs taL ps.toList args) [] σ fun ex ta2 dm1 σ1 => ex = .normal ∧ σ1.get b = some (rdy ntL taL ps as bo df) ∧
      ∀ σ2, Set1 σ1 σ2 b (.loop .busy none ntL taL ps as bo df) → W G P (some b) ntL bo ta2 dm1 σ2 fun ex3 _ _ σ3 => σ3.get b = some (.loop .busy none ntL taL ps as bo df) ∧ ∃ r sn pn, roundOut ex3 = some (r, sn, pn) ∧ ∀ σ4, Set1 σ3 σ4 b (.loop sn pn ntL taL ps as bo df) → R r σ4) : Yield G P b args σ R := by
  refine ⟨.ready, none, ntL, taL, ps, as, bo, df, h0, h1, h2, h.mono fun ex ta2 dm1 σ1 ⟨e1, e2, e3⟩ => ⟨e1, none, ntL, taL, ps, as, bo, df, e2, ?_⟩⟩
  refine (e3 _ ⟨get_put e2, fun c y hc hy => get_put_ne hy hc, rfl, rfl⟩).mono fun ex3 _ _ σ3 ⟨g1, r, sn, pn, g2, g3⟩ => ⟨.busy, none, ntL, taL, ps, as, bo, df, r, sn, pn, g1, g2, g3 _ ⟨get_put g1, fun c y hc hy => get_put_ne hy hc, rfl, rfl⟩⟩
end Go.Proofs.YtjcmdifpkafdkaaDoor
namespace Go.Proofs.YtjcmdifpkafdkaaDoor

inductive Ent where
 | at_ (b : Nat) (x : Blk2)
 | sl (e : TypeId) (s : Nat) (v : Value) (n : Nat) (xs : List Value)
def Ent.blk : Ent → Option Nat
 | .at_ b _ => some b
 | .sl _ _ v _ _ => blkOf v
def Ent.Ok (G : Nat) (σ : Mem) : Ent → Prop
 | .at_ b x => G ≤ b ∧ σ.get b = some x
 | .sl e s v n xs => GRow G σ e s v n xs
def AllOk (G : Nat) (σ : Mem) : List Ent → Prop
 | [] => True
 | x :: l => x.Ok G σ ∧ AllOk G σ l
def Apart (F : Nat → Option Blk2) : List Ent → Prop
 | [] => True
 | x :: l => (∀ b, x.blk = some b → F b = none ∧ ∀ y ∈ l, y.blk ≠ some b) ∧ Apart F l
def lookL : List Ent → Nat → Option Ent
 | [], _ => none
 | x :: _, 0 => some x
 | _ :: l, k + 1 => lookL l k
def setL : List Ent → Nat → Ent → List Ent
 | [], _, _ => []
 | _ :: l, 0, y => y :: l
 | x :: l, k + 1, y => x :: setL l k y
def delL : List Ent → Nat → List Ent
 | [], _ => []
 | _ :: l, 0 => l
 | x :: l, k + 1 => x :: delL l k
structure Lies (G : Nat) (A : Abs) (F : Nat → Option Blk2) (σ : Mem) (L : List Ent) : Prop where
 gn : G ≤ σ.next
 old : ∀ b y, F b = some y → σ.get b = some y
 abs : σ.abs = A
 ok : AllOk G σ L
 apart : Apart F L
section
variable {G : Nat} {A : Abs} {F : Nat → Option Blk2} {σ σ' : Mem} {L : List Ent}
theorem Ent.Ok.is {x : Ent} (h : x.Ok G σ) {b : Nat} (hb : x.blk = some b) : G ≤ b ∧ ∃ y, σ.get b = some y := by
 cases x with
 | at_ c y => cases hb; exact ⟨h.1, y, h.2⟩
 | sl e s v n xs => obtain ⟨r, hr, _⟩ := GRow.is h hb; exact ⟨(GRow.lt h hb).1, _, hr⟩
theorem Ent.Ok.keep {x : Ent} (h : x.Ok G σ) (k : ∀ b y, x.blk = some b → σ.get b = some y → σ'.get b = some y) : x.Ok G σ' := by
 cases x with
 | at_ c y => exact ⟨h.1, k c y rfl h.2⟩
 | sl e s v n xs =>
  refine GRow.keep h fun b hb => ?_
  obtain ⟨r, hr, _⟩ := GRow.is h hb
  rw [hr, k b _ hb hr]
theorem AllOk.keep : ∀ {L : List Ent}, AllOk G σ L → (∀ x ∈ L, ∀ b y, x.blk = some b → σ.get b = some y → σ'.get b = some y) → AllOk G σ' L
 | [], _, _ => trivial
 | x :: _, h, k => ⟨h.1.keep (k x (List.mem_cons_self ..)), AllOk.keep h.2 fun y hy => k y (List.mem_cons_of_mem _ hy)⟩
theorem AllOk.mem : ∀ {L : List Ent}, AllOk G σ L → ∀ x ∈ L, x.Ok G σ
 | [], _, _, hx => by cases hx
 | y :: l, h, x, hx => by
  rcases List.mem_cons.1 hx with e | e
  ·rw [e]; exact h.1
  ·exact h.2.mem x e
theorem AllOk.lt (h : AllOk G σ L) {x : Ent} (hx : x ∈ L) {b : Nat} (hb : x.blk = some b) : G ≤ b ∧ b < σ.next := by
 obtain ⟨h1, y, h2⟩ := (h.mem x hx).is hb
 exact ⟨h1, Mem.lt h2⟩
theorem Apart.mem : ∀ {L : List Ent}, Apart F L → ∀ x ∈ L, ∀ b, x.blk = some b → F b = none
 | [], _, _, hx => by cases hx
 | y :: l, h, x, hx => by
  rcases List.mem_cons.1 hx with e | e
  ·rw [e]; exact fun b hb => (h.1 b hb).1
  ·exact Apart.mem h.2 x e
theorem Apart.frozen {F' : Nat → Option Blk2} : ∀ {L : List Ent}, Apart F L → (∀ x ∈ L, ∀ b, x.blk = some b → F' b = none) → Apart F' L
 | [], _, _ => trivial
 | x :: _, h, k => ⟨fun b hb => ⟨k x (List.mem_cons_self ..) b hb, (h.1 b hb).2⟩, Apart.frozen h.2 fun y hy => k y (List.mem_cons_of_mem _ hy)⟩
theorem lookL_mem : ∀ {L : List Ent} {k : Nat} {x : Ent}, lookL L k = some x → x ∈ L
 | _ :: _, 0, _, h => by cases h; exact List.mem_cons_self ..
 | _ :: _, _ + 1, _, h => List.mem_cons_of_mem _ (lookL_mem h)
theorem mem_setL : ∀ {L : List Ent} {k : Nat} {y z : Ent}, z ∈ setL L k y → z = y ∨ z ∈ L
 | x :: l, 0, y, z, h => by
  rcases List.mem_cons.1 h with e | e
  ·exact .inl e
  ·exact .inr (List.mem_cons_of_mem _ e)
 | x :: l, k + 1, y, z, h => by
  rcases List.mem_cons.1 h with e | e
  ·exact .inr (e ▸ List.mem_cons_self ..)
  ·rcases mem_setL e with e | e
   ·exact .inl e
   ·exact .inr (List.mem_cons_of_mem _ e)
theorem mem_delL : ∀ {L : List Ent} {k : Nat} {z : Ent}, z ∈ delL L k → z ∈ L
 | x :: l, 0, z, h => List.mem_cons_of_mem _ h
 | x :: l, k + 1, z, h => by
  rcases List.mem_cons.1 h with e | e
  ·exact e ▸ List.mem_cons_self ..
  ·exact List.mem_cons_of_mem _ (mem_delL e)
theorem ents_set {B : Option Nat} {y : Ent} : ∀ {L : List Ent} {k : Nat} {x : Ent}, AllOk G σ L → Apart F L → lookL L k = some x → x.blk = B → y.Ok G σ' → (∀ b, y.blk = some b → B = some b ∨ (F b = none ∧ ∀ z ∈ L, z.blk ≠ some b)) →
    (∀ b z, σ.get b = some z → B ≠ some b → σ'.get b = some z) → AllOk G σ' (setL L k y) ∧ Apart F (setL L k y)
  | x :: l, 0, x0, ho, hp, hx, hB, hy, hb, hk => by
    cases hx
    refine ⟨⟨hy, ho.2.keep fun z hz b w hw hg => hk b w hg fun e => (hp.1 b (hB.trans e)).2 z hz hw⟩, fun b e => ?_, hp.2⟩
    rcases hb b e with h | ⟨h1, h2⟩
    · exact hp.1 b (hB.trans h)
    · exact ⟨h1, fun z hz => h2 z (List.mem_cons_of_mem _ hz)⟩
  | x :: l, k + 1, x0, ho, hp, hx, hB, hy, hb, hk => by
    have hm := lookL_mem (L := l) hx
    obtain ⟨i1, i2⟩ := ents_set ho.2 hp.2 (k := k) hx hB hy (fun b e => (hb b e).imp id fun h => ⟨h.1, fun z hz => h.2 z (List.mem_cons_of_mem _ hz)⟩) hk
    refine ⟨⟨ho.1.keep fun b w hw hg => hk b w hg fun e => (hp.1 b hw).2 x0 hm (hB.trans e), i1⟩, fun b e => ⟨(hp.1 b e).1, fun z hz => ?_⟩, i2⟩
    rcases mem_setL hz with h | h
    · subst h
      intro hz2
      rcases hb b hz2 with h | ⟨_, h2⟩
      · exact (hp.1 b e).2 x0 hm (hB.trans h)
      · exact h2 x (List.mem_cons_self ..) e
    · exact (hp.1 b e).2 z h
theorem AllOk.del : ∀ {L : List Ent} (k : Nat), AllOk G σ L → AllOk G σ (delL L k)
 | [], _, _ => trivial
 | _ :: _, 0, h => h.2
 | _ :: _, k + 1, h => ⟨h.1, h.2.del k⟩
theorem Apart.del : ∀ {L : List Ent} (k : Nat), Apart F L → Apart F (delL L k)
 | [], _, _ => trivial
 | _ :: _, 0, h => h.2
 | _ :: _, k + 1, h => ⟨fun b hb => ⟨(h.1 b hb).1, fun y hy => (h.1 b hb).2 y (mem_delL hy)⟩, h.2.del k⟩

theorem Lies.start {σ : Mem} (hG : G ≤ σ.next) (ha : σ.abs = A) : Lies G A σ.get σ [] := ⟨hG, fun _ _ h => h, ha, trivial, trivial⟩
theorem Lies.get (H : Lies G A F σ L) (k : Nat) {b : Nat} {x : Blk2} (e : lookL L k = some (.at_ b x)) : σ.get b = some x := (H.ok.mem _ (lookL_mem e)).2
theorem Lies.low (H : Lies G A F σ L) (k : Nat) {b : Nat} {x : Blk2} (e : lookL L k = some (.at_ b x)) : G ≤ b := (H.ok.mem _ (lookL_mem e)).1
theorem Lies.sl (H : Lies G A F σ L) (k : Nat) {e s n : Nat} {v : Value} {xs : List Value} (h : lookL L k = some (.sl e s v n xs)) : GRow G σ e s v n xs := H.ok.mem _ (lookL_mem h)
theorem Lies.del (H : Lies G A F σ L) (k : Nat) : Lies G A F σ (delL L k) := ⟨H.gn, H.old, H.abs, H.ok.del k, H.apart.del k⟩
theorem Lies.move {A' : Abs} (H : Lies G A F σ L) (ho : ∀ b y, σ.get b = some y → σ'.get b = some y) (hn : σ.next ≤ σ'.next) (ha : σ'.abs = A') : Lies G A' F σ' L :=
 ⟨Nat.le_trans H.gn hn, fun b y h => ho b y (H.old b y h), ha, H.ok.keep fun _ _ b y _ => ho b y, H.apart⟩
theorem Lies.grow (H : Lies G A F σ L) (g : Grow σ σ') : Lies G A F σ' L := H.move g.old g.nx (g.abs.trans H.abs)
theorem Lies.push (H : Lies G A F σ L) (x : Blk2) : Lies G A F (σ.push x) (.at_ σ.next x :: L) := by
 have hF : ∀ b y, F b = some y → b < σ.next := fun b y h => Mem.lt (H.old b y h)
 have M := H.move (σ' := σ.push x) (fun _ _ h => get_push_old h) (Nat.le_succ _) H.abs
 refine ⟨M.gn, M.old, M.abs, ⟨⟨H.gn, get_push⟩, M.ok⟩, fun b hb => ?_, H.apart⟩
 cases hb
 refine ⟨?_, fun y hy hb => ?_⟩
 ·cases e : F σ.next with
  | none => rfl
  | some z => have := hF _ _ e; omega
 ·have := (H.ok.lt hy hb).2
  omega
theorem Lies.set (H : Lies G A F σ L) (k : Nat) {b : Nat} {x y : Blk2} (e : lookL L k = some (.at_ b x)) (s : Set1 σ σ' b y) : Lies G A F σ' (setL L k (.at_ b y)) := by
 have hm := H.ok.mem _ (lookL_mem e)
 have hF := H.apart.mem _ (lookL_mem e) b rfl
 obtain ⟨h1, h2⟩ := ents_set (y := .at_ b y) H.ok H.apart e rfl (σ' := σ') ⟨hm.1, s.at_⟩ (fun c hc => .inl hc) (fun c z hz hne => s.old c z (fun h => hne (by rw [h]; rfl)) hz)
 exact ⟨by rw [s.nx]; exact H.gn, fun c z hz => s.old c z (fun h => (by rw [h, hF] at hz; cases hz)) (H.old c z hz), s.abs.trans H.abs, h1, h2⟩
theorem Lies.put (H : Lies G A F σ L) (k : Nat) {b : Nat} {x : Blk2} (y : Blk2) (e : lookL L k = some (.at_ b x)) : Lies G A F (σ.put b y) (setL L k (.at_ b y)) :=
 H.set k e ⟨get_put (H.get k e), fun _ _ hc hy => get_put_ne hy hc, rfl, rfl⟩
theorem Lies.grown (H : Lies G A F σ L) (k : Nat) {e s n n' : Nat} {v v' : Value} {xs xs' : List Value} (h : lookL L k = some (.sl e s v n xs)) (hg : GRow G σ' e s v' n' xs') (hn : σ.next ≤ σ'.next) (ha : σ'.abs = σ.abs) (ho : ∀ b y, σ.get b = some y → blkOf v ≠ some b → σ'.get b = some y) (hb : ∀ b, blkOf v' = some b → blkOf v = some b ∨ σ.next ≤ b) : Lies G A F σ' (setL L k (.sl e s v' n' xs')) := by
 have hF := H.apart.mem _ (lookL_mem h)
 have hnew : ∀ b, σ.next ≤ b → F b = none ∧ ∀ z ∈ L, z.blk ≠ some b := fun b hl => by
  refine ⟨?_, fun z hz hzb => ?_⟩
  ·cases e : F b with
   | none => rfl
   | some z => have := Mem.lt (H.old _ _ e); omega
  ·have := (H.ok.lt hz hzb).2
   omega
 obtain ⟨h1, h2⟩ := ents_set (y := .sl e s v' n' xs') H.ok H.apart h rfl (σ' := σ') hg (fun b hb' => (hb b hb').imp id fun hl => hnew b hl) ho
 exact ⟨Nat.le_trans H.gn hn, fun c z hz => ho c z (H.old c z hz) (fun h => by rw [hF c h] at hz; cases hz), ha.trans H.abs, h1, h2⟩
theorem Lies.addSl (H : Lies G A F σ L) {e s n : Nat} {v : Value} {xs : List Value} (g : Grow σ σ') (hg : GRow G σ' e s v n xs) (hb : ∀ b, blkOf v = some b → σ.next ≤ b) : Lies G A F σ' (.sl e s v n xs :: L) := by
 have M := H.grow g
 refine ⟨M.gn, M.old, M.abs, ⟨hg, M.ok⟩, fun b e => ⟨?_, fun y hy hyb => ?_⟩, H.apart⟩
 ·cases e2 : F b with
  | none => rfl
  | some z => have := Mem.lt (H.old _ _ e2); have := hb b e; omega
 ·have := (H.ok.lt hy hyb).2
  have := hb b e
  omega
theorem Lies.nilSl (H : Lies G A F σ L) (e s : Nat) : Lies G A F σ (.sl e s (.slice none 0 0) 0 [] :: L) := ⟨H.gn, H.old, H.abs, ⟨.nil, H.ok⟩, (fun _ h => by cases h), H.apart⟩
def Le (F F' : Nat → Option Blk2) : Prop := ∀ b y, F b = some y → F' b = some y
theorem Le.refl (F : Nat → Option Blk2) : Le F F := fun _ _ h => h
theorem Le.trans {F F1 F2 : Nat → Option Blk2} (h : Le F F1) (k : Le F1 F2) : Le F F2 := fun b y e => k b y (h b y e)
inductive SlF (F : Nat → Option Blk2) (sz : Nat) : Value → Nat → List Value → Prop
 | nil (xs : List Value) (h : xs = []) : SlF F sz (.slice none 0 0) 0 xs
 | void (c : Nat) (xs : List Value) (h : xs = []) : SlF F sz (.chan (.some c)) 0 xs
 | some {b p n c : Nat} {sp : Option Nat} {r : Row} {xs : List Value} (hr : F b = .some (.row r)) (hx : xs.length = n * sz) (hc : (r.cs.drop p).take (n * sz) = xs) : SlF F sz (.slice (.some ⟨b, p, sp⟩) n c) n xs
theorem SlF.le {F F' : Nat → Option Blk2} (k : Le F F') {sz n : Nat} {v : Value} {xs : List Value} (h : SlF F sz v n xs) : SlF F' sz v n xs := by
 cases h with
 | nil _ h => exact .nil _ h
 | void c _ h => exact .void c _ h
 | some hr hx hc => exact .some (k _ _ hr) hx hc
theorem SlF.len {sz n : Nat} {v : Value} {xs : List Value} {P : Program} {t e : TypeId} (h : SlF F sz v n xs) (ht : uT P t = Option.some (.slice e)) : lenF P t v = Option.some (.int .i64 n) := by
 unfold lenF
 cases h with
 | nil _ _ => simp only [ht]
 | void _ _ _ => simp only [ht]; rfl
 | some _ _ _ => simp only [ht]
theorem SlF.length {sz n : Nat} {v : Value} {xs : List Value} (h : SlF F sz v n xs) : xs.length = n * sz := by
 cases h with
 | nil _ h => rw [h]; simp
 | void _ _ h => rw [h]; simp
 | some hr hx hc => exact hx
theorem Lies.freeze (H : Lies G A F σ L) (k : Nat) {b : Nat} {x : Blk2} (e : lookL L k = some (.at_ b x)) : ∃ F', Le F F' ∧ F' b = some x ∧ Lies G A F' σ (delL L k) := by
 have hF := H.apart.mem _ (lookL_mem e) b rfl
 have hm := H.ok.mem _ (lookL_mem e)
 refine ⟨fun c => if c = b then some x else F c, fun c y hc => ?_, by simp, H.gn, fun c y hc => ?_, H.abs, H.ok.del k, (H.apart.del k).frozen fun z hz c hc => ?_⟩
 ·show (if c = b then some x else F c) = some y
  rw [if_neg (fun h => by rw [h, hF] at hc; cases hc)]
  exact hc
 ·by_cases h : c = b
  ·simp only [if_pos h] at hc
   cases hc
   rw [h]; exact hm.2
  ·simp only [if_neg h] at hc
   exact H.old c y hc
 ·show (if c = b then some x else F c) = none
  rw [if_neg, H.apart.mem z (mem_delL hz) c hc]
  intro h
  subst h
  exact apart_del H.apart e hz hc
where apart_del : ∀ {L : List Ent} {k : Nat} {b : Nat} {x : Blk2} {z : Ent}, Apart F L → lookL L k = some (.at_ b x) → z ∈ delL L k → z.blk = some b → False
 | y :: l, 0, b, x, z, hp, e, hz, hc => by cases e; exact (hp.1 b rfl).2 z hz hc
 | y :: l, k + 1, b, x, z, hp, e, hz, hc => by
  rcases List.mem_cons.1 hz with h | h
  ·subst h; exact (hp.1 b hc).2 _ (lookL_mem (L := l) e) rfl
  ·exact apart_del hp.2 (k := k) e h hc
theorem apart_delS : ∀ {L : List Ent} {k : Nat} {b : Nat} {x z : Ent}, Apart F L → lookL L k = some x → x.blk = some b → z ∈ delL L k → z.blk = some b → False
 | y :: l, 0, b, x, z, hp, e, hx, hz, hc => by cases e; exact (hp.1 b hx).2 z hz hc
 | y :: l, k + 1, b, x, z, hp, e, hx, hz, hc => by
  rcases List.mem_cons.1 hz with h | h
  ·subst h; exact (hp.1 b hc).2 _ (lookL_mem (L := l) e) hx
  ·exact apart_delS hp.2 (k := k) e hx h hc
theorem Lies.freezeSl (H : Lies G A F σ L) (k : Nat) {e s n : Nat} {v : Value} {xs : List Value} (h : lookL L k = some (.sl e s v n xs)) : ∃ F', Le F F' ∧ SlF F' s v n xs ∧ Lies G A F' σ (delL L k) := by
 have hF := H.apart.mem _ (lookL_mem h)
 have hg : GRow G σ e s v n xs := H.ok.mem _ (lookL_mem h)
 have hlen := hg.length
 cases hg with
 | nil => exact ⟨F, Le.refl F, .nil _ rfl, H.del k⟩
 | @row q l c r xs hq hr ht hc hl hx =>
  have hF := hF q rfl
  refine ⟨fun c => if c = q then some (.row r) else F c, fun c y hc => ?_, .some (b := q) (r := r) (by simp) hlen (by rw [List.drop_zero]; exact hx), H.gn, fun c y hc => ?_, H.abs, H.ok.del k, (H.apart.del k).frozen fun z hz c hc => ?_⟩
  ·show (if c = q then some (Blk2.row r) else F c) = some y
   rw [if_neg (fun h => by rw [h, hF] at hc; cases hc)]
   exact hc
  ·by_cases h : c = q
   ·simp only [if_pos h] at hc
    cases hc
    rw [h]; exact hr
   ·simp only [if_neg h] at hc
    exact H.old c y hc
  ·show (if c = q then some (Blk2.row r) else F c) = none
   rw [if_neg, H.apart.mem z (mem_delL hz) c hc]
   intro h'
   subst h'
   exact apart_delS H.apart h rfl hz hc
end

theorem slf_one {F : Nat → Option Blk2} {s n : Nat} {v : Value} {xs : List Value} (h : SlF F s v n xs) : v.cells.toList = [v] := by cases h <;> rfl
theorem slf_all {F : Nat → Option Blk2} {s n : Nat} {v : Value} {xs : List Value} (h : SlF F s v n xs) : [v].all (·.oneCell') = true := by cases h <;> rfl
theorem gr_all {G : Nat} {σ : Mem} {e : TypeId} {s n : Nat} {v : Value} {xs : List Value} (h : GRow G σ e s v n xs) : [v].all (·.oneCell') = true := by cases h <;> rfl
section
variable {P : Program} {G : Nat} {nt : Nat} {rd : Option Nat} {ops : Array Oper} {l : List Oper} {ta : Nat → Value} {σ : Mem} {dm : List DItem} {rs : List (Rec × Mem)} {A : Abs} {F : Nat → Option Blk2} {L : List Ent}
def OkT (ta : Nat → Value) : List (Nat × Value) → Prop
 | [] => True
 | (k, x) :: l => ta k = x ∧ OkT ta l
def updT (ta : Nat → Value) : List (Nat × Value) → Nat → Value
 | [] => ta
 | (k, x) :: l => upd (updT ta l) k x
theorem updT_same {ta : Nat → Value} : ∀ {L : List (Nat × Value)}, OkT ta L → updT ta L = ta
 | [], _ => rfl
 | (k, x) :: l, h => by
  show upd (updT ta l) k x = ta
  rw [updT_same h.2, upd_same h.1]
theorem W.rst {c : Code} {Q : Exit → (Nat → Value) → List DItem → Mem → Prop} (L : List (Nat × Value)) (h : OkT ta L) (k : ∀ TA, W G P rd nt c (updT TA L) dm σ Q) : W G P rd nt c ta dm σ Q := by
 have := k ta
 rwa [updT_same h] at this
theorem RW.rst {K : (Nat → Value) → Mem → Prop} (L : List (Nat × Value)) (h : OkT ta L) (k : ∀ TA rs', RW G P nt ops l (updT TA L) σ rs' fun _ => K) : RW G P nt ops l ta σ rs fun _ => K := by
 have := k ta rs
 rwa [updT_same h] at this
section
variable {K : (Nat → Value) → Mem → Prop} {o : Oper}
theorem RW.mkL (H : Lies G A F σ L) {x : Blk2} {fm : Nat → Value} (hw : wantedT ops ta o = true) (hk : opndOk G o = true) (hs : stepOp G P σ o (oper2 ta) = some (.make x fm)) (hd : dstOk nt o.dst = true)
    (h : ∀ σ' b rs', Lies G A F σ' (.at_ b x :: L) → RW G P nt ops l (putO ta o.dst (fm b)) σ' rs' fun _ => K) : RW G P nt ops (o :: l) ta σ rs fun _ => K :=
  RW.make hw hk hs hd (h _ _ _ (H.push x))
theorem RW.stL (H : Lies G A F σ L) (k : Nat) {t : TypeId} {a x : Operand} {b p : Nat} {r : Row} {vs cs' : List Value} (hw : wantedT ops ta o = true) (hk : opndOk G o = true) (ho : o.op = .store t a x) (ha : oper2 ta a = .pointer (some ⟨b, p, none⟩)) (hr : lookL L k = some (.at_ b (.row r))) (hx : (oper2 ta x).cells.toList = vs) (h1 : vs.all (·.oneCell') = true) (hs : sizeT P t = some vs.length) (hp : p + vs.length ≤ r.cs.length) (hc : overL r.cs p vs = cs') (hd : dstOk nt o.dst = true)
    (h : ∀ σ' rs', Lies G A F σ' (setL L k (.at_ b (.row ⟨cs', r.t, r.g⟩))) → RW G P nt ops l (putO ta o.dst undef) σ' rs' fun _ => K) : RW G P nt ops (o :: l) ta σ rs fun _ => K := by
  have hsz : (oper2 ta x).cells.size = vs.length := by rw [← hx]; simp
  have he := eop_store (P := P) (G := G) ho ha (H.low k hr) (H.get k hr) (by rw [hs, hsz]) (by rw [hsz]; exact hp) (by rw [← Array.all_toList, hx]; exact h1)
  rw [hx, hc] at he
  exact RW.eff hw hk he hd (h _ _ (H.put k _ hr))
theorem RW.mkD {K : List (Rec × Mem) → (Nat → Value) → Mem → Prop} (H : Lies G A F σ L) {x : Blk2} {fm : Nat → Value} (hw : wantedT ops ta o = true) (hk : opndOk G o = true) (hs : stepOp G P σ o (oper2 ta) = some (.make x fm)) (hd : dstOk nt o.dst = true)
    (h : ∀ σ' b, Lies G A F σ' (.at_ b x :: L) → RW G P nt ops l (putO ta o.dst (fm b)) σ' ((.make x fm, σ) :: rs) K) : RW G P nt ops (o :: l) ta σ rs K :=
  RW.make hw hk hs hd (h _ _ (H.push x))
theorem RW.ldL {K : List (Rec × Mem) → (Nat → Value) → Mem → Prop} (H : Lies G A F σ L) (k n : Nat) {t : TypeId} {x : Operand} {b p : Nat} {r : Row} {cs : List Value} {v : Value} (hw : wantedT ops ta o = true) (hk : opndOk G o = true) (ho : o.op = .load t x) (hx : oper2 ta x = .pointer (some ⟨b, p, none⟩)) (hr : lookL L k = some (.at_ b (.row r))) (hc : (r.cs.drop p).take n = cs) (hv : varF P t cs = some v) (hd : dstOk nt o.dst = true)
    (h : RW G P nt ops l (putO ta o.dst v) σ ((.load b p cs v, σ) :: rs) K) : RW G P nt ops (o :: l) ta σ rs K :=
  RW.loads n hw hk ho hx (H.get k hr) hc hv hd h
theorem RW.idxF {K : List (Rec × Mem) → (Nat → Value) → Mem → Prop} {s n : Nat} {v : Value} {xs : List Value} (hs : SlF F s v n xs) {t e : TypeId} {x ix : Operand} {k : IntKind} {i : Int} (hw : wantedT ops ta o = true) (hk : opndOk G o = true) (ho : o.op = .indexAddr t x ix) (hu : P.underlying t = some (.slice e)) (hsz : sizeT P e = some s) (hx : oper2 ta x = v) (hi : oper2 ta ix = .int k i) (hin : 0 ≤ i ∧ i < n) (hd : dstOk nt o.dst = true)
    (h : ∀ b q r, F b = some (.row r) → (r.cs.drop q).take s = (xs.drop (i.toNat * s)).take s → RW G P nt ops l (putO ta o.dst (.pointer (some ⟨b, q, none⟩))) σ ((.val (.pointer (some ⟨b, q, none⟩)), σ) :: rs) K) : RW G P nt ops (o :: l) ta σ rs K := by
  cases hs with
  | nil _ h0 => exact absurd hin.2 (by omega)
  | void _ _ h0 => exact absurd hin.2 (by omega)
  | @some b p n c sp r xs hr hl hc =>
    refine RW.idx hw hk ho hu hsz hx hi hin hd (h b (p + i.toNat * s) r hr ?_)
    have hm : i.toNat * s + s ≤ n * s := by
      have : (i.toNat + 1) * s ≤ n * s := Nat.mul_le_mul_right _ (by omega)
      rwa [Nat.succ_mul] at this
    rw [← hc, List.drop_take, List.drop_drop, List.take_take, Nat.min_eq_left (by omega)]
theorem RW.idxG {K : List (Rec × Mem) → (Nat → Value) → Mem → Prop} (H : Lies G A F σ L) (j : Nat) {e0 s n : Nat} {v : Value} {xs : List Value} (hs : lookL L j = some (.sl e0 s v n xs)) {t e : TypeId} {x ix : Operand} {k : IntKind} {i : Int} (hw : wantedT ops ta o = true) (hk : opndOk G o = true) (ho : o.op = .indexAddr t x ix) (hu : P.underlying t = some (.slice e)) (hsz : sizeT P e = some s) (hx : oper2 ta x = v) (hi : oper2 ta ix = .int k i) (hin : 0 ≤ i ∧ i < n) (hd : dstOk nt o.dst = true)
    (h : ∀ b q r, σ.get b = some (.row r) → (r.cs.drop q).take s = (xs.drop (i.toNat * s)).take s → RW G P nt ops l (putO ta o.dst (.pointer (some ⟨b, q, none⟩))) σ ((.val (.pointer (some ⟨b, q, none⟩)), σ) :: rs) K) : RW G P nt ops (o :: l) ta σ rs K := by
  have hg := H.sl j hs
  cases hg with
  | nil => exact absurd hin.2 (by omega)
  | @row b n c r xs hq hr ht hc hl hx0 =>
    refine RW.idx hw hk ho hu hsz hx hi hin hd (h b (0 + i.toNat * s) r hr ?_)
    have hm : i.toNat * s + s ≤ n * s := by
      have : (i.toNat + 1) * s ≤ n * s := Nat.mul_le_mul_right _ (by omega)
      rwa [Nat.succ_mul] at this
    rw [← hx0, List.drop_take, List.take_take, Nat.min_eq_left (by omega), Nat.zero_add]
theorem RW.appL (H : Lies G A F σ L) (k j : Nat) {c : Call} {s_ x_ : Operand} {t u e e2 s n l0 b : Nat} {v : Value} {xs : List Value} {r : Row} (hw : wantedT ops ta o = true) (hk : opndOk G o = true) (ho : o.op = .call c) (hc : c.callee = .builtin .append) (ha : c.args = #[s_, x_]) (ht : c.argTypes = #[t, u]) (hsv : oper2 ta s_ = v) (hxv : oper2 ta x_ = .slice (some ⟨b, 0, none⟩) n n)
    (hl : lookL L k = some (.sl e s v l0 xs)) (hr : lookL L j = some (.at_ b (.row r))) (htt : uT P t = some (.slice e)) (huu : uT P u = some (.slice e2)) (hi : infoB P e s 64 = true) (hs0 : 0 < s) (hn : 0 < n) (hrl : r.cs.length = n * s) (hone : r.cs.all (·.oneCell') = true) (hb : l0 + n ≤ 1000000) (hd : dstOk nt o.dst = true)
    (h : ∀ σ' v' rs', Lies G A F σ' (delL (setL L k (.sl e s v' (l0 + n) (xs ++ r.cs))) j) → RW G P nt ops l (putO ta o.dst v') σ' rs' fun _ => K) : RW G P nt ops (o :: l) ta σ rs fun _ => K := by
  obtain ⟨i, z, h1, h2, h3, h4, h5⟩ := infoB_ok hi
  have hg := H.sl k hl
  have hrow := H.get j hr
  have hsrc : srcG (.slice e2) i z σ (.slice (some ⟨b, 0, none⟩) n n) = some (n, r.cs) := by
    rw [show srcG (.slice e2) i z σ (.slice (some ⟨b, 0, none⟩) n n) = srcF σ i.size (.slice (some ⟨b, 0, none⟩) n n) from rfl]
    unfold srcF
    rw [h4]
    simp only [if_neg (show ¬ n = 0 by omega), hrow]
    rw [if_pos (by omega), List.drop_zero, ← hrl, List.take_length]
  have hmul : (l0 + n) * i.bytes ≤ 1000000 * 64 := Nat.mul_le_mul hb h5
  obtain ⟨v', cmd, k1, k2, k3, k4, k5, k6⟩ := grow_append (P := P) hg H.gn htt huu h1 h2 h3 h4 hs0 hsrc hn hone ⟨by omega, by omega⟩
  rw [← hsv, ← hxv] at k1
  refine RW.append hw hk ho hc ha ht k1 hd (h _ _ _ (Lies.del (H.grown k hl k2 k3 k4 k5 fun b hb => ?_) j))
  rcases k6 with k6 | k6
  · exact .inl (k6 ▸ hb)
  · rw [k6] at hb
    cases hb
    exact .inr (Nat.le_refl _)
end
def WL (G : Nat) (P : Program) (rd : Option Nat) (nt : Nat) (c : Code) (ta : Nat → Value) (dm : List DItem) (σ : Mem) (Q : Exit → (Nat → Value) → List DItem → Mem → Prop) : Prop := ∃ k ex ta' dm' σ', SRounds G P rd nt k c ta dm σ ex ta' dm' σ' ∧ Q ex ta' dm' σ'
def onceQ (G : Nat) (P : Program) (rd : Option Nat) (nt : Nat) (c : Code) (Q : Exit → (Nat → Value) → List DItem → Mem → Prop) : Exit → (Nat → Value) → List DItem → Mem → Prop
 | .normal, ta, dm, σ => WL G P rd nt c ta dm σ Q
 | ex, ta, dm, σ => Q ex ta dm σ
theorem W.unroll {c : Code} {Q : Exit → (Nat → Value) → List DItem → Mem → Prop} (h : WL G P rd nt c ta dm σ Q) : W G P rd nt (.loop c) ta dm σ Q := by
 obtain ⟨k, ex, ta', dm', σ', h1, h2⟩ := h
 exact ⟨ex, ta', dm', σ', h1.loop, h2⟩
theorem WL.once {c : Code} {Q : Exit → (Nat → Value) → List DItem → Mem → Prop} (h : W G P rd nt c ta dm σ (onceQ G P rd nt c Q)) : WL G P rd nt c ta dm σ Q := by
 obtain ⟨ex, ta', dm', σ', h1, h2⟩ := h
 by_cases hx : ex = .normal
 ·subst hx
  obtain ⟨k, ex2, ta2, dm2, σ2, h3, h4⟩ := h2
  exact ⟨k + 1, ex2, ta2, dm2, σ2, SRounds.more h1 h3, h4⟩
 ·refine ⟨0 + 1, ex, ta', dm', σ', SRounds.last 0 h1 hx, ?_⟩
  unfold onceQ at h2
  split at h2
  ·exact absurd rfl hx
  ·exact h2
section
variable {Q : Exit → (Nat → Value) → List DItem → Mem → Prop} {x y c : Code}
theorem seqQ_exit {i : Nat} (h : Q (.exit i) ta dm σ) : seqQ G P rd nt y Q (.exit i) ta dm σ := h
theorem blkQ_here {id : Nat} (h : Q .normal ta dm σ) : blkQ id Q (.exit id) ta dm σ := by
 unfold blkQ
 rwa [show outOf id (.exit id) = .normal by simp [outOf]]
theorem blkQ_out {id i : Nat} (hi : Nat.beq i id = false) (h : Q (.exit i) ta dm σ) : blkQ id Q (.exit i) ta dm σ := by
 have hn : i ≠ id := fun e => by rw [e, Nat.beq_refl] at hi; cases hi
 unfold blkQ
 rwa [show outOf id (.exit i) = .exit i by simp [outOf, hn]]
theorem bQn {id : Nat} (h : Q .normal ta dm σ) : blkQ id Q .normal ta dm σ := h
theorem onceQ_ret (h : Q .ret ta dm σ) : onceQ G P rd nt c Q .ret ta dm σ := h
theorem onceQ_exit {i : Nat} (h : Q (.exit i) ta dm σ) : onceQ G P rd nt c Q (.exit i) ta dm σ := h
theorem rndQ_exit {I : Nat → (Nat → Value) → Mem → Prop} {n i : Nat} (h : Q (.exit i) ta dm σ) : rndQ I n dm Q (.exit i) ta dm σ := h
end
theorem del_setL : ∀ (L : List Ent) (k : Nat) (y : Ent), delL (setL L k y) k = delL L k
 | [], _, _ => rfl
 | _ :: _, 0, _ => rfl
 | x :: l, k + 1, y => congrArg (x :: ·) (del_setL l k y)
theorem W.rangeL (H : Lies G A F σ L) {g : Operand} {ps : Array Tmp} {as bo : Code} {f : FuncId} {fa ca : Array Value} {Q : Exit → (Nat → Value) → List DItem → Mem → Prop} (hg : oper2 ta g = .func (.func f) fa ca) (hgl : ∀ i, g ≠ .global i) (hgc : ∀ v, g ≠ .const v) (hp : plainFn P f = true)
    (h : ∀ σ1 d b lp, lp = rdy nt ta ps as bo d → Lies G A F σ1 (.at_ b lp :: .at_ d (.defs true) :: L) → WC G P f (fa ++ #[.func (.yield b) #[] #[]] ++ ca) σ1 fun _ σ2 => ∃ A2 F2 L2 k2 lx st pe ex, Lies G A2 F2 σ2 L2 ∧ lookL L2 k2 = some (.at_ b lx) ∧ lx = .loop st pe nt ta ps as bo d ∧ (st == .busy) = false ∧ leftBy pe = some ex ∧
      ∀ σ3, Lies G A2 F2 σ3 (delL L2 k2) → Q ex ta (.mark d :: dm) σ3) : W G P none nt (.rangeFunc g ps as bo) ta dm σ Q := by
  refine W.range hg hgl hgc hp ?_
  obtain ⟨v, σ2, h1, A2, F2, L2, k2, lx, st, pe, ex, H2, h2, rfl, h3, h4, h5⟩ := h _ _ _ _ rfl ((H.push (.defs true)).push _)
  refine ⟨v, σ2, h1, st, pe, _, _, _, _, _, _, ex, H2.get k2 h2, h3, h4, h5 _ ?_⟩
  have := (H2.put k2 (.loop .exhausted pe nt ta ps as bo σ.next) h2).del k2
  rwa [del_setL] at this
theorem RW.yieldL {K : (Nat → Value) → Mem → Prop} {o : Oper} (H : Lies G A F σ L) (k : Nat) {c : Call} {x : Operand} {b ntL df : Nat} {lp : Blk2} {taL : Nat → Value} {ps : Array Tmp} {as bo : Code} (hk0 : lookL L k = some (.at_ b lp)) (hlp : lp = rdy ntL taL ps as bo df) (hw : wantedT ops ta o = true) (hk : opndOk G o = true) (ho : o.op = .call c) (hc : c.callee = .value x) (hx : oper2 ta x = .func (.yield b) #[] #[]) (hsz : c.args.size = ps.size) (hps : ps.toList.all (fun p => Nat.blt p ntL) = true) (hd : dstOk nt o.dst = true)
    (h : W G P (some b) ntL as (setPs taL ps.toList (c.args.toList.map (oper2 ta))) [] σ fun ex ta2 dm1 σ1 => ex = .normal ∧ ∃ A1 F1 L1 k1, Lies G A1 F1 σ1 L1 ∧ lookL L1 k1 = some (.at_ b lp) ∧
      ∀ σ2 lq, lq = .loop .busy none ntL taL ps as bo df → Lies G A1 F1 σ2 (setL L1 k1 (.at_ b lq)) → W G P (some b) ntL bo ta2 dm1 σ2 fun ex3 _ _ σ3 => ∃ A3 F3 L3 k3 r sn pn, Lies G A3 F3 σ3 L3 ∧ lookL L3 k3 = some (.at_ b lq) ∧ roundOut ex3 = some (r, sn, pn) ∧
        ∀ σ4 lr rs', lr = .loop sn pn ntL taL ps as bo df → Lies G A3 F3 σ4 (setL L3 k3 (.at_ b lr)) → RW G P nt ops l (putO ta o.dst (.bool r)) σ4 rs' fun _ => K) : RW G P nt ops (o :: l) ta σ rs fun _ => K := by
  subst hlp
  refine RW.yield hw hk ho hc hx (H.low k hk0) (H.get k hk0) hsz (fun p hp => ?_) hd (h.mono ?_)
  · have := List.all_eq_true.1 hps p hp
    exact Nat.le_of_ble_eq_true this
  · rintro ex ta2 dm1 σ1 ⟨rfl, A1, F1, L1, k1, H1, e1, h1⟩
    refine ⟨rfl, _, _, _, _, _, _, _, H1.get k1 e1, (h1 _ _ rfl (H1.put k1 _ e1)).mono ?_⟩
    rintro ex3 ta3 dm3 σ3 ⟨A3, F3, L3, k3, r, sn, pn, H3, e3, e4, h3⟩
    exact ⟨_, _, _, _, _, _, _, _, r, sn, pn, H3.get k3 e3, e4, h3 _ _ _ rfl (H3.put k3 _ e3)⟩
theorem endMark {R : Value → Mem → Prop} {rv : List ResultVar} {ex : Exit} {d : Nat} (H : Lies G A F σ L) (k : Nat) (e : lookL L k = some (.at_ d (.defs true))) (h : ∀ σ', Lies G A F σ' (delL L k) → endQD G P rv R ex ta dm σ') : endQD G P rv R ex ta (.mark d :: dm) σ := by
 have H' := (H.put k (.defs false) e).del k
 rw [del_setL] at H'
 obtain ⟨h1, σ2, h2, h3⟩ := h _ H'
 exact ⟨h1, σ2, .mark (H.get k e) (H.low k e) h2, h3⟩
end
end Go.Proofs.YtjcmdifpkafdkaaDoor
namespace Go.Proofs.YtjcmdifpkafdkaaDoor

abbrev pt (b : Nat) : Value := .pointer (some ⟨b, 0, none⟩)
section
variable {P : Program} {G : Nat} {A : Abs} {F : Nat → Option Blk2} {σ : Mem} {L : List Ent} {nt : Nat} {ops : Array Oper} {l : List Oper} {ta : Nat → Value} {dm : List DItem} {rs : List (Rec × Mem)} {o : Oper} {rd : Option Nat}
theorem RW.v {K : List (Rec × Mem) → (Nat → Value) → Mem → Prop} {v : Value} (h : RW G P nt ops l (putO ta o.dst v) σ ((.val v, σ) :: rs) K) (hs : stepOp G P σ o (oper2 ta) = some (.val v) := by exact rfl) (hw : wantedT ops ta o = true := by kernel_rfl) (hk : opndOk G o = true := by kernel_rfl) (hd : dstOk nt o.dst = true := by kernel_rfl) : RW G P nt ops (o :: l) ta σ rs K :=
 RW.val hw hk hs hd h
theorem RW.w {K : List (Rec × Mem) → (Nat → Value) → Mem → Prop} {v : Value} (h : RW G P nt ops l (putO ta o.dst v) σ ((.val v, σ) :: rs) K) (hs : stepOp G P σ o (oper2 ta) = some (.val v) := by exact rfl) (hw : wantedT ops ta o = true := by rfl) (hk : opndOk G o = true := by kernel_rfl) (hd : dstOk nt o.dst = true := by kernel_rfl) : RW G P nt ops (o :: l) ta σ rs K :=
 RW.val hw hk hs hd h
theorem RW.s {K : List (Rec × Mem) → (Nat → Value) → Mem → Prop} (h : RW G P nt ops l (putO ta o.dst undef) σ ((.skip, σ) :: rs) K) (hw : wantedT ops ta o = false := by rfl) (hd : dstOk nt o.dst = true := by kernel_rfl) : RW G P nt ops (o :: l) ta σ rs K :=
 RW.skip hw hd h
theorem RW.mk {K : (Nat → Value) → Mem → Prop} (H : Lies G A F σ L) (x : Blk2)
    (h : ∀ σ' b rs', Lies G A F σ' (.at_ b x :: L) → RW G P nt ops l (putO ta o.dst (pt b)) σ' rs' fun _ => K) (hs : stepOp G P σ o (oper2 ta) = some (.make x pt) := by kernel_rfl) (hw : wantedT ops ta o = true := by kernel_rfl) (hk : opndOk G o = true := by kernel_rfl) (hd : dstOk nt o.dst = true := by kernel_rfl) : RW G P nt ops (o :: l) ta σ rs fun _ => K :=
  RW.mkL H hw hk hs hd h
theorem RW.ld {K : List (Rec × Mem) → (Nat → Value) → Mem → Prop} (H : Lies G A F σ L) (k n : Nat) {t : TypeId} {x : Operand} {b p : Nat} {r : Row} {cs : List Value} {v : Value}
    (h : RW G P nt ops l (putO ta o.dst v) σ ((.load b p cs v, σ) :: rs) K) (ho : o.op = .load t x := by exact rfl) (hx : oper2 ta x = .pointer (some ⟨b, p, none⟩) := by exact rfl) (hr : lookL L k = some (.at_ b (.row r)) := by exact rfl) (hc : (r.cs.drop p).take n = cs := by exact rfl) (hv : varF P t cs = some v := by exact rfl) (hw : wantedT ops ta o = true := by kernel_rfl) (hk : opndOk G o = true := by kernel_rfl) (hd : dstOk nt o.dst = true := by kernel_rfl) : RW G P nt ops (o :: l) ta σ rs K :=
  RW.ldL H k n hw hk ho hx hr hc hv hd h
theorem RW.st {K : (Nat → Value) → Mem → Prop} (H : Lies G A F σ L) (k : Nat) (vs cs' : List Value) {t : TypeId} {a x : Operand} {b p : Nat} {r : Row}
    (h : ∀ σ' rs', Lies G A F σ' (setL L k (.at_ b (.row ⟨cs', r.t, r.g⟩))) → RW G P nt ops l (putO ta o.dst undef) σ' rs' fun _ => K) (ho : o.op = .store t a x := by exact rfl) (ha : oper2 ta a = .pointer (some ⟨b, p, none⟩) := by exact rfl) (hr : lookL L k = some (.at_ b (.row r)) := by exact rfl) (hx : (oper2 ta x).cells.toList = vs := by exact rfl) (h1 : vs.all (·.oneCell') = true := by exact rfl) (hs : sizeT P t = some vs.length := by kernel_rfl) (hp : p + vs.length ≤ r.cs.length := by exact Nat.le_of_ble_eq_true rfl) (hc : overL r.cs p vs = cs' := by exact rfl) (hw : wantedT ops ta o = true := by kernel_rfl) (hk : opndOk G o = true := by kernel_rfl) (hd : dstOk nt o.dst = true := by kernel_rfl) : RW G P nt ops (o :: l) ta σ rs fun _ => K :=
  RW.stL H k hw hk ho ha hr hx h1 hs hp hc hd h
theorem RW.cl {K : List (Rec × Mem) → (Nat → Value) → Mem → Prop} {c : Call} {x : Operand} {f : FuncId} {fa ca : Array Value}
    (h : WC G P f (List.toArray (fa.toList ++ c.args.toList.map (oper2 ta) ++ ca.toList)) σ fun v σ1 => RW G P nt ops l (putO ta o.dst v) σ1 ((.eff v, σ) :: rs) K) (ho : o.op = .call c := by exact rfl) (hc : c.callee = .value x := by exact rfl) (hx : oper2 ta x = .func (.func f) fa ca := by exact rfl) (hw : wantedT ops ta o = true := by kernel_rfl) (hk : opndOk G o = true := by kernel_rfl) (hp : plainFn P f = true := by kernel_rfl) (hd : dstOk nt o.dst = true := by kernel_rfl) : RW G P nt ops (o :: l) ta σ rs K :=
  RW.call hw hk ho hc hx hp hd h
theorem W.rg {c : Code} {Q : Exit → (Nat → Value) → List DItem → Mem → Prop} (L : List (Nat × Value)) (k : ∀ TA, W G P rd nt c (updT TA L) dm σ Q) (h : OkT ta L := by repeat (first | exact trivial | refine ⟨rfl, ?_⟩)) : W G P rd nt c ta dm σ Q :=
 W.rst L h k
theorem W.c0 {x y : Code} {c : Operand} {Q : Exit → (Nat → Value) → List DItem → Mem → Prop} (h : W G P rd nt y ta dm σ Q) (hc : oper2 ta c = .bool false := by exact rfl) : W G P rd nt (.cond c x y) ta dm σ Q :=
 W.cond hc (fun h => by cases h) fun _ => h
theorem W.c1 {x y : Code} {c : Operand} {Q : Exit → (Nat → Value) → List DItem → Mem → Prop} (h : W G P rd nt x ta dm σ Q) (hc : oper2 ta c = .bool true := by exact rfl) : W G P rd nt (.cond c x y) ta dm σ Q :=
 W.cond hc (fun _ => h) fun h => by cases h
end
end Go.Proofs.YtjcmdifpkafdkaaDoor
namespace Go.Proofs.YtjcmdifpkafdkaaDoor
theorem overL_take {cs vs : List Value} {p m : Nat} (h : p + vs.length ≤ m) (hm : m ≤ cs.length) : (overL cs p vs).take m = overL (cs.take m) p vs := by
 apply List.ext_getElem?
 intro i
 have hl : (cs.take m).length = m := by rw [List.length_take]; omega
 rw [List.getElem?_take, overL_get (by omega), overL_get (by omega), List.getElem?_take]
 by_cases h1 : i < m
 ·simp only [if_pos h1]
 ·simp only [if_neg h1]
  rw [if_neg (by omega)]
theorem slf_forms {F : Nat → Option Blk2} {s n : Nat} {v : Value} {xs : List Value} (h : SlF F s v n xs) : v = .slice none 0 0 ∨ (∃ c, v = .chan (some c)) ∨ ∃ b p sp n c, v = .slice (some ⟨b, p, sp⟩) n c := by
 cases h with
 | nil _ _ => exact .inl rfl
 | void c _ _ => exact .inr (.inl ⟨c, rfl⟩)
 | some _ _ _ => exact .inr (.inr ⟨_, _, _, _, _, rfl⟩)
section
variable {P : Program} {G : Nat} {A : Abs} {F : Nat → Option Blk2} {σ : Mem} {L : List Ent} {nt : Nat} {ops : Array Oper} {l : List Oper} {ta : Nat → Value} {rs : List (Rec × Mem)} {o : Oper} {K : List (Rec × Mem) → (Nat → Value) → Mem → Prop}
theorem RW.idxGS (H : Lies G A F σ L) (j : Nat) {e0 s n : Nat} {v : Value} {xs : List Value} (hs : lookL L j = some (.sl e0 s v n xs)) {t e : TypeId} {x ix : Operand} {k : IntKind} {i : Int} (hw : wantedT ops ta o = true) (hk : opndOk G o = true) (ho : o.op = .indexAddr t x ix) (hu : P.underlying t = some (.slice e)) (hsz : sizeT P e = some s) (hx : oper2 ta x = v) (hi : oper2 ta ix = .int k i) (hin : 0 ≤ i ∧ i < n) (hd : dstOk nt o.dst = true)
    (h : ∀ b q, blkOf v = some b → q = i.toNat * s → RW G P nt ops l (putO ta o.dst (.pointer (some ⟨b, q, none⟩))) σ ((.val (.pointer (some ⟨b, q, none⟩)), σ) :: rs) K) : RW G P nt ops (o :: l) ta σ rs K := by
  have hg := H.sl j hs
  cases hg with
  | nil => exact absurd hin.2 (by omega)
  | @row b n c r xs hq hr ht hc hl hx0 => exact RW.idx hw hk ho hu hsz hx hi hin hd (h b (0 + i.toNat * s) rfl (Nat.zero_add _))
theorem RW.stG (H : Lies G A F σ L) (k : Nat) {e s n b p : Nat} {v : Value} {xs vs : List Value} (hs : lookL L k = some (.sl e s v n xs)) (hb : blkOf v = some b) (hp : p + vs.length ≤ n * s) {t : TypeId} {a x : Operand} (hw : wantedT ops ta o = true) (hk : opndOk G o = true) (ho : o.op = .store t a x) (ha : oper2 ta a = .pointer (some ⟨b, p, none⟩)) (hx : (oper2 ta x).cells.toList = vs) (h1 : vs.all (·.oneCell') = true) (hsz : sizeT P t = some vs.length) (hd : dstOk nt o.dst = true)
    (h : ∀ σ', Lies G A F σ' (setL L k (.sl e s v n (overL xs p vs))) → RW G P nt ops l (putO ta o.dst undef) σ' ((.eff undef, σ) :: rs) K) : RW G P nt ops (o :: l) ta σ rs K := by
  have hg := H.sl k hs
  cases hg with
  | nil => cases hb
  | @row q n c r xs hq hr ht hc hl hx0 =>
    obtain rfl : q = b := by simpa [blkOf] using hb
    have hls : n * s ≤ c * s := Nat.mul_le_mul_right _ hl
    have hsv : (oper2 ta x).cells.size = vs.length := by rw [← hx]; simp
    have he := eop_store (P := P) (G := G) ho ha hq hr (by rw [hsz, hsv]) (by rw [hsv, hc]; omega) (by rw [← Array.all_toList, hx]; exact h1)
    rw [hx] at he
    refine RW.eff hw hk he hd (h _ (H.grown k hs (.row hq (get_put hr) ht ?_ hl ?_) (Nat.le_refl _) rfl (fun c y hy hne => get_put_ne hy (fun e => hne (by rw [e]; rfl))) fun c hc => .inl hc))
    · show (overL r.cs p vs).length = _
      rw [overL_len (by rw [hc]; omega), hc]
    · show (overL r.cs p vs).take (n * s) = _
      rw [overL_take hp (by rw [hc]; exact hls), hx0]
end
end Go.Proofs.YtjcmdifpkafdkaaDoor
namespace Go.Proofs.YtjcmdifpkafdkaaDoor
section
variable {G : Nat} {A : Abs} {F : Nat → Option Blk2} {σ : Mem}
theorem allOk_perm {L L' : List Ent} (p : L.Perm L') : AllOk G σ L → AllOk G σ L' := by
 induction p with
 | nil => exact id
 | cons x _ ih => exact fun h => ⟨h.1, ih h.2⟩
 | swap x y l => exact fun h => ⟨h.2.1, h.1, h.2.2⟩
 | trans _ _ ih1 ih2 => exact fun h => ih2 (ih1 h)
theorem apart_perm {L L' : List Ent} (p : L.Perm L') : Apart F L → Apart F L' := by
 induction p with
 | nil => exact id
 | cons x p ih => exact fun h => ⟨fun b hb => ⟨(h.1 b hb).1, fun y hy => (h.1 b hb).2 y (p.mem_iff.2 hy)⟩, ih h.2⟩
 | swap x y l =>
  intro h
  refine ⟨fun b hb => ⟨(h.2.1 b hb).1, fun z hz => ?_⟩, fun b hb => ⟨(h.1 b hb).1, fun z hz => (h.1 b hb).2 z (List.mem_cons_of_mem _ hz)⟩, h.2.2⟩
  rcases List.mem_cons.1 hz with e | e
  ·subst e
   exact fun hb2 => (h.1 b hb2).2 x (List.mem_cons_self ..) hb
  ·exact (h.2.1 b hb).2 z e
 | trans _ _ ih1 ih2 => exact fun h => ih2 (ih1 h)
theorem Lies.perm {L L' : List Ent} (H : Lies G A F σ L) (p : L.Perm L') : Lies G A F σ L' := ⟨H.gn, H.old, H.abs, allOk_perm p H.ok, apart_perm p H.apart⟩
theorem Lies.rot {B X L : List Ent} (H : Lies G A F σ (B ++ (X ++ L))) : Lies G A F σ (X ++ (B ++ L)) := by
 refine H.perm ?_
 rw [← List.append_assoc, ← List.append_assoc]
 exact List.perm_append_comm.append_right L
theorem perm_front : ∀ {L : List Ent} {k : Nat} {x : Ent}, lookL L k = some x → L.Perm (x :: delL L k)
 | [], _, _, h => by cases h
 | y :: l, 0, x, h => by cases h; exact List.Perm.refl _
 | y :: l, k + 1, x, h => ((perm_front (L := l) (k := k) h).cons y).trans (List.Perm.swap x y _)
theorem Lies.front {L : List Ent} (H : Lies G A F σ L) (k : Nat) {x : Ent} (h : lookL L k = some x) : Lies G A F σ (x :: delL L k) := H.perm (perm_front h)
end
end Go.Proofs.YtjcmdifpkafdkaaDoor
