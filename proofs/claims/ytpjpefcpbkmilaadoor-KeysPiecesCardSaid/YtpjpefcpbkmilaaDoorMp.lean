/-
  Maps within a walk: what a lookup answers and what an entry's setting leaves, of the entries alone. Over any program. Conditions: none.
-/
import Derived.Test.YtpjpefcpbkmilaaDoorS4
namespace Go.Proofs.YtpjpefcpbkmilaaDoor

noncomputable def lookE (P : Program) (es : List (Value × Value)) (t : TypeId) (k : Value) (ok : Bool) : Option Value :=
  match uT P t with
  | some (.map kt et) => (match uT P kt, zeroT P et with
    | some d, some z => if keyOk P kt d k = true ∧ closedV 2 k = true ∧ closedV 2 z = true then (match findX P kt d k es 0 with
      | some (some (_, x)) => some (if ok then .tuple #[x, .bool true] else x)
      | some none => some (if ok then .tuple #[z, .bool false] else z)
      | none => none) else none
    | _, _ => none)
  | _ => none
noncomputable def updE (P : Program) (es : List (Value × Value)) (cl : Nat) (t : TypeId) (k x : Value) : Option (List (Value × Value) × Nat) :=
  match uT P t with
  | some (.map kt _) => (match uT P kt with
    | some d => if keyOk P kt d k = true ∧ closedV 2 k = true ∧ cl = es.length then (match findX P kt d k es 0 with
      | some none => some (es ++ [(k, x)], cl + 1)
      | _ => none) else none
    | none => none)
  | _ => none
section
variable {P : Program} {G : Nat} {A : Abs} {F : Nat → Option Blk2} {σ : Mem} {L : List Ent} {nt : Nat} {ops : Array Oper} {l : List Oper} {ta : Nat → Value} {rs : List (Rec × Mem)} {o : Oper} {b cl : Nat} {es : List (Value × Value)}
theorem lookE_F {t : TypeId} {k v : Value} {ok : Bool} (h : σ.get b = some (.ents es cl)) (e : lookE P es t k ok = some v) : lookupF P σ t (.map (some b)) k ok = some v := by
  unfold lookE at e
  unfold lookupF
  split at e
  · rename_i kt et hu
    split at e
    · rename_i d z hd hz
      simp only [hu, h, hd, hz]
      exact e
    · cases e
  · cases e
theorem updE_F {t : TypeId} {k x : Value} {es' : List (Value × Value)} {cl' : Nat} (h : σ.get b = some (.ents es cl)) (hG : G ≤ b) (e : updE P es cl t k x = some (es', cl')) : updateF G P σ t (.map (some b)) k x = some (.put b (.ents es' cl')) := by
  unfold updE at e
  unfold updateF
  split at e
  · rename_i kt et hu
    split at e
    · rename_i d hd
      simp only [hu, h, hd]
      split at e
      · rename_i hc
        rw [if_pos ⟨hG, hc⟩]
        split at e
        · rename_i hf
          rw [hf]
          cases e
          rfl
        · cases e
      · cases e
    · cases e
  · cases e
theorem RW.lkL {K : List (Rec × Mem) → (Nat → Value) → Mem → Prop} (H : Lies G A F σ L) (i : Nat) {t : TypeId} {m k : Operand} {ok : Bool} (v : Value)
    (h : RW G P nt ops l (putO ta o.dst v) σ ((.eff v, σ) :: rs) K) (ho : o.op = .lookup t m k ok := by exact rfl) (hm : oper2 ta m = .map (some b) := by exact rfl) (hr : lookL L i = some (.at_ b (.ents es cl)) := by exact rfl) (hv : lookE P es t (oper2 ta k) ok = some v := by kernel_rfl) (hw : wantedT ops ta o = true := by kernel_rfl) (hk : opndOk G o = true := by kernel_rfl) (hd : dstOk nt o.dst = true := by kernel_rfl) : RW G P nt ops (o :: l) ta σ rs K :=
  RW.eff hw hk (eop_lookup ho (by rw [hm]; exact lookE_F (H.get i hr) hv)) hd h
theorem RW.upL {K : (Nat → Value) → Mem → Prop} (H : Lies G A F σ L) (i : Nat) (es' : List (Value × Value)) (cl' : Nat) {t : TypeId} {m k x : Operand}
    (h : ∀ σ' rs', Lies G A F σ' (setL L i (.at_ b (.ents es' cl'))) → RW G P nt ops l (putO ta o.dst undef) σ' rs' fun _ => K) (ho : o.op = .mapUpdate t m k x ∨ o.op = .insert t m k x := by first | exact .inl rfl | exact .inr rfl) (hm : oper2 ta m = .map (some b) := by exact rfl) (hr : lookL L i = some (.at_ b (.ents es cl)) := by exact rfl) (hv : updE P es cl t (oper2 ta k) (oper2 ta x) = some (es', cl') := by kernel_rfl) (hw : wantedT ops ta o = true := by kernel_rfl) (hk : opndOk G o = true := by kernel_rfl) (hd : dstOk nt o.dst = true := by kernel_rfl) : RW G P nt ops (o :: l) ta σ rs fun _ => K :=
  RW.eff hw hk (eop_update (cmd := .put b (.ents es' cl')) ho (by rw [hm]; exact updE_F (H.get i hr) (H.low i hr) hv)) hd (h _ _ (H.put i _ hr))
theorem RW.mkM {K : (Nat → Value) → Mem → Prop} (H : Lies G A F σ L)
    (h : ∀ σ' b rs', Lies G A F σ' (.at_ b (.ents [] 0) :: L) → RW G P nt ops l (putO ta o.dst (.map (some b))) σ' rs' fun _ => K) (hs : stepOp G P σ o (oper2 ta) = some (.make (.ents [] 0) fun b => .map (some b)) := by kernel_rfl) (hw : wantedT ops ta o = true := by kernel_rfl) (hk : opndOk G o = true := by kernel_rfl) (hd : dstOk nt o.dst = true := by kernel_rfl) : RW G P nt ops (o :: l) ta σ rs fun _ => K :=
  RW.mkL H hw hk hs hd h
end
end Go.Proofs.YtpjpefcpbkmilaaDoor
