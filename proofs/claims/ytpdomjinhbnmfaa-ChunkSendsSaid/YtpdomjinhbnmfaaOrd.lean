/- A region that draws its order, walked once in the text's order, its callees handing back what hangs on memory (a row, a new record), its stores told by what stays told behind them. -/
import Derived.Test.YtpdomjinhbnmfaaAuto
set_option linter.unusedSimpArgs false
set_option linter.unusedVariables false
set_option linter.unnecessarySimpa false
namespace Go.Proofs.Ytpdomjinhbnmfaa
open Go.RowKit

/-- What is known, and of whose slot. -/
abbrev Facts := Option Tmp × (World → Prop) → Prop
def Facts.none : Facts := fun _ => False
def Facts.add (G : Facts) (d : Option Tmp) (E : World → Prop) : Facts := fun k => k = (d, E) ∨ G k
def Facts.all (G : Facts) (w : World) : Prop := ∀ k, G k → k.2 w
def Facts.may (ops : Array Oper) (o : Oper) (G : Facts) (w : World) : Prop := ∀ k, G k → (∃ d, k.1 = some d ∧ d ∈ o.looksAt ops) → k.2 w
def Facts.mono (R : World → World → Prop) (G : Facts) : Prop := ∀ k, G k → ∀ w w', k.2 w → R w w' → k.2 w'

theorem Facts.add_comm (G : Facts) (d e : Option Tmp) (E F : World → Prop) : (G.add d E).add e F = (G.add e F).add d E := by
  funext k
  simp only [Facts.add]
  rw [eq_iff_iff, ← or_assoc, ← or_assoc, or_comm (a := k = (e, F))]
theorem Facts.all_add {G : Facts} {d : Option Tmp} {E : World → Prop} {w : World} : (G.add d E).all w ↔ E w ∧ G.all w :=
  ⟨fun h => ⟨h _ (.inl rfl), fun k hk => h k (.inr hk)⟩, fun ⟨h1, h2⟩ k hk => by rcases hk with rfl | hk; exact h1; exact h2 k hk⟩
theorem Facts.may_of_all {ops : Array Oper} {o : Oper} {G : Facts} {w : World} (h : G.all w) : G.may ops o w := fun k hk _ => h k hk
theorem Facts.may_add {ops : Array Oper} {o : Oper} {G : Facts} {d : Option Tmp} {E : World → Prop} {w : World} (hd : ∀ x, d = some x → x ∉ o.looksAt ops) : (G.add d E).may ops o w ↔ G.may ops o w :=
  ⟨fun h k hk => h k (.inr hk), fun h k hk hl => by
    rcases hk with rfl | hk
    · obtain ⟨x, hx, hm⟩ := hl
      exact absurd hm (hd x hx)
    · exact h k hk hl⟩
theorem Facts.may_less {ops : Array Oper} {o : Oper} {G : Facts} {d : Option Tmp} {E : World → Prop} {w : World} (h : (G.add d E).may ops o w) : G.may ops o w := fun k hk => h k (.inr hk)
theorem Facts.mono_add {R : World → World → Prop} {G : Facts} {d : Option Tmp} {E : World → Prop} (h : G.mono R) (hE : ∀ w w', E w → R w w' → E w') : (G.add d E).mono R := fun k hk => by
  rcases hk with rfl | hk
  · exact hE
  · exact h k hk
theorem Facts.all_next {R : World → World → Prop} {G : Facts} {w w' : World} (h : G.mono R) (ha : G.all w) (hr : R w w') : G.all w' := fun k hk => h k hk w w' (ha k hk) hr

section
variable (P : Program) (ops : Array Oper) (md : Region.Mode) (sp : Nat → Option (Value → World → Prop)) (C : World → Prop) (R : World → World → Prop)

/-- An operation, carried out in w, ends well. -/
def gUpon (w : World) (F : Value → World → Prop) : Result Next → Prop
  | .ok (.value u) w' => C w' ∧ R w w' ∧ F u w'
  | .ok .skip w' => C w' ∧ R w w' ∧ F undef w'
  | .ok (.enter f args) w' => w' = w ∧ Calls P f args w (fun e w'' => ∃ v, e = .returned v ∧ C w'' ∧ R w w'' ∧ F v w'')
  | _ => False
/-- It leaves the world alone. -/
def gStill (w : World) (v : Value) : Result Next → Prop
  | .ok (.value u) w' => w' = w ∧ u = v
  | .ok .skip w' => w' = w ∧ v = undef
  | _ => False

def gOp (i : Nat) (K : Act → Facts → Prop) (a : Act) (G : Facts) : Prop :=
  match ops[i]? with
  | none => K a G
  | some o =>
    if Region.wanted o (yielded ops a.tmps) = true then
      match sp i with
      | none => ∃ v, (∀ w, C w → G.may ops o w → gStill w v ((execOp a.eval o).run P w)) ∧ K (a.put o.dst v) G
      | some F => (∀ w, C w → G.may ops o w → gUpon P C R w F ((execOp a.eval o).run P w)) ∧ ∀ v, (∃ w, C w ∧ F v w ∧ G.all w) → K (a.put o.dst v) (G.add o.dst (F v))
    else K (a.put o.dst undef) G

def wpAnyG (Q : Act → Facts → Prop) : Nat → Array Bool → Act → Facts → Prop
  | 0, listed, a, G => Region.ready md ops listed = [] ∧ Q a G
  | fuel + 1, listed, a, G => (Region.ready md ops listed = [] → Q a G) ∧ ∀ i ∈ Region.ready md ops listed, gOp P ops sp C R i (wpAnyG Q fuel (listed.setIfInBounds i true)) a G

/-- The text's order. -/
def wpLex (Q : Act → Facts → Prop) : Nat → Nat → Act → Facts → Prop
  | 0, _, a, G => Q a G
  | n + 1, k, a, G => gOp P ops sp C R k (wpLex Q n (k + 1)) a G
end

section
variable {P : Program} {ops : Array Oper} {md : Region.Mode} {sp : Nat → Option (Value → World → Prop)} {C : World → Prop} {R : World → World → Prop}

/-- There is a world. -/
def Inh (C : World → Prop) (G : Facts) : Prop := ∃ w, C w ∧ G.all w

theorem gUpon_some {w : World} {F : Value → World → Prop} {r : Result Next} (h : gUpon P C R w F r) : ∃ v w', C w' ∧ R w w' ∧ F v w' := by
  cases r with
  | ok n w' =>
    cases n <;> simp only [gUpon] at h
    case value u => exact ⟨u, w', h⟩
    case skip => exact ⟨undef, w', h⟩
    case enter f args =>
      obtain ⟨rfl, hc⟩ := h
      obtain ⟨e, w'', fr, ⟨v, _, hv⟩, _⟩ := hc []
      exact ⟨v, w'', hv⟩
  | halt x w' => simp only [gUpon] at h

theorem gOp_mono (hsp : ∀ i F, sp i = some F → ∀ v w w', F v w → R w w' → F v w') {i : Nat} {K K' : Act → Facts → Prop} {a : Act} {G : Facts} (hi : Inh C G) (hm : G.mono R) (h : ∀ a G, Inh C G → G.mono R → K a G → K' a G) (hh : gOp P ops sp C R i K a G) : gOp P ops sp C R i K' a G := by
  unfold gOp at *
  cases ho : ops[i]? with
  | none => simp only [ho] at hh; exact h _ _ hi hm hh
  | some o =>
    simp only [ho] at hh ⊢
    by_cases hw : Region.wanted o (yielded ops a.tmps) = true
    · rw [if_pos hw] at hh ⊢
      cases hs : sp i with
      | none =>
        simp only [hs] at hh ⊢
        obtain ⟨v, h1, h2⟩ := hh
        exact ⟨v, h1, h _ _ hi hm h2⟩
      | some F =>
        simp only [hs] at hh ⊢
        refine ⟨hh.1, fun v hv => h _ _ ?_ (Facts.mono_add hm (fun w w' => hsp i F hs v w w')) (hh.2 v hv)⟩
        obtain ⟨w, c, f, g⟩ := hv
        exact ⟨w, c, Facts.all_add.2 ⟨f, g⟩⟩
    · rw [if_neg hw] at hh ⊢
      exact h _ _ hi hm hh

theorem gOp_some {i : Nat} {K : Act → Facts → Prop} {a : Act} {G : Facts} (hi : Inh C G) (hm : G.mono R) (hh : gOp P ops sp C R i K a G) : ∃ a' G', K a' G' := by
  unfold gOp at hh
  cases ho : ops[i]? with
  | none => simp only [ho] at hh; exact ⟨_, _, hh⟩
  | some o =>
    simp only [ho] at hh
    by_cases hw : Region.wanted o (yielded ops a.tmps) = true
    · rw [if_pos hw] at hh
      cases hs : sp i with
      | none => simp only [hs] at hh; obtain ⟨v, _, h2⟩ := hh; exact ⟨_, _, h2⟩
      | some F =>
        simp only [hs] at hh
        obtain ⟨w, hc, ha⟩ := hi
        obtain ⟨v, w', c', r', f'⟩ := gUpon_some (hh.1 w hc (Facts.may_of_all ha))
        exact ⟨_, _, hh.2 v ⟨w', c', f', Facts.all_next hm ha r'⟩⟩
    · rw [if_neg hw] at hh
      exact ⟨_, _, hh⟩

theorem gStill_same {w : World} {v u : Value} {r : Result Next} (h : gStill w v r) (k : gStill w u r) : v = u := by
  cases r with
  | ok n w' =>
    cases n <;> simp only [gStill] at h k
    case value x => rw [← h.2, ← k.2]
    case skip => rw [h.2, k.2]
  | halt x w' => simp only [gStill] at h

theorem gOp_swap (hsp : ∀ i F, sp i = some F → ∀ v w w', F v w → R w w' → F v w') {i j : Nat} {oi oj : Oper} {K : Act → Facts → Prop} {a : Act} {G : Facts} (hi : ops[i]? = some oi) (hj : ops[j]? = some oj) (hap : oi.apart ops oj = true)
    (hsi : ∀ cs b, oi.op ≠ .select cs b) (hsj : ∀ cs b, oj.op ≠ .select cs b) (hinh : Inh C G) (hm : G.mono R)
    (h : gOp P ops sp C R i (gOp P ops sp C R j K) a G) : gOp P ops sp C R j (gOp P ops sp C R i K) a G := by
  obtain ⟨h1, h2, h3⟩ := Oper.apart_spec hap
  have wi : ∀ (a : Act) v, Region.wanted oi (yielded ops (a.put oj.dst v).tmps) = Region.wanted oi (yielded ops a.tmps) := fun a v => wanted_put oi a oj.dst v h3
  have wj : ∀ (a : Act) v, Region.wanted oj (yielded ops (a.put oi.dst v).tmps) = Region.wanted oj (yielded ops a.tmps) := fun a v => wanted_put oj a oi.dst v h1
  have xi : ∀ (a : Act) v, execOp (Act.put a oj.dst v).eval oi = execOp (Act.eval a) oi := fun a v => execOp_put oi hsi a oj.dst v h3
  have xj : ∀ (a : Act) v, execOp (Act.put a oi.dst v).eval oj = execOp (Act.eval a) oj := fun a v => execOp_put oj hsj a oi.dst v h1
  have pc : ∀ (a : Act) v u, (a.put oi.dst v).put oj.dst u = (a.put oj.dst u).put oi.dst v := fun a v u => Act.put_comm a v u h2
  have m1 : ∀ (G : Facts) E w, (G.add oi.dst E).may ops oj w ↔ G.may ops oj w := fun G E w => Facts.may_add h1
  have m3 : ∀ (G : Facts) E w, (G.add oj.dst E).may ops oi w ↔ G.may ops oi w := fun G E w => Facts.may_add h3
  unfold gOp at *
  simp only [hi, hj] at *
  simp only [wi, wj, xi, xj] at *
  by_cases w1 : Region.wanted oi (yielded ops a.tmps) = true <;> by_cases w2 : Region.wanted oj (yielded ops a.tmps) = true
  · rw [if_pos w1] at h
    simp only [w1, w2, if_true] at *
    cases s1 : sp i <;> cases s2 : sp j <;> simp only [s1, s2] at *
    · obtain ⟨v, e1, u, e2, k⟩ := h
      exact ⟨u, e2, v, e1, by rw [← pc]; exact k⟩
    · obtain ⟨v, e1, e2, k⟩ := h
      exact ⟨e2, fun u hu => ⟨v, fun w c m => e1 w c (Facts.may_less m), by rw [← pc]; exact k u hu⟩⟩
    · obtain ⟨e1, k⟩ := h
      obtain ⟨w0, c0, a0⟩ := hinh
      obtain ⟨v0, w', c', r', f'⟩ := gUpon_some (e1 w0 c0 (Facts.may_of_all a0))
      obtain ⟨u0, q0, _⟩ := k v0 ⟨w', c', f', Facts.all_next hm a0 r'⟩
      refine ⟨u0, fun w c m => q0 w c ((m1 _ _ _).2 m), e1, fun v hv => ?_⟩
      obtain ⟨u, q, kk⟩ := k v hv
      have e : u = u0 := gStill_same (q w0 c0 ((m1 _ _ _).2 (Facts.may_of_all a0))) (q0 w0 c0 ((m1 _ _ _).2 (Facts.may_of_all a0)))
      subst e
      rw [← pc]
      exact kk
    · obtain ⟨e1, k⟩ := h
      obtain ⟨w0, c0, a0⟩ := hinh
      obtain ⟨v0, w', c', r', f'⟩ := gUpon_some (e1 w0 c0 (Facts.may_of_all a0))
      refine ⟨fun w c m => (k v0 ⟨w', c', f', Facts.all_next hm a0 r'⟩).1 w c ((m1 _ _ _).2 m), fun u hu => ⟨fun w c m => e1 w c ((m3 _ _ _).1 m), fun v hv => ?_⟩⟩
      obtain ⟨w, c, fv, aw⟩ := hv
      obtain ⟨fu, ag⟩ := Facts.all_add.1 aw
      have := (k v ⟨w, c, fv, ag⟩).2 u ⟨w, c, fu, Facts.all_add.2 ⟨fv, ag⟩⟩
      rw [pc, Facts.add_comm] at this
      exact this
  · rw [if_pos w1] at h
    simp only [w1, w2, if_true, if_false, Bool.false_eq_true] at *
    cases s1 : sp i <;> simp only [s1] at *
    · obtain ⟨v, e1, k⟩ := h
      exact ⟨v, e1, by rw [← pc]; exact k⟩
    · obtain ⟨e1, k⟩ := h
      exact ⟨e1, fun v hv => by rw [← pc]; exact k v hv⟩
  · rw [if_neg w1] at h
    simp only [w1, w2, if_true, if_false, Bool.false_eq_true] at *
    cases s2 : sp j <;> simp only [s2] at *
    · obtain ⟨u, e2, k⟩ := h
      exact ⟨u, e2, by rw [← pc]; exact k⟩
    · obtain ⟨e2, k⟩ := h
      exact ⟨e2, fun u hu => by rw [← pc]; exact k u hu⟩
  · rw [if_neg w1] at h
    simp only [w1, w2, if_false, Bool.false_eq_true] at *
    rw [← pc]
    exact h

theorem wpAnyG_first (hsp : ∀ i F, sp i = some F → ∀ v w w', F v w → R w w' → F v w') {Q : Act → Facts → Prop} {i : Nat} {oi : Oper} (hi : ops[i]? = some oi) (hsel : ∀ (j : Nat) (o : Oper) cs b, ops[j]? = some o → o.op ≠ .select cs b) :
    ∀ (fuel : Nat) (listed : Array Bool) (a : Act) (G : Facts), Inh C G → G.mono R →
      (∀ j oj, ops[j]? = some oj → j ≠ i → listed.getD j true = false → (∀ e ∈ oj.after, Region.binds md e = true → e.on ≠ i) → oi.apart ops oj = true) →
      i ∈ Region.ready md ops listed → gOp P ops sp C R i (wpAnyG P ops md sp C R Q fuel (listed.setIfInBounds i true)) a G → wpAnyG P ops md sp C R Q (fuel + 1) listed a G := by
  intro fuel
  induction fuel with
  | zero =>
    intro listed a G hinh hm _ hr H
    refine ⟨fun h => (by rw [h] at hr; cases hr), fun j hj => ?_⟩
    by_cases hji : j = i
    · subst hji; exact H
    · have := ready_mono hj hji
      obtain ⟨a', G', h0, _⟩ := gOp_some hinh hm H
      rw [h0] at this
      cases this
  | succ fuel ih =>
    intro listed a G hinh hm hfree hr H
    refine ⟨fun h => (by rw [h] at hr; cases hr), fun j hj => ?_⟩
    by_cases hji : j = i
    · subst hji; exact H
    · obtain ⟨hjun, oj, hoj, hall⟩ := mem_ready.1 hj
      have hnot : ∀ e ∈ oj.after, Region.binds md e = true → e.on ≠ i := fun e he hb heq => by
        have h1 := hall e he hb
        have h0 := (mem_ready.1 hr).1
        rw [heq] at h1
        rcases Nat.lt_or_ge i listed.size with h' | h'
        · simp [h'] at h0 h1; rw [h0] at h1; cases h1
        · simp [Array.getElem?_eq_none h'] at h1
      have h1 : gOp P ops sp C R i (gOp P ops sp C R j (wpAnyG P ops md sp C R Q fuel ((listed.setIfInBounds i true).setIfInBounds j true))) a G :=
        gOp_mono hsp hinh hm (fun a' G' _ _ h => h.2 j (ready_mono hj hji)) H
      have h2 := gOp_swap hsp hi hoj (hfree j oj hoj hji hjun hnot) (fun cs b => hsel i oi cs b hi) (fun cs b => hsel j oj cs b hoj) hinh hm h1
      have hfree' : ∀ k ok, ops[k]? = some ok → k ≠ i → (listed.setIfInBounds j true).getD k true = false →
          (∀ e ∈ ok.after, Region.binds md e = true → e.on ≠ i) → oi.apart ops ok = true := fun k ok hk hki hun hno => by
        refine hfree k ok hk hki ?_ hno
        by_cases hjk : j = k
        · subst hjk; exact hjun
        · rw [getD_set_ne true hjk] at hun; exact hun
      refine gOp_mono hsp hinh hm (fun a' G' hi' hm' h3 => ih (listed.setIfInBounds j true) a' G' hi' hm' hfree' (ready_mono hr (Ne.symm hji)) ?_) h2
      rw [Array.setIfInBounds_comm _ _ hji]
      exact h3

theorem wpAnyG_lex (hsp : ∀ i F, sp i = some F → ∀ v w w', F v w → R w w' → F v w') {Q : Act → Facts → Prop} (hs : Region.noSelect ops = true) : ∀ (n k : Nat) (listed : Array Bool) (a : Act) (G : Facts), Inh C G → G.mono R → k + n = ops.size →
    Region.lexFrom md ops n k listed = true → wpLex P ops sp C R Q n k a G → wpAnyG P ops md sp C R Q n listed a G
  | 0, _, _, _, _, _, _, _, hB, h => ⟨by simpa [Region.lexFrom] using hB, h⟩
  | n + 1, k, listed, a, G, hinh, hm, hk, hB, h => by
    have h0 : ops[k]? = some ops[k] := Array.getElem?_eq_getElem (by omega)
    simp only [Region.lexFrom, Bool.and_eq_true] at hB
    obtain ⟨⟨hr, hf⟩, hB'⟩ := hB
    refine wpAnyG_first hsp h0 (Region.noSelect_spec hs) n listed a G hinh hm (Region.free_spec h0 hf) (by simpa using hr) ?_
    exact gOp_mono hsp hinh hm (fun a' G' hi' hm' h' => wpAnyG_lex hsp hs n (k + 1) _ a' G' hi' hm' (by omega) hB' h') h

theorem wpAny_of_good (hsp : ∀ i F, sp i = some F → ∀ v w w', F v w → R w w' → F v w') {Q : Act → Facts → Prop} {Q' : Exit → Act → World → Prop} (hQ : ∀ a G w, C w → G.all w → Q a G → Q' .normal a w) : ∀ (fuel : Nat) (listed : Array Bool) (a : Act) (G : Facts) (w : World), C w → G.all w → G.mono R →
    wpAnyG P ops md sp C R Q fuel listed a G → wpAny P md ops Q' fuel listed a w
  | 0, _, _, _, _, hw, ha, _, h => ⟨h.1, hQ _ _ _ hw ha h.2⟩
  | fuel + 1, listed, a, G, w, hw, ha, hm, h => ⟨fun h0 => hQ _ _ _ hw ha (h.1 h0), fun i hi => by
      have hh := h.2 i hi
      have ih := fun a G w hw ha hm => wpAny_of_good hsp hQ fuel (listed.setIfInBounds i true) a G w hw ha hm
      unfold gOp at hh
      unfold wpOp
      cases ho : ops[i]? with
      | none => simp only [ho] at hh ⊢; exact ih _ _ _ hw ha hm hh
      | some o =>
        simp only [ho] at hh ⊢
        by_cases hwd : Region.wanted o (yielded ops a.tmps) = true
        · rw [if_pos hwd] at hh ⊢
          refine .inl ?_
          unfold Oper.wp
          cases hs : sp i with
          | none =>
            simp only [hs] at hh
            obtain ⟨v, h1, h2⟩ := hh
            have h3 := h1 w hw (Facts.may_of_all ha)
            generalize (execOp a.eval o).run P w = r at *
            cases r with
            | ok n w' =>
              cases n <;> simp only [gStill] at h3 <;> simp only [Oper.upon]
              case value u => obtain ⟨rfl, rfl⟩ := h3; exact ih _ _ _ hw ha hm h2
              case skip => obtain ⟨rfl, rfl⟩ := h3; exact ih _ _ _ hw ha hm h2
            | halt x w' => simp only [gStill] at h3
          | some F =>
            simp only [hs] at hh
            have h3 := hh.1 w hw (Facts.may_of_all ha)
            have next : ∀ v w', C w' → R w w' → F v w' → wpAny P md ops Q' fuel (listed.setIfInBounds i true) (a.put o.dst v) w' := fun v w' c r f =>
              ih _ _ _ c (Facts.all_add.2 ⟨f, Facts.all_next hm ha r⟩) (Facts.mono_add hm (fun w w' => hsp i F hs v w w')) (hh.2 v ⟨w', c, f, Facts.all_next hm ha r⟩)
            generalize (execOp a.eval o).run P w = r at *
            cases r with
            | ok n w' =>
              cases n <;> simp only [gUpon] at h3 <;> simp only [Oper.upon]
              case value u => exact next u w' h3.1 h3.2.1 h3.2.2
              case skip => exact next undef w' h3.1 h3.2.1 h3.2.2
              case enter f args =>
                obtain ⟨rfl, hc⟩ := h3
                exact hc.mono fun e w'' ⟨v, he, c, r, f⟩ => by subst he; exact next v w'' c r f
            | halt x w' => simp only [gUpon] at h3
        · rw [if_neg hwd] at hh ⊢
          exact ih _ _ _ hw ha hm hh⟩

/-- One walk, in the text's order. -/
theorem wp_region_good (hsp : ∀ i F, sp i = some F → ∀ v w w', F v w → R w w' → F v w') {id : Nat} {Q : Exit → Act → World → Prop} {a : Act} {w : World} {l : List Oper} (hm : P.follows .mixedOrders = true) (hB : Region.lexB .any l.toArray = true) (hC : C w.drew)
    (h : wpLex P l.toArray sp C R (fun a' G => ∀ w', C w' → G.all w' → Q .normal a' w') l.length 0 a Facts.none) : (Code.region id l.toArray true).wp P Q a w := by
  simp only [Region.lexB, Bool.and_eq_true] at hB
  refine wp_region_any hm (wpAny_of_good (C := C) (R := R) (sp := sp) hsp (Q := fun a' G => ∀ w', C w' → G.all w' → Q .normal a' w') (fun _ _ w' hw' ha h => h w' hw' ha) _ _ _ Facts.none _ hC (fun k hk => hk.elim) (fun k hk => hk.elim) ?_)
  have := wpAnyG_lex (C := C) (R := R) (md := .any) hsp hB.1 l.length 0 (Array.replicate l.toArray.size false) a Facts.none ⟨w.drew, hC, fun k hk => hk.elim⟩ (fun k hk => hk.elim) (by simp) (by simpa using hB.2) h
  simpa using this
end

/-! ### The walk over the region's own text -/
section
variable (P : Program) (ops : Array Oper) (sp : Nat → Option (Value → World → Prop)) (C : World → Prop) (R : World → World → Prop)
def gStep (o : Oper) (i : Nat) (K : Act → Facts → Prop) (a : Act) (G : Facts) : Prop :=
  if Region.wanted o (yielded ops a.tmps) = true then
    match sp i with
    | none => ∃ v, (∀ w, C w → G.may ops o w → gStill w v ((execOp a.eval o).run P w)) ∧ K (a.put o.dst v) G
    | some F => (∀ w, C w → G.may ops o w → gUpon P C R w F ((execOp a.eval o).run P w)) ∧ ∀ v, (∃ w, C w ∧ F v w ∧ G.all w) → K (a.put o.dst v) (G.add o.dst (F v))
  else K (a.put o.dst undef) G
def wpGo (Q : Act → Facts → Prop) : List Oper → Nat → Act → Facts → Prop
  | [], _, a, G => Q a G
  | o :: l, k, a, G => gStep P ops sp C R o k (wpGo Q l (k + 1)) a G
end
section
variable {P : Program} {ops : Array Oper} {sp : Nat → Option (Value → World → Prop)} {C : World → Prop} {R : World → World → Prop} {Q : Act → Facts → Prop} {o : Oper} {l : List Oper} {k : Nat} {a : Act} {G : Facts}
theorem wpLex_of_go : ∀ (l : List Oper) (k : Nat) (a : Act) (G : Facts), (∀ j, l[j]? = ops[k + j]?) → wpGo P ops sp C R Q l k a G → wpLex P ops sp C R Q l.length k a G
  | [], _, _, _, _, h => h
  | o :: l, k, a, G, hl, h => by
    have h0 : ops[k]? = some o := by simpa using (hl 0).symm
    have ih := fun a G => wpLex_of_go l (k + 1) a G (fun j => by have := hl (j + 1); simpa [Nat.add_assoc, Nat.add_comm 1 j] using this)
    simp only [wpGo, gStep] at h
    simp only [List.length_cons, wpLex, gOp, h0]
    by_cases hw : Region.wanted o (yielded ops a.tmps) = true
    · rw [if_pos hw] at h ⊢
      cases hs : sp k with
      | none => simp only [hs] at h ⊢; obtain ⟨v, h1, h2⟩ := h; exact ⟨v, h1, ih _ _ h2⟩
      | some F => simp only [hs] at h ⊢; exact ⟨h.1, fun v hv => ih _ _ (h.2 v hv)⟩
    · rw [if_neg hw] at h ⊢
      exact ih _ _ h

theorem wp_region_go {id : Nat} {Q : Exit → Act → World → Prop} {a : Act} {w : World} {l : List Oper} (hm : P.follows .mixedOrders = true) (hB : Region.lexB .any l.toArray = true)
    (hsp : ∀ i F, sp i = some F → ∀ v w w', F v w → R w w' → F v w') (hC : C w.drew)
    (h : wpGo P l.toArray sp C R (fun a' G => ∀ w', C w' → G.all w' → Q .normal a' w') l 0 a Facts.none) : (Code.region id l.toArray true).wp P Q a w :=
  wp_region_good hsp hm hB hC (wpLex_of_go l 0 a Facts.none (by intro j; simp) h)

/-- Operations that enter nothing. -/
def plainOp : Op → Bool
  | .move _ | .assign _ | .pick _ _ _ | .load _ _ | .binOp _ _ _ _ _ | .unOp _ _ _ | .convert _ _ _ | .slice _ _ _ _ _ | .fieldAddr _ _ _ | .field _ _ _ | .indexAddr _ _ _ | .index _ _ _ | .extract _ _ | .build _ _ | .makeInterface _ _ | .makeFunc _ _ _ => true
  | .call { callee := .builtin .len, .. } => true
  | .call { callee := .builtin .cap, .. } => true
  | .call { callee := .builtin .max, .. } => true
  | .call { callee := .builtin .min, .. } => true
  | _ => false
theorem noEnter {s : Sem Value} {w : World} {f : FuncId} {args : Array Value} {w' : World} : (do let x ← s; pure (Next.value x) : Sem Next).run P w ≠ .ok (.enter f args) w' := by
  intro h
  rw [Sem.run_bind] at h
  cases hs : s.run P w with
  | ok x w1 => rw [hs] at h; simp at h
  | halt x w1 => rw [hs] at h; simp [Result.andThen] at h
theorem plain_enter {ρ : Operand → Value} (hp : plainOp o.op = true) {w : World} {f : FuncId} {args : Array Value} {w' : World} : (execOp ρ o).run P w ≠ .ok (.enter f args) w' := by
  obtain ⟨dst, op, type, pos, after, guard⟩ := o
  cases op
  case move x => intro h; simp [execOp] at h
  case assign x => intro h; simp [execOp] at h
  case pick c a b =>
    intro h
    simp only [execOp, Sem.run_bind] at h
    cases hs : (asBool (ρ c)).run P w with
    | ok x w1 => rw [hs] at h; simp at h
    | halt x w1 => rw [hs] at h; simp [Result.andThen] at h
  case call c =>
    obtain ⟨callee, ars, ats⟩ := c
    cases callee
    case builtin b =>
      cases b <;> simp [plainOp] at hp
      all_goals
        simp only [execOp, resolve, Sem.run_bind, Sem.run_pure, Result.andThen_ok, invoke]
        exact noEnter
    all_goals simp [plainOp] at hp
  all_goals first
    | (simp [plainOp] at hp; done)
    | exact noEnter
theorem still_of_quiet {v : Value} {w : World} (hp : plainOp o.op = true) (h : o.quietAt P a C w v) : gStill w v ((execOp a.eval o).run P w) := by
  have hn : ∀ f args w', (execOp a.eval o).run P w ≠ .ok (.enter f args) w' := fun f args w' => plain_enter hp
  unfold Oper.quietAt at h
  generalize (execOp a.eval o).run P w = r at *
  cases r with
  | ok n w' =>
    cases n <;> simp only [Oper.quietUpon] at h <;> simp only [gStill]
    case value u => exact h
    case skip => exact h
    case enter f args => exact absurd rfl (hn f args w')
  | halt x w' => simp only [Oper.quietUpon] at h

theorem go_nil (h : Q a G) : wpGo P ops sp C R Q [] k a G := h
theorem go_skip' (hw : Region.wanted o (yielded ops a.tmps) = false) (h : wpGo P ops sp C R Q l (k + 1) (a.put o.dst undef) G) : wpGo P ops sp C R Q (o :: l) k a G := by
  simp only [wpGo, gStep]
  rw [if_neg (by rw [hw]; exact Bool.false_ne_true)]
  exact h
theorem go_quiet' (hs : sp k = none) (hp : plainOp o.op = true) (hw : Region.wanted o (yielded ops a.tmps) = true) (h : ∀ K : Act → Prop, (∀ a, wpGo P ops sp C R Q l (k + 1) a G → K a) → o.quiet P a C K) : wpGo P ops sp C R Q (o :: l) k a G := by
  simp only [wpGo, gStep]
  rw [if_pos hw, hs]
  obtain ⟨v, h1, h2⟩ := h _ (fun _ h => h)
  exact ⟨v, fun w c _ => still_of_quiet hp (h1 w c), h2⟩
theorem go_fact (hs : sp k = none) (hw : Region.wanted o (yielded ops a.tmps) = true) (v : Value) (h1 : ∀ w, C w → G.may ops o w → gStill w v ((execOp a.eval o).run P w)) (h2 : wpGo P ops sp C R Q l (k + 1) (a.put o.dst v) G) : wpGo P ops sp C R Q (o :: l) k a G := by
  simp only [wpGo, gStep]
  rw [if_pos hw, hs]
  exact ⟨v, h1, h2⟩
theorem go_act {F : Value → World → Prop} (hs : sp k = some F) (hw : Region.wanted o (yielded ops a.tmps) = true) (h1 : ∀ w, C w → G.may ops o w → gUpon P C R w F ((execOp a.eval o).run P w))
    (h2 : ∀ v, (∃ w, C w ∧ F v w ∧ G.all w) → wpGo P ops sp C R Q l (k + 1) (a.put o.dst v) (G.add o.dst (F v))) : wpGo P ops sp C R Q (o :: l) k a G := by
  simp only [wpGo, gStep]
  rw [if_pos hw, hs]
  exact ⟨h1, h2⟩
end

theorem go_nilcheck {P : Program} {ops : Array Oper} {sp : Nat → Option (Value → World → Prop)} {C : World → Prop} {R : World → World → Prop} {Q : Act → Facts → Prop} {o : Oper} {l : List Oper} {k : Nat} {a : Act} {G : Facts} (x : Operand) (p : Addr)
    (hop : o.op = .nilCheck x) (hx : a.eval x = .pointer (some p)) (hs : sp k = none) (hw : Region.wanted o (yielded ops a.tmps) = true) (h2 : wpGo P ops sp C R Q l (k + 1) (a.put o.dst (.pointer (some p))) G) : wpGo P ops sp C R Q (o :: l) k a G :=
  go_fact hs hw (.pointer (some p)) (fun w _ _ => by simp [execOp, hop, hx, gStill]) h2

/-- What is told of an operation's value, and stays told. -/
structure Told (R : World → World → Prop) where
  F : Value → World → Prop
  mono : ∀ v w w', F v w → R w w' → F v w'
def spOf {R : World → World → Prop} (l : List (Nat × Told R)) (i : Nat) : Option (Value → World → Prop) := match l with
  | [] => none
  | (j, t) :: r => if i = j then some t.F else spOf r i
theorem spOf_mono {R : World → World → Prop} : ∀ (l : List (Nat × Told R)) (i : Nat) (F : Value → World → Prop), spOf l i = some F → ∀ v w w', F v w → R w w' → F v w'
  | [], i, F, h => by simp [spOf] at h
  | (j, t) :: r, i, F, h => by
    unfold spOf at h
    by_cases e : i = j
    · rw [if_pos e] at h
      injection h with h
      subst h
      exact t.mono
    · rw [if_neg e] at h
      exact spOf_mono r i F h
def Told.val {R : World → World → Prop} (v : Value) : Told R := ⟨fun u _ => u = v, fun _ _ _ h _ => h⟩
def Told.bs (l : List Int) : Told Ext := ⟨fun u w => Bs w u l, fun _ _ _ h k => h.ext k⟩

theorem After.drew (w : World) : ∃ n : After w, w.drew = n.wd := ⟨⟨w.drew, (Ext.refl w).drew⟩, rfl⟩
/-- Calls in a region whose worlds are all behind W. -/
theorem Calls.told {P : Program} {f : FuncId} {args : Array Value} {W : World} {n : After W} {v : Value}
    (h : Calls P f args n.wd fun e w' => e = .returned v ∧ Ext n.wd w') : Calls P f args n.wd fun e w'' => ∃ u, e = .returned u ∧ (∃ m : After W, w'' = m.wd) ∧ Ext n.wd w'' ∧ (Told.val (R := Ext) v).F u w'' :=
  h.mono fun _ w' ⟨he, hk⟩ => ⟨v, he, ⟨⟨w', n.ext.trans hk⟩, rfl⟩, hk, rfl⟩
theorem Calls.told_bs {P : Program} {f : FuncId} {args : Array Value} {W : World} {n : After W} {l : List Int} {B : Nat} (hb : Byt l)
    (h : Calls P f args n.wd fun e w' => ∃ v, e = .returned v ∧ Own8 w' B v l ∧ Ext n.wd w') : Calls P f args n.wd fun e w'' => ∃ u, e = .returned u ∧ (∃ m : After W, w'' = m.wd) ∧ Ext n.wd w'' ∧ (Told.bs l).F u w'' :=
  h.mono fun _ w' ⟨v, he, ho, hk⟩ => ⟨v, he, ⟨⟨w', n.ext.trans hk⟩, rfl⟩, hk, Bs.own ho hb⟩

/-- One block is turned by the region, from these cells to those. -/
structure St (W : World) (b : Nat) (old new : Array Value) (t : TypeId) where
  wd : World
  only : Only b W wd
  here : Blk wd b old t ∨ Blk wd b new t
def Rst (b : Nat) (new : Array Value) (t : TypeId) (w w' : World) : Prop := Only b w w' ∧ (Blk w b new t → Blk w' b new t)
theorem St.drew {w : World} {b : Nat} {old new : Array Value} {t : TypeId} (h : Blk w b old t) : ∃ n : St w b old new t, w.drew = n.wd := ⟨⟨w.drew, (Only.refl b w).drew, .inl h.drew⟩, rfl⟩
theorem St.cell {W : World} {b : Nat} {old new : Array Value} {t : TypeId} {p : Addr} {v : Value} (hp : p.block ≠ b) (h : W.cell? p = some v) (x : St W b old new t) : x.wd.cell? p = some v := by
  have hlt := World.block_lt_of_cell? W p h
  have e : x.wd.heap[p.block]? = W.heap[p.block]? := x.only.block p.block hlt hp
  rw [← h]
  simp only [World.cell?, e]
theorem St.blk {W : World} {b g : Nat} {old new cs : Array Value} {t s : TypeId} (hp : g ≠ b) (h : Blk W g cs s) (x : St W b old new t) : Blk x.wd g cs s := h.kept x.only hp
theorem Calls.st {P : Program} {f : FuncId} {args : Array Value} {W : World} {b : Nat} {old new : Array Value} {t : TypeId} {n : St W b old new t} {v : Value}
    (h : Calls P f args n.wd fun e w' => e = .returned v ∧ Ext n.wd w') : Calls P f args n.wd fun e w'' => ∃ u, e = .returned u ∧ (∃ m : St W b old new t, w'' = m.wd) ∧ Rst b new t n.wd w'' ∧ (Told.val (R := Rst b new t) v).F u w'' :=
  h.mono fun _ w' ⟨he, hk⟩ => ⟨v, he, ⟨⟨w', n.only.trans (Only.of_ext hk), n.here.imp hk.blk hk.blk⟩, rfl⟩, ⟨Only.of_ext hk, hk.blk⟩, rfl⟩
theorem St.put {W : World} {b i : Nat} {old new : Array Value} {t : TypeId} {v : Value} (n : St W b old new t) (h1 : old.setIfInBounds i v = new) (h2 : new.setIfInBounds i v = new) :
    (∃ m : St W b old new t, n.wd.setCell ⟨b, i, none⟩ v = m.wd) ∧ Rst b new t n.wd (n.wd.setCell ⟨b, i, none⟩ v) ∧ Blk (n.wd.setCell ⟨b, i, none⟩ v) b new t := by
  have hb : Blk (n.wd.setCell ⟨b, i, none⟩ v) b new t := by
    rcases n.here with h | h
    · have := h.set i v; rwa [h1] at this
    · have := h.set i v; rwa [h2] at this
  exact ⟨⟨⟨_, n.only.set i v, .inr hb⟩, rfl⟩, ⟨(Only.refl b _).set i v, fun _ => hb⟩, hb⟩
theorem St.has {W : World} {b i : Nat} {old new : Array Value} {t : TypeId} {u v : Value} (n : St W b old new t) (h1 : old[i]? = some u) (h2 : new[i]? = some v) : ∃ x, n.wd.cell? ⟨b, i, none⟩ = some x ∧ n.wd.frozen? ⟨b, i, none⟩ = false := by
  rcases n.here with h | h
  · exact ⟨u, h.cell i u h1, h.free i⟩
  · exact ⟨v, h.cell i v h2, h.free i⟩
def Told.blk {b : Nat} {new : Array Value} {t : TypeId} : Told (Rst b new t) := ⟨fun _ w => Blk w b new t, fun _ _ _ h k => k.2 h⟩

end Go.Proofs.Ytpdomjinhbnmfaa
