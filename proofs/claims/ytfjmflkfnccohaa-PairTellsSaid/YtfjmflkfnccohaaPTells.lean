/- The law PairTells. -/
import Derived.Test.YtfjmflkfnccohaaPLive
import Derived.Test.YtfjmflkfnccohaaPCame
import Derived.Test.YtfjmflkfnccohaaPTell
import Derived.Test.YtfjmflkfnccohaaPOnly
set_option linter.unusedSimpArgs false
set_option linter.unusedVariables false
set_option linter.unnecessarySimpa false
namespace Go.Proofs.Ytfjmflkfnccohaa
open Go.RowKit Go.Proofs.YtfjmflkfnccohaaW.PrintWords
attribute [local go_sem] max2_max min2_min max_of_two min_of_two bxF_fr stF_fr stF_fr2 stF_put ldF_put ldV_put ldF_new guard_eq guard_ne bin_eq bin_ne alF_fr bdF_none bdF_ask bdF_len bdF_dat ext_drew' ext_alloc
attribute [local go_sem ↓] ldF_in ldV_in bxF_in stF_in cvS_in alF_in bdF_in ixS_in
attribute [local go_sem] gUpon cvB_run
attribute [local go_sem ↓] cvB_in

theorem appC {ops : Array Oper} {rest : List Oper} {o : Oper} {a : Act} {Q : Exit → Act → World → Prop} {W : World} (hgd : o.guard = none) (s x : Operand)
    (ho : o.op = .call { callee := .builtin .append, args := #[s, x], argTypes := #[37, 37] }) (base : Nat) {v : Value} {l : List (Bool × List Int)} {tn : Bool} {b : List Int} (hs : a.eval s = v) {B : Nat} (hx : a.eval x = .slice (some ⟨B, 0, none⟩) 1 1) (hB : B = W.heap.size)
    (hown : OwnR LC W base v l) (hlen : l.length + 1 ≤ 1000000) (hbase : base ≤ W.heap.size)
    (h : ∀ v' w', OwnR LC w' base v' (l ++ [(tn, b)]) → Below base W w' → KeepR 39 W w' → wpList Try.prog ops Q rest (a.put o.dst v') w') : wpList Try.prog ops Q (o :: rest) a (W.alloc (.cells #[.bool tn, .string (mkS b)] 39)) :=
  appR LC (f := (tn, b)) hgd s x ho base hs hx hB hown hlen hbase h

theorem CkAt.keep {w w' : World} {c : Nat} {s : Ck} (h : CkAt w c s) {T : TypeId} (k : KeepR T w w') (h1 : U8 ≠ T) (h2 : KT ≠ T) : CkAt w' c s := by
  obtain ⟨vb, vv, hb, a, b⟩ := h
  exact ⟨vb, vv, k.blk hb h2, a.keep fun g cs hg => k.blk hg h1, b.keep fun g cs hg => k.blk hg h1⟩
theorem CkAt.far {w w' : World} {g c : Nat} {s s' : Ck} (h : CkAt w g s) (hc : CkAt w c s') (hn : g ≠ c) (k : Only c w w') : CkAt w' g s := by
  obtain ⟨vb, vv, hb, a, b⟩ := h
  exact ⟨vb, vv, hb.kept k hn, hc.bt a k, hc.bt b k⟩
theorem OwnR.only {w w' : World} {base c : Nat} {v : Value} {l : List (Bool × List Int)} {s : Ck} (h : OwnR LC w base v l) (hc : CkAt w c s) (k : Only c w w') : OwnR LC w' base v l := by
  obtain ⟨h0, h⟩ := h
  refine ⟨h0, ?_⟩
  rcases h with h | ⟨g, cap, cur, hv, hb, hh, r⟩
  · exact .inl h
  · refine .inr ⟨g, cap, cur, hv, hb, Blk.kept hh k fun e => ?_, r⟩
    subst e
    obtain ⟨vb, vv, hb, _⟩ := hc
    unfold Blk at hb
    rw [hh] at hb
    injection hb with hb
    injection hb with _ h2
    exact absurd h2 (by decide)

/-- How the document's answer and the checker stand. -/
def Qt (size : Int) (r : Rt) (s : Ck) (good : List Int) : Prop :=
  s.size = size ∧ s.half = r.half ∧ (r.half = true → s.b = r.first) ∧ (r.t == 1) = r.half ∧ s.value = good ∧ s.b.length ≤ 12 ∧ good.length ≤ 12 ∧ Byt good
theorem Qt.clear {size : Int} {r : Rt} {s : Ck} {good : List Int} (h : Qt size r s good) : Qt size Rt.zero s.clear good := by
  obtain ⟨h1, h2, h3, h4, h5, h6, h7, h8⟩ := h
  exact ⟨h1, rfl, fun e => (by cases e), rfl, h5, (by simp [Ck.clear]), h7, h8⟩
theorem Qt.plain {size : Int} {r : Rt} {s : Ck} {good bs : List Int} (h : Qt size r s good) (hn : bs.length ≤ 12) :
    (s.plain bs).2 = (r.step size (false, bs)).t ∧ (r.step size (false, bs)).t ≠ 2 ∧ Qt size (r.step size (false, bs)) (s.plain bs).1 good := by
  obtain ⟨h1, h2, h3, h4, h5, h6, h7, h8⟩ := h
  obtain ⟨sz, hf, sb, sv⟩ := s
  obtain ⟨rt, rv, rh, rf, rb⟩ := r
  simp only at h1 h2 h3 h4 h5 h6
  subst h1 h2 h5
  by_cases a : (bs.length : Int) = sz
  · cases hf <;> simp [Ck.plain, Rt.step, Qt, Ck.clear, a, hn, h7, h8]
  · simp [Ck.plain, Rt.step, Qt, Ck.clear, a, h7, h8]
theorem Qt.turned {size : Int} {r : Rt} {s : Ck} {good bs : List Int} (h : Qt size r s good) (hb : Byt s.b) (hn : bs.length ≤ 12) :
    (s.turned bs).2 = (r.step size (true, bs)).t ∧ ((r.step size (true, bs)).t = 2 → (r.step size (true, bs)).has = true) ∧ Qt size (r.step size (true, bs)) (s.turned bs).1 (if (r.step size (true, bs)).t = 2 then (r.step size (true, bs)).value else good) := by
  obtain ⟨h1, h2, h3, h4, h5, h6, h7, h8⟩ := h
  obtain ⟨sz, hf, sb, sv⟩ := s
  obtain ⟨rt, rv, rh, rf, rb⟩ := r
  simp only at h1 h2 h3 h4 h5 h6 hb
  subst h1 h2 h5
  by_cases a : (bs.length : Int) = sz
  · cases hf
    · simp [Ck.turned, Rt.step, Qt, Ck.clear, a, h7, h8]
    · obtain rfl := h3 rfl
      by_cases f : flipL sb = bs
      · simp [Ck.turned, Rt.step, Qt, Ck.clear, a, f, h6, hb]
      · simp [Ck.turned, Rt.step, Qt, Ck.clear, a, f, h7, h8]
  · simp [Ck.turned, Rt.step, Qt, Ck.clear, a, h7, h8]

end Go.Proofs.Ytfjmflkfnccohaa
