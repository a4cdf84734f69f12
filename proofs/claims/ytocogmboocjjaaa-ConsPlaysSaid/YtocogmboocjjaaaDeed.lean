/- The deeds of layer 30's laws; what a taker's value stands for. -/
import Derived.Test.YtocogmboocjjaaaCLive
import Derived.Test.YtocogmboocjjaaaRowOf
import Derived.Test.YtocogmboocjjaaaFrRow
import Derived.Test.YtocogmboocjjaaaFrameOpen
set_option linter.unusedSimpArgs false
set_option linter.unusedVariables false
set_option linter.unnecessarySimpa false
namespace Go.Proofs.Ytocogmboocjjaaa
open Go.RowKit Go.Proofs.YtocogmboocjjaaaW.PrintWords

structure Dd where
  do_ : Int
  by_ : Int
  on : Bool
  other : Bool
  f : Fr
def Dd.cells (d : Dd) : List Value := .int .i64 d.do_ :: .int .u8 d.by_ :: .bool d.on :: .bool d.other :: d.f.cells.toList
def Dd.ok (d : Dd) : Prop := 0 ≤ d.by_ ∧ d.by_ ≤ 255 ∧ Byt d.f.data
theorem dec_deed {W : World} (es : List Value) (hl : es.length = 15) (h : Rd Try.prog W 47 es) : ∃ d : Dd, d.cells = es ∧ d.ok := by
  obtain ⟨n0, h0, g0⟩ := h.fieldInt Try.underlying47 0 rfl Try.underlying3 (by kernel_rfl)
  obtain ⟨n1, h1, g1⟩ := h.fieldInt Try.underlying47 1 rfl Try.underlying5 (by kernel_rfl)
  obtain ⟨b2, h2⟩ := h.fieldBool Try.underlying47 2 rfl Try.underlying4 (by kernel_rfl)
  obtain ⟨b3, h3⟩ := h.fieldBool Try.underlying47 3 rfl Try.underlying4 (by kernel_rfl)
  have hd := (h.struct Try.underlying47).2 4 _ rfl
  have hC : Try.prog.cellsOf FT = 11 := by kernel_rfl
  change Rd Try.prog W FT ((es.drop 4).take (Try.prog.cellsOf FT)) at hd
  rw [hC] at hd
  obtain ⟨f, hf, hb, _⟩ := dec_frame _ (by rw [List.length_take, List.length_drop, hl]; rfl) hd
  change es[0]? = some _ at h0
  change es[1]? = some _ at h1
  change es[2]? = some _ at h2
  change es[3]? = some _ at h3
  refine ⟨⟨n0, n1, b2, b3, f⟩, ?_, (wf_u8 g1).1, (wf_u8 g1).2, hb⟩
  have ht : (es.drop 4).take 11 = es.drop 4 := List.take_of_length_le (by rw [List.length_drop, hl]; omega)
  rw [ht] at hf
  unfold Dd.cells
  simp only [hf]
  rcases es with _ | ⟨a0, _ | ⟨a1, _ | ⟨a2, _ | ⟨a3, t⟩⟩⟩⟩
  · simp at hl
  · simp at hl
  · simp at hl
  · simp at hl
  · simp at h0 h1 h2 h3
    simp [h0, h1, h2, h3]

theorem told_id {t : Ts} {f : Fr} (h1 : f.id ≠ t.x.at 3) (h2 : f.id ≠ t.x.at 4) : t.told f = (t.ck, 0) := by
  unfold Ts.told
  rw [if_neg h1, if_neg h2]
/-- What the law's own book says of a taker. -/
def OI (x : Ch) (t : Ts) (last : List Int) (at_ : Int) : Prop :=
  t.works = true → t.failed = 0 ∧ x.tks = true ∧ t.x = x ∧ t.ck.size = x.sz ∧ t.gd.on = true ∧ t.gd.glimit = x.at 2 ∧ (t.ck.half = true → last = t.ck.b ∧ t.gd.gon = true ∧ t.gd.gsince = at_)
theorem OI.start (x : Ch) (at_ : Int) : OI x (Ts.rest 0) [] at_ := fun h => by cases h
theorem OI.begin {x : Ch} {t : Ts} {last : List Int} {at_ now : Int} (h : OI x t last at_) (hn : tkB now = true) :
    OI x (t.begin now true x).1 last at_ ∧ ((t.begin now true x).1.works = true → (t.begin now true x).1.ck.half = true → now - at_ ≤ x.at 2) := by
  have htick : tickB now = true := hn
  unfold Ts.begin
  by_cases hf : t.failed = 0
  · rw [if_neg (by rw [hn]; simp [hf])]
    by_cases hx : x.tks = true
    · rw [if_neg (by rw [hx]; simp)]
      by_cases hs : t.works = false ∨ chEq t.x x = false
      · rw [if_pos hs]
        have hg : (Ts.start now x).gd = ⟨true, now, x.at 1, false, 0, x.at 2⟩ := by
          unfold Ts.start Gd.wake
          rw [htick]
          rfl
        refine ⟨fun _ => ⟨rfl, hx, rfl, rfl, by rw [hg], by rw [hg], fun h' => by cases h'⟩, fun _ h' => by cases h'⟩
      · rw [if_neg hs]
        by_cases hc : t.gd.check now = 0
        · rw [if_pos hc]
          refine ⟨h, fun hw hh => ?_⟩
          obtain ⟨_, _, _, _, g1, g2, g3⟩ := h hw
          obtain ⟨_, g4, g5⟩ := g3 hh
          unfold Gd.check at hc
          rw [htick, g1, g4, g5, g2] at hc
          unfold chk at hc
          simp only [Bool.true_and, Bool.and_self, if_true] at hc
          split at hc
          · cases hc
          · split at hc
            · cases hc
            · rename_i q
              have q' : ¬ (x.at 2 < now - at_) := by simpa using q
              omega
        · rw [if_neg hc]
          exact ⟨fun h' => (by cases h'), fun h' => (by cases h')⟩
    · rw [if_pos (.inr (by simpa using hx))]
      exact ⟨fun h' => (by cases h'), fun h' => (by cases h')⟩
  · rw [if_pos (.inr hf)]
    refine ⟨h, fun hw hh => ?_⟩
    exact absurd (h hw).1 hf
theorem plain_fail {s : Ck} {l : List Int} (h : (s.plain l).2 = 1) : (s.plain l).1 = ⟨s.size, true, l, s.value⟩ := by
  unfold Ck.plain at h ⊢
  split at h
  · cases h
  · rename_i q
    rw [if_neg q]
    split at h
    · cases h
    · rename_i q2
      rw [if_neg q2]
theorem turned_good {s : Ck} {l : List Int} (h : (s.turned l).2 = 2) : (s.turned l).1 = ⟨s.size, false, [], s.b⟩ ∧ s.half = true ∧ flipL s.b = l ∧ (l.length : Int) = s.size := by
  unfold Ck.turned at h ⊢
  split at h
  · cases h
  · rename_i q
    rw [if_neg q]
    split at h
    · cases h
    · rename_i q2
      rw [if_neg q2]
      split at h
      · cases h
      · rename_i q3
        rw [if_neg q3]
        refine ⟨rfl, ?_, ?_, ?_⟩
        · simpa using q2
        · simpa using q3
        · simpa using q
/-- What the law notes of a frame. -/
def note (x : Ch) (now : Int) (f : Fr) (last : List Int) (at_ : Int) : List Int × Int :=
  if f.rtr = true ∨ f.chk ≠ 0 then (last, at_) else if f.id = x.at 3 then (f.bytes, now) else if f.id = x.at 4 then ([], at_) else (last, at_)
theorem OI.hear {x : Ch} {t : Ts} {last : List Int} {at_ now : Int} (f : Fr) (h : OI x t last at_) (hn : tkB now = true) (hw : t.works = true → t.ck.half = true → now - at_ ≤ x.at 2) :
    OI x (t.hear now f).1 (note x now f last at_).1 (note x now f last at_).2 ∧ ((t.hear now f).2.1 = [] ∨ (f.id = x.at 4 ∧ last = (t.hear now f).2.1 ∧ now - at_ ≤ x.at 2 ∧ flipL (t.hear now f).2.1 = f.bytes ∧ (t.hear now f).2.1 ≠ [])) := by
  have htick : tickB now = true := hn
  by_cases hwk : t.works = true
  case neg =>
    have e : t.hear now f = (t, [], 0) := by unfold Ts.hear; rw [if_pos (.inl (by simpa using hwk))]
    rw [e]
    exact ⟨fun h' => absurd h' hwk, .inl rfl⟩
  obtain ⟨a1, a2, a3, a4, a5, a6, a7⟩ := h hwk
  by_cases hc : f.rtr = true ∨ f.chk ≠ 0
  · have e : t.hear now f = (t, [], 0) := by
      unfold Ts.hear
      rw [if_pos (.inr (.inr hc.symm))]
    rw [e]
    unfold note
    rw [if_pos hc]
    exact ⟨h, .inl rfl⟩
  have e : t.hear now f = t.heard now (t.told f) := by
    unfold Ts.hear
    rw [if_neg (by rw [hwk, hn]; simp only [not_or] at hc ⊢; exact ⟨by simp, by simp, hc.2, hc.1⟩)]
  rw [e]
  unfold note
  rw [if_neg hc]
  unfold Ts.told
  rw [a3]
  obtain ⟨_, _, _, _, _, n34, _, _⟩ := tks_in a2
  by_cases hp : f.id = x.at 3
  · rw [if_pos hp, if_pos hp]
    rcases plain_tl t.ck f.bytes with h1 | h1 | h1
    · have e2 : t.heard now (t.ck.plain f.bytes) = (⟨true, t.x, 0, (t.ck.plain f.bytes).1, t.gd.half now⟩, [], 0) := by unfold Ts.heard; rw [if_pos h1]
      rw [e2, plain_fail h1]
      have hg : t.gd.half now = { t.gd with gon := true, gsince := now } := by unfold Gd.half; exact if_pos (by rw [a5, htick]; rfl)
      refine ⟨fun _ => ⟨rfl, a2, a3, a4, ?_, ?_, fun _ => ⟨rfl, ?_, ?_⟩⟩, .inl rfl⟩
      · show (t.gd.half now).on = true; rw [hg]; exact a5
      · show (t.gd.half now).glimit = x.at 2; rw [hg]; exact a6
      · show (t.gd.half now).gon = true; rw [hg]
      · show (t.gd.half now).gsince = now; rw [hg]
    all_goals
      have e2 : (t.heard now (t.ck.plain f.bytes)).1.works = false ∧ (t.heard now (t.ck.plain f.bytes)).2.1 = [] := by unfold Ts.heard; rw [h1]; exact ⟨rfl, rfl⟩
      exact ⟨fun h' => (by rw [e2.1] at h'; cases h'), .inl e2.2⟩
  · rw [if_neg hp, if_neg hp]
    by_cases hq : f.id = x.at 4
    · rw [if_pos hq, if_pos hq]
      rcases turned_tl t.ck f.bytes with h1 | h1 | h1 | h1
      · obtain ⟨g1, g2, g3, g4⟩ := turned_good h1
        have e2 : t.heard now (t.ck.turned f.bytes) = (⟨true, t.x, 0, (t.ck.turned f.bytes).1, t.gd.whole now⟩, (t.ck.turned f.bytes).1.value, 0) := by unfold Ts.heard; rw [if_neg (by rw [h1]; omega), if_pos h1]
        rw [e2, g1]
        have hg : t.gd.whole now = { t.gd with on := true, since := now, gon := false } := by unfold Gd.whole; exact if_pos (by rw [a5, htick]; rfl)
        refine ⟨fun _ => ⟨rfl, a2, a3, a4, ?_, ?_, fun h' => by cases h'⟩, .inr ⟨hq, (a7 g2).1, hw hwk g2, g3, fun hn' => ?_⟩⟩
        · show (t.gd.whole now).on = true; rw [hg]
        · show (t.gd.whole now).glimit = x.at 2; rw [hg]; exact a6
        · have hb : t.ck.b = [] := hn'
          rw [hb] at g3
          have : f.bytes = [] := g3.symm
          rw [this, a4] at g4
          have := (tks_in a2).2.2.2.1
          simp at g4
          omega
      all_goals
        have e2 : (t.heard now (t.ck.turned f.bytes)).1.works = false ∧ (t.heard now (t.ck.turned f.bytes)).2.1 = [] := by unfold Ts.heard; rw [h1]; exact ⟨rfl, rfl⟩
        exact ⟨fun h' => (by rw [e2.1] at h'; cases h'), .inl e2.2⟩
    · rw [if_neg hq, if_neg hq]
      have e2 : t.heard now (t.ck, 0) = (t, [], 0) := by unfold Ts.heard; rfl
      rw [e2]
      exact ⟨h, .inl rfl⟩

end Go.Proofs.Ytocogmboocjjaaa
