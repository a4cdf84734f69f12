/- ConsPlays: the two takers go alike. -/
import Derived.Test.YtocogmboocjjaaaTFork
import Derived.Test.YtocogmboocjjaaaDeed
set_option linter.unusedSimpArgs false
set_option linter.unusedVariables false
set_option linter.unnecessarySimpa false
set_option maxRecDepth 100000
namespace Go.Proofs.Ytocogmboocjjaaa
open Go.RowKit Go.Proofs.YtocogmboocjjaaaW.PrintWords

/-- The taker and the reference's stand alike. -/
def SR (t : Ts) (r : Qt) (now : Int) : Prop :=
  r.works = t.works ∧ r.failed = t.failed ∧ (t.works = false → r.value = []) ∧
    (t.works = true → t.failed = 0 ∧ t.x.tks = true ∧ r.x = t.x ∧ t.ck.size = t.x.sz ∧ r.half = t.ck.half ∧ (t.ck.half = true → r.came = t.ck.b) ∧ r.value = t.ck.value ∧ Rel t.gd r.g now ∧ t.gd.on = true)
theorem SR.start : SR (Ts.rest 0) (Qt.rest 0) 0 := ⟨rfl, rfl, fun _ => rfl, fun h => by cases h⟩
theorem SR.rest (c now : Int) : SR (Ts.rest c) (Qt.rest c) now := ⟨rfl, rfl, fun _ => rfl, fun h => by cases h⟩
theorem SR.later {t : Ts} {r : Qt} {a b : Int} (h : SR t r a) (hab : a ≤ b) (hb : b ≤ 100000) : SR t r b := by
  obtain ⟨h1, h2, h3, h4⟩ := h
  refine ⟨h1, h2, h3, fun hw => ?_⟩
  obtain ⟨a1, a2, a3, a4, a5, a6, a7, a8, a9⟩ := h4 hw
  exact ⟨a1, a2, a3, a4, a5, a6, a7, a8.later hab hb, a9⟩
theorem SR.begin {t : Ts} {r : Qt} {now : Int} (h : SR t r now) (h0 : 0 ≤ now) (h1 : now ≤ 100000) (on : Bool) (x : Ch) : SR (t.begin now on x).1 (r.begin now on x).1 now ∧ (t.begin now on x).2 = (r.begin now on x).2 := by
  obtain ⟨e1, e2, e3, e4⟩ := h
  have hk : tkB now = true := by unfold tkB; simp; omega
  unfold Ts.begin Qt.begin
  by_cases c1 : tkB now = false ∨ t.failed ≠ 0
  · rw [if_pos c1, if_pos (by rw [e2]; exact c1)]
    exact ⟨⟨e1, e2, e3, e4⟩, rfl⟩
  have c1r : ¬ (tkB now = false ∨ r.failed ≠ 0) := by rw [e2]; exact c1
  rw [if_neg c1, if_neg c1r]
  by_cases c2 : on = false ∨ x.tks = false
  · rw [if_pos c2, if_pos c2]
    exact ⟨SR.rest 0 now, rfl⟩
  rw [if_neg c2, if_neg c2]
  have hx : x.tks = true := by
    simp only [not_or] at c2
    simpa using c2.2
  by_cases c3 : t.works = false ∨ chEq t.x x = false
  · have c3' : r.works = false ∨ chEq r.x x = false := by
      rw [e1]
      by_cases hw : t.works = true
      · rcases c3 with h | h
        · exact .inl h
        · rw [(e4 hw).2.2.1]; exact .inr h
      · exact .inl (by simpa using hw)
    rw [if_pos c3, if_pos c3']
    obtain ⟨_, m1, m2, _⟩ := tks_in hx
    refine ⟨⟨rfl, rfl, fun _ => rfl, fun _ => ⟨rfl, hx, rfl, rfl, rfl, (fun h => by cases h), rfl, ?_, ?_⟩⟩, rfl⟩
    · have hr := ((Rel.mk0 m1 m2).later h0 h1).wake
      have e : Rf.wake ⟨x.at 1, x.at 2, -1, -1⟩ now = ⟨x.at 1, x.at 2, now, -1⟩ := by unfold Rf.wake; rw [if_neg (by show ¬ (0 : Int) ≤ -1; omega)]
      rw [e] at hr
      exact hr
    · show (Gd.wake _ now).on = true
      unfold Gd.wake
      have ht : tickB now = true := hk
      rw [ht]
      rfl
  · have hw : t.works = true := by
      simp only [not_or] at c3
      simpa using c3.1
    obtain ⟨a1, a2, a3, a4, a5, a6, a7, a8, a9⟩ := e4 hw
    have c3r : ¬ (r.works = false ∨ chEq r.x x = false) := by rw [e1, a3]; exact c3
    rw [if_neg c3, if_neg c3r]
    have hc : t.gd.check now = r.g.check now := a8.check h0 (by omega)
    rw [← hc]
    by_cases c4 : t.gd.check now = 0
    · rw [if_pos c4, if_pos c4]
      exact ⟨⟨e1, e2, e3, e4⟩, rfl⟩
    · rw [if_neg c4, if_neg c4]
      exact ⟨SR.rest _ now, rfl⟩

theorem SR.hear {t : Ts} {r : Qt} {now : Int} (h : SR t r now) (h0 : 0 ≤ now) (h1 : now ≤ 100000) (f : Fr) : SR (t.hear now f).1 (r.hear now f).1 now ∧ (t.hear now f).2 = (r.hear now f).2 := by
  obtain ⟨e1, e2, e3, e4⟩ := h
  have hk : tkB now = true := by unfold tkB; simp; omega
  have ht : tickB now = true := hk
  by_cases hw : t.works = true
  case neg =>
    have hw' : t.works = false := by simpa using hw
    have a : t.hear now f = (t, [], 0) := by unfold Ts.hear; rw [if_pos (.inl hw')]
    have b : r.hear now f = (r, [], 0) := by unfold Qt.hear; rw [if_pos (.inl (by rw [e1]; exact hw'))]
    rw [a, b]
    exact ⟨⟨e1, e2, e3, e4⟩, rfl⟩
  obtain ⟨a1, a2, a3, a4, a5, a6, a7, a8, a9⟩ := e4 hw
  by_cases hc : f.chk ≠ 0 ∨ f.rtr = true
  · have a : t.hear now f = (t, [], 0) := by unfold Ts.hear; rw [if_pos (.inr (.inr hc))]
    have b : r.hear now f = (r, [], 0) := by
      unfold Qt.hear
      rcases hc with h | h
      · rw [if_pos (.inr (.inr (.inl h)))]
      · rw [if_pos (.inr (.inr (.inr (.inl h))))]
    rw [a, b]
    exact ⟨⟨e1, e2, e3, e4⟩, rfl⟩
  have hc' : f.chk = 0 ∧ f.rtr = false := by
    simp only [not_or] at hc
    exact ⟨Decidable.not_not.1 hc.1, by simpa using hc.2⟩
  have a : t.hear now f = t.heard now (t.told f) := by
    unfold Ts.hear
    rw [if_neg (by rw [hw, hk, hc'.1, hc'.2]; simp)]
  by_cases hid : f.id ≠ t.x.at 3 ∧ f.id ≠ t.x.at 4
  · have b : r.hear now f = (r, [], 0) := by unfold Qt.hear; rw [if_pos (.inr (.inr (.inr (.inr (by rw [a3]; exact hid)))))]
    rw [a, b, told_id hid.1 hid.2]
    exact ⟨⟨e1, e2, e3, e4⟩, rfl⟩
  have b : r.hear now f = if r.why f ≠ 0 then (Qt.rest (r.why f), [], r.why f)
      else if f.id = t.x.at 4 then (⟨r.works, r.x, r.g.whole now, false, r.came, r.came, r.failed⟩, r.came, 0)
      else (⟨r.works, r.x, r.g.half now, true, f.bytes, r.value, r.failed⟩, [], 0) := by
    unfold Qt.hear
    rw [if_neg (by rw [e1, hw, hk, hc'.1, hc'.2, a3]; simp only [not_or]; exact ⟨by simp, by simp, by simp, by simp, hid⟩), a3]
  have hwhy : r.why f = if (f.bytes.length : Int) ≠ t.x.sz then 2 else if decide (f.id = t.x.at 4) ≠ t.ck.half then 1 else if f.id = t.x.at 4 ∧ flipL r.came ≠ f.bytes then 3 else 0 := by
    unfold Qt.why
    rw [a3, a5]
  obtain ⟨_, _, _, _, _, n34, _, _⟩ := tks_in a2
  rw [a, b]
  have failing : ∀ c q : Int, t.heard now (t.told f) = (Ts.rest c, [], c) → r.why f = c → c ≠ 0 → SR (t.heard now (t.told f)).1 (if r.why f ≠ 0 then (Qt.rest (r.why f), [], r.why f) else if f.id = t.x.at 4 then (⟨r.works, r.x, r.g.whole now, false, r.came, r.came, r.failed⟩, r.came, 0) else (⟨r.works, r.x, r.g.half now, true, f.bytes, r.value, r.failed⟩, [], 0) : Qt × List Int × Int).1 now ∧ (t.heard now (t.told f)).2 = (if r.why f ≠ 0 then (Qt.rest (r.why f), [], r.why f) else if f.id = t.x.at 4 then (⟨r.works, r.x, r.g.whole now, false, r.came, r.came, r.failed⟩, r.came, 0) else (⟨r.works, r.x, r.g.half now, true, f.bytes, r.value, r.failed⟩, [], 0) : Qt × List Int × Int).2 := by
    intro c q g1 g2 g3
    rw [g1, g2, if_pos g3]
    exact ⟨SR.rest c now, rfl⟩
  by_cases hl : (f.bytes.length : Int) = t.x.sz
  case neg =>
    have hw2 : r.why f = 2 := by rw [hwhy, if_pos hl]
    refine failing 2 0 ?_ hw2 (by decide)
    have hls : (f.bytes.length : Int) ≠ t.ck.size := by rw [a4]; exact hl
    unfold Ts.told
    by_cases hp : f.id = t.x.at 3
    · rw [if_pos hp]; unfold Ck.plain; rw [if_pos hls]; rfl
    · rw [if_neg hp, if_pos (by simp only [not_and] at hid; exact Decidable.not_not.1 (hid hp))]; unfold Ck.turned; rw [if_pos hls]; rfl
  have hl' : ¬ ((f.bytes.length : Int) ≠ t.x.sz) := by simpa using hl
  have hls : ¬ ((f.bytes.length : Int) ≠ t.ck.size) := by rw [a4]; exact hl'
  by_cases hp : f.id = t.x.at 3
  · have hq : ¬ f.id = t.x.at 4 := by rw [hp]; exact n34
    have hdq : decide (f.id = t.x.at 4) = false := by simpa using hq
    by_cases hh : t.ck.half = true
    · refine failing 1 0 ?_ (by rw [hwhy, if_neg hl', hdq, hh, if_pos (by simp)]) (by decide)
      unfold Ts.told Ck.plain
      rw [if_pos hp, if_neg hls, if_pos hh]
      rfl
    · have hh' : t.ck.half = false := by simpa using hh
      have hy0 : r.why f = 0 := by rw [hwhy, if_neg hl', hdq, hh', if_neg (by simp), if_neg (fun z => hq z.1)]
      have g : t.heard now (t.told f) = (⟨true, t.x, 0, ⟨t.ck.size, true, f.bytes, t.ck.value⟩, t.gd.half now⟩, [], 0) := by
        unfold Ts.told Ck.plain
        rw [if_pos hp, if_neg hls, if_neg hh]
        rfl
      rw [g, hy0, if_neg (by simp), if_neg hq]
      refine ⟨⟨by show r.works = true; rw [e1, hw], by show r.failed = 0; rw [e2, a1], (fun z => by cases z), fun _ => ⟨rfl, a2, a3, a4, rfl, fun _ => rfl, a7, a8.half, ?_⟩⟩, rfl⟩
      show (t.gd.half now).on = true
      unfold Gd.half
      rw [if_pos (by rw [a9, ht]; rfl)]
      exact a9
  · have hq : f.id = t.x.at 4 := by simp only [not_and] at hid; exact Decidable.not_not.1 (hid hp)
    have hdq : decide (f.id = t.x.at 4) = true := by simpa using hq
    by_cases hh : t.ck.half = true
    case neg =>
      have hh' : t.ck.half = false := by simpa using hh
      refine failing 1 0 ?_ (by rw [hwhy, if_neg hl', hdq, hh', if_pos (by simp)]) (by decide)
      unfold Ts.told Ck.turned
      rw [if_neg hp, if_pos hq, if_neg hls, if_pos hh']
      rfl
    have hnf : ¬ t.ck.half = false := by rw [hh]; simp
    have hcm := a6 hh
    by_cases hfl : flipL t.ck.b = f.bytes
    case neg =>
      refine failing 3 0 ?_ (by rw [hwhy, if_neg hl', hdq, hh, if_neg (by simp), if_pos ⟨hq, by rw [hcm]; exact hfl⟩]) (by decide)
      unfold Ts.told Ck.turned
      rw [if_neg hp, if_pos hq, if_neg hls, if_neg hnf, if_pos hfl]
      rfl
    have hy0 : r.why f = 0 := by rw [hwhy, if_neg hl', hdq, hh, if_neg (by simp), if_neg (fun z => z.2 (by rw [hcm]; exact hfl))]
    have g : t.heard now (t.told f) = (⟨true, t.x, 0, ⟨t.ck.size, false, [], t.ck.b⟩, t.gd.whole now⟩, t.ck.b, 0) := by
      unfold Ts.told Ck.turned
      rw [if_neg hp, if_pos hq, if_neg hls, if_neg hnf, if_neg (by simpa using hfl)]
      rfl
    rw [g, hy0, if_neg (by simp), if_pos hq]
    refine ⟨⟨by show r.works = true; rw [e1, hw], by show r.failed = 0; rw [e2, a1], (fun z => by cases z), fun _ => ⟨rfl, a2, a3, a4, rfl, (fun z => by cases z), hcm, a8.whole, ?_⟩⟩, by show (t.ck.b, (0 : Int)) = (r.came, 0); rw [hcm]⟩
    show (t.gd.whole now).on = true
    unfold Gd.whole
    rw [if_pos (by rw [a9, ht]; rfl)]

end Go.Proofs.Ytocogmboocjjaaa
