
import Derived.Test.YtocogmboocjjaaaGrd
set_option linter.unusedSimpArgs false
set_option linter.unusedVariables false
namespace Go.Proofs.Ytocogmboocjjaaa
open Go.RowKit

structure Rf where
  time : Int
  gap : Int
  since : Int
  first : Int

def Rf.cells (r : Rf) : Array Value := #[.int .i64 r.time, .int .i64 r.gap, .int .i64 r.since, .int .i64 r.first]
abbrev RT : TypeId := 63

set_option maxHeartbeats 1000000 in
theorem rnew_any (t g : Int) (w : World) :
    Calls Try.prog 45 #[.int .i64 t, .int .i64 g] w fun e w' => e = .returned (.agg (Rf.cells ⟨t, g, -1, -1⟩)) ∧ Below w.heap.size w w' := by
  go_enter Try.func45, Try.ntmps45
  go_wp2
  refine bodyPost_ret (v := .agg (Rf.cells ⟨t, g, -1, -1⟩)) (by simp [results, Try.results45, go_sem, Rf.cells]) rfl ⟨rfl, ?_⟩
  exact (Below.refl _ _).alloc (Nat.le_refl _) _

theorem below_two (w : World) (o p : Obj) : Below w.heap.size w ((w.alloc o).alloc p) := ((Below.refl _ _).alloc (Nat.le_refl _) _).alloc (by simp) _

set_option maxHeartbeats 1000000 in
theorem rwake_yes (t g s f now : Int) (w : World) (hs : s < 0) :
    Calls Try.prog 44 #[.agg (Rf.cells ⟨t, g, s, f⟩), .int .i64 now] w fun e w' => e = .returned (.tuple #[.agg (Rf.cells ⟨t, g, now, f⟩), .bool true]) ∧ Below w.heap.size w w' := by
  unfold Rf.cells
  go_enter Try.func44, Try.ntmps44
  go_wp2
  exact bodyPost_ret (v := .tuple #[.agg (Rf.cells ⟨t, g, now, f⟩), .bool true]) (by simp [results, Try.results44, go_sem, Rf.cells]) rfl ⟨rfl, below_two _ _ _⟩

set_option maxHeartbeats 1000000 in
theorem rwake_no (t g s f now : Int) (w : World) (hs : 0 ≤ s) :
    Calls Try.prog 44 #[.agg (Rf.cells ⟨t, g, s, f⟩), .int .i64 now] w fun e w' => e = .returned (.tuple #[.agg (Rf.cells ⟨t, g, s, f⟩), .bool false]) ∧ Below w.heap.size w w' := by
  unfold Rf.cells
  go_enter Try.func44, Try.ntmps44
  go_wp2
  exact bodyPost_ret (v := .tuple #[.agg (Rf.cells ⟨t, g, s, f⟩), .bool false]) (by simp [results, Try.results44, go_sem, Rf.cells]) rfl ⟨rfl, below_two _ _ _⟩

set_option maxHeartbeats 1000000 in
theorem rhalf_yes (t g s f now : Int) (w : World) (hs : 0 ≤ s) :
    Calls Try.prog 47 #[.agg (Rf.cells ⟨t, g, s, f⟩), .int .i64 now] w fun e w' => e = .returned (.agg (Rf.cells ⟨t, g, s, now⟩)) ∧ Below w.heap.size w w' := by
  unfold Rf.cells
  go_enter Try.func47, Try.ntmps47
  go_wp2
  exact bodyPost_ret (v := .agg (Rf.cells ⟨t, g, s, now⟩)) (by simp [results, Try.results47, go_sem, Rf.cells]) rfl ⟨rfl, below_two _ _ _⟩
set_option maxHeartbeats 1000000 in
theorem rhalf_no (t g s f now : Int) (w : World) (hs : s < 0) :
    Calls Try.prog 47 #[.agg (Rf.cells ⟨t, g, s, f⟩), .int .i64 now] w fun e w' => e = .returned (.agg (Rf.cells ⟨t, g, s, f⟩)) ∧ Below w.heap.size w w' := by
  unfold Rf.cells
  go_enter Try.func47, Try.ntmps47
  go_wp2
  exact bodyPost_ret (v := .agg (Rf.cells ⟨t, g, s, f⟩)) (by simp [results, Try.results47, go_sem, Rf.cells]) rfl ⟨rfl, below_two _ _ _⟩
set_option maxHeartbeats 1000000 in
theorem rwhole_yes (t g s f now : Int) (w : World) (hs : 0 ≤ s) :
    Calls Try.prog 48 #[.agg (Rf.cells ⟨t, g, s, f⟩), .int .i64 now] w fun e w' => e = .returned (.agg (Rf.cells ⟨t, g, now, -1⟩)) ∧ Below w.heap.size w w' := by
  unfold Rf.cells
  go_enter Try.func48, Try.ntmps48
  go_wp2
  exact bodyPost_ret (v := .agg (Rf.cells ⟨t, g, now, -1⟩)) (by simp [results, Try.results48, go_sem, Rf.cells]) rfl ⟨rfl, below_two _ _ _⟩
set_option maxHeartbeats 1000000 in
theorem rwhole_no (t g s f now : Int) (w : World) (hs : s < 0) :
    Calls Try.prog 48 #[.agg (Rf.cells ⟨t, g, s, f⟩), .int .i64 now] w fun e w' => e = .returned (.agg (Rf.cells ⟨t, g, s, f⟩)) ∧ Below w.heap.size w w' := by
  unfold Rf.cells
  go_enter Try.func48, Try.ntmps48
  go_wp2
  exact bodyPost_ret (v := .agg (Rf.cells ⟨t, g, s, f⟩)) (by simp [results, Try.results48, go_sem, Rf.cells]) rfl ⟨rfl, below_two _ _ _⟩

def Rf.check (r : Rf) (now : Int) : Int :=
  chk (decide (0 ≤ r.since)) (decide (r.since < now - r.time)) (decide (0 ≤ r.first) && decide (r.first < now - r.gap))

set_option maxHeartbeats 1000000 in
theorem rcheck_any (t g s f now : Int) (w : World) (ht0 : 0 ≤ t) (ht1 : t ≤ 65535) (hg0 : 0 ≤ g) (hg1 : g ≤ 65535) (h0 : 0 ≤ now) (h1 : now ≤ 2147483647) :
    Calls Try.prog 46 #[.agg (Rf.cells ⟨t, g, s, f⟩), .int .i64 now] w fun e w' => e = .returned (.int .i64 (Rf.check ⟨t, g, s, f⟩ now)) ∧ Below w.heap.size w w' := by
  by_cases c0 : 0 ≤ s
  · by_cases c1 : s < now - t
    · have e : Rf.check ⟨t, g, s, f⟩ now = 4 := by simp [Rf.check, chk, c0, c1]
      rw [e]
      clear e
      unfold Rf.cells
      go_enter Try.func46, Try.ntmps46
      go_wp2
      go_ret
      exact ⟨rfl, (Below.refl _ _).alloc (Nat.le_refl _) _⟩
    · by_cases c2 : 0 ≤ f
      · by_cases c3 : f < now - g
        · have e : Rf.check ⟨t, g, s, f⟩ now = 5 := by simp [Rf.check, chk, c0, c1, c2, c3]
          rw [e]
          clear e
          have d2 : decide (0 ≤ f) = true := by simpa using c2
          have d3 : decide (f < now - g) = true := by simpa using c3
          unfold Rf.cells
          go_enter Try.func46, Try.ntmps46
          go_wp2
          go_ret
          exact ⟨rfl, (Below.refl _ _).alloc (Nat.le_refl _) _⟩
        · have e : Rf.check ⟨t, g, s, f⟩ now = 0 := by simp [Rf.check, chk, c0, c1, c2, c3]
          rw [e]
          clear e
          have d2 : decide (0 ≤ f) = true := by simpa using c2
          have d3 : decide (f < now - g) = false := by simp; omega
          unfold Rf.cells
          go_enter Try.func46, Try.ntmps46
          go_wp2
          go_ret
          exact ⟨rfl, (Below.refl _ _).alloc (Nat.le_refl _) _⟩
      · have e : Rf.check ⟨t, g, s, f⟩ now = 0 := by simp [Rf.check, chk, c0, c1, c2]
        rw [e]
        clear e
        have d2 : decide (0 ≤ f) = false := by simp; omega
        unfold Rf.cells
        go_enter Try.func46, Try.ntmps46
        go_wp2
        go_ret
        exact ⟨rfl, (Below.refl _ _).alloc (Nat.le_refl _) _⟩
  · have e : Rf.check ⟨t, g, s, f⟩ now = 0 := by simp [Rf.check, chk, c0]
    rw [e]
    clear e
    unfold Rf.cells
    go_enter Try.func46, Try.ntmps46
    go_wp2
    go_ret
    exact ⟨rfl, (Below.refl _ _).alloc (Nat.le_refl _) _⟩

/-! What the reference makes of it, and that both go together. -/
def Rf.wake (r : Rf) (now : Int) : Rf := if 0 ≤ r.since then r else { r with since := now }
def Rf.half (r : Rf) (now : Int) : Rf := if 0 ≤ r.since then { r with first := now } else r
def Rf.whole (r : Rf) (now : Int) : Rf := if 0 ≤ r.since then { r with since := now, first := -1 } else r
def Rf.sleep (r : Rf) : Rf := ⟨r.time, r.gap, -1, -1⟩

theorem rwake_any (r : Rf) (now : Int) (w : World) :
    Calls Try.prog 44 #[.agg r.cells, .int .i64 now] w fun e w' => e = .returned (.tuple #[.agg (r.wake now).cells, .bool (decide (r.since < 0))]) ∧ Below w.heap.size w w' := by
  obtain ⟨t, g, s, f⟩ := r
  by_cases hs : 0 ≤ s
  · refine (rwake_no t g s f now w hs).mono ?_
    rintro e w' ⟨rfl, h⟩
    have e2 : decide (s < 0) = false := by simp; omega
    exact ⟨by simp [Rf.wake, hs, e2], h⟩
  · refine (rwake_yes t g s f now w (by omega)).mono ?_
    rintro e w' ⟨rfl, h⟩
    have e2 : decide (s < 0) = true := by simp; omega
    exact ⟨by simp [Rf.wake, hs, e2], h⟩
theorem rhalf_any (r : Rf) (now : Int) (w : World) :
    Calls Try.prog 47 #[.agg r.cells, .int .i64 now] w fun e w' => e = .returned (.agg (r.half now).cells) ∧ Below w.heap.size w w' := by
  obtain ⟨t, g, s, f⟩ := r
  by_cases hs : 0 ≤ s
  · refine (rhalf_yes t g s f now w hs).mono ?_
    rintro e w' ⟨rfl, h⟩
    exact ⟨by simp [Rf.half, hs], h⟩
  · refine (rhalf_no t g s f now w (by omega)).mono ?_
    rintro e w' ⟨rfl, h⟩
    exact ⟨by simp [Rf.half, hs], h⟩
theorem rwhole_any (r : Rf) (now : Int) (w : World) :
    Calls Try.prog 48 #[.agg r.cells, .int .i64 now] w fun e w' => e = .returned (.agg (r.whole now).cells) ∧ Below w.heap.size w w' := by
  obtain ⟨t, g, s, f⟩ := r
  by_cases hs : 0 ≤ s
  · refine (rwhole_yes t g s f now w hs).mono ?_
    rintro e w' ⟨rfl, h⟩
    exact ⟨by simp [Rf.whole, hs], h⟩
  · refine (rwhole_no t g s f now w (by omega)).mono ?_
    rintro e w' ⟨rfl, h⟩
    exact ⟨by simp [Rf.whole, hs], h⟩

structure Rel (g : Gd) (r : Rf) (now : Int) : Prop where
  ok : g.Ok
  n0 : 0 ≤ now
  n1 : now ≤ 100000
  time : r.time = g.limit
  gap : r.gap = g.glimit
  on : g.on = decide (0 ≤ r.since)
  since : g.on = true → g.since = r.since
  gon : g.gon = decide (0 ≤ r.first)
  gs : g.gon = true → g.gsince = r.first
  off : g.on = false → g.gon = false

theorem Rel.check {g : Gd} {r : Rf} {now n : Int} (h : Rel g r now) (h0 : 0 ≤ n) (h1 : n ≤ 2147483647) : g.check n = r.check n := by
  obtain ⟨ok, n0, n1, ht, hg, hon, hs, hgon, hgs, hoff⟩ := h
  obtain ⟨on, since, limit, gon, gsince, glimit⟩ := g
  obtain ⟨t, gp, s, f⟩ := r
  simp only at *
  subst ht hg
  have hk := tickB_iff.2 ⟨h0, h1⟩
  simp only [Gd.check, Rf.check, hk, Bool.and_true]
  cases on with
  | false =>
    rw [← hon]
    simp [chk]
  | true =>
    have hs := hs rfl
    subst hs
    rw [← hon]
    have e : decide (t < n - since) = decide (since < n - t) := decide_eq_decide.2 (by omega)
    rw [e, ← hgon]
    cases gon with
    | false => simp
    | true =>
      have hgs := hgs rfl
      subst hgs
      have e : decide (gp < n - gsince) = decide (gsince < n - gp) := decide_eq_decide.2 (by omega)
      rw [e]
      simp

theorem Rel.later {g : Gd} {r : Rf} {a b : Int} (h : Rel g r a) (hab : a ≤ b) (hb : b ≤ 100000) : Rel g r b :=
  { h with n0 := by have := h.n0; omega, n1 := hb }
theorem Rel.tick {g : Gd} {r : Rf} {a : Int} (h : Rel g r a) : tickB a = true := tickB_iff.2 ⟨h.n0, by have := h.n1; omega⟩
theorem Rel.wakeB {g : Gd} {r : Rf} {a : Int} (h : Rel g r a) : (!g.on && tickB a) = decide (r.since < 0) := by
  rw [h.tick, h.on, Bool.and_true, ← decide_not]
  exact decide_eq_decide.2 (by omega)
theorem Rel.wake {g : Gd} {r : Rf} {a : Int} (h : Rel g r a) : Rel (g.wake a) (r.wake a) a := by
  have hk := h.tick
  have ok := h.ok.wake a
  obtain ⟨_, n0, n1, ht, hg, hon, hs, hgon, hgs, hoff⟩ := h
  unfold Gd.wake Rf.wake at *
  rw [hk] at ok ⊢
  cases ho : g.on with
  | true =>
    rw [ho] at hon
    have := of_decide_eq_true hon.symm
    simp only [ho, Bool.not_true, Bool.or_false, if_true] at ok ⊢
    rw [if_pos this]
    exact ⟨ok, n0, n1, ht, hg, by rw [ho, hon], hs, hgon, hgs, hoff⟩
  | false =>
    rw [ho] at hon
    have := of_decide_eq_false hon.symm
    simp only [ho, Bool.not_true, Bool.or_false, if_false, Bool.false_eq_true] at ok ⊢
    rw [if_neg this]
    exact ⟨ok, n0, n1, ht, hg, by simp [n0], fun _ => rfl, hgon, hgs, (fun h => by cases h)⟩
theorem Rel.half {g : Gd} {r : Rf} {a : Int} (h : Rel g r a) : Rel (g.half a) (r.half a) a := by
  have hk := h.tick
  have ok := h.ok.half a
  obtain ⟨_, n0, n1, ht, hg, hon, hs, hgon, hgs, hoff⟩ := h
  unfold Gd.half Rf.half at *
  rw [hk] at ok ⊢
  cases ho : g.on with
  | true =>
    rw [ho] at hon
    have := of_decide_eq_true hon.symm
    simp only [ho, Bool.and_true, if_true] at ok ⊢
    rw [if_pos this]
    exact ⟨ok, n0, n1, ht, hg, by rw [hon], (fun _ => hs ho), by simp [n0], (fun _ => rfl), (fun h => by cases h)⟩
  | false =>
    rw [ho] at hon
    have := of_decide_eq_false hon.symm
    simp only [ho, Bool.and_true, if_false, Bool.false_eq_true] at ok ⊢
    rw [if_neg this]
    exact ⟨ok, n0, n1, ht, hg, by rw [ho, hon], hs, hgon, hgs, hoff⟩
theorem Rel.whole {g : Gd} {r : Rf} {a : Int} (h : Rel g r a) : Rel (g.whole a) (r.whole a) a := by
  have hk := h.tick
  have ok := h.ok.whole a
  obtain ⟨_, n0, n1, ht, hg, hon, hs, hgon, hgs, hoff⟩ := h
  unfold Gd.whole Rf.whole at *
  rw [hk] at ok ⊢
  cases ho : g.on with
  | true =>
    rw [ho] at hon
    have := of_decide_eq_true hon.symm
    simp only [ho, Bool.and_true, if_true] at ok ⊢
    rw [if_pos this]
    exact ⟨ok, n0, n1, ht, hg, by simp [n0], fun _ => rfl, by simp, (fun h => by cases h), (fun h => by cases h)⟩
  | false =>
    rw [ho] at hon
    have := of_decide_eq_false hon.symm
    simp only [ho, Bool.and_true, if_false, Bool.false_eq_true] at ok ⊢
    rw [if_neg this]
    exact ⟨ok, n0, n1, ht, hg, by rw [ho, hon], hs, hgon, hgs, hoff⟩
theorem Rel.sleep {g : Gd} {r : Rf} {a : Int} (h : Rel g r a) : Rel { g with on := false, gon := false } r.sleep a := by
  obtain ⟨⟨s0, s1, l0, l1, t0, t1, m0, m1⟩, n0, n1, ht, hg, hon, hs, hgon, hgs, hoff⟩ := h
  exact ⟨⟨s0, s1, l0, l1, t0, t1, m0, m1⟩, n0, n1, ht, hg, by simp [Rf.sleep], (fun h => by cases h), by simp [Rf.sleep], (fun h => by cases h), fun _ => rfl⟩
theorem Rel.drop {g : Gd} {r : Rf} {a : Int} (h : Rel g r a) : Rel { g with gon := false } { r with first := -1 } a := by
  obtain ⟨⟨s0, s1, l0, l1, t0, t1, m0, m1⟩, n0, n1, ht, hg, hon, hs, hgon, hgs, hoff⟩ := h
  exact ⟨⟨s0, s1, l0, l1, t0, t1, m0, m1⟩, n0, n1, ht, hg, hon, hs, by simp, (fun h => by cases h), fun _ => rfl⟩
theorem Rel.mk0 {t g : Int} (ht : mayB t = true) (hg : mayB g = true) : Rel ⟨false, 0, t, false, 0, g⟩ ⟨t, g, -1, -1⟩ 0 :=
  ⟨Gd.Ok.mk0 ht hg, by omega, by omega, rfl, rfl, by simp, (fun h => by cases h), by simp, (fun h => by cases h), fun _ => rfl⟩

end Go.Proofs.Ytocogmboocjjaaa
