import Derived.Test.YteijmjhafmlknaaRows
import Derived.Test.YteijmjhafmlknaaObjs
import Derived.Deep.QuietTactic
import Derived.BigQuiet
import Derived.WalkLawsBesides
set_option linter.unusedSimpArgs false
set_option linter.unusedVariables false
namespace Go.Proofs.Yteijmjhafmlknaa
open Go.RowKit

attribute [local go_sem] max2_max min2_min max_of_two min_of_two

structure Gd where
  on : Bool
  since : Int
  limit : Int
  gon : Bool
  gsince : Int
  glimit : Int

def Gd.cells (g : Gd) : Array Value := #[.bool g.on, .int .i64 g.since, .int .i64 g.limit, .bool g.gon, .int .i64 g.gsince, .int .i64 g.glimit]

abbrev GT : TypeId := 55

def tickB (n : Int) : Bool := decide (0 ≤ n) && decide (n ≤ 2147483647)

set_option maxHeartbeats 400000 in
theorem tick_any (n : Int) (w : World) :
    Calls Try.prog 25 #[.int .i64 n] w fun e w' => e = .returned (.bool (tickB n)) ∧ w = w' := by
  unfold tickB
  go_enter Try.func25, Try.ntmps25
  go_wp2
  all_goals (go_ret; exact ⟨ret_bool (by simp; try omega), rfl⟩)

def mayB (n : Int) : Bool := decide (1 ≤ n) && decide (n ≤ 65535)

set_option maxHeartbeats 400000 in
theorem may_any (n : Int) (w : World) :
    Calls Try.prog 24 #[.int .i64 n] w fun e w' => e = .returned (.bool (mayB n)) ∧ w = w' := by
  unfold mayB
  go_enter Try.func24, Try.ntmps24
  go_wp2
  all_goals (go_ret; exact ⟨ret_bool (by simp; try omega), rfl⟩)

set_option maxHeartbeats 400000 in
theorem awake_nil (w : World) :
    Calls Try.prog 15 #[.pointer none] w fun e w' => e = .returned (.bool false) ∧ w = w' := by
  go_enter Try.func15, Try.ntmps15
  go_wp2
  all_goals (go_ret; exact ⟨rfl, rfl⟩)

set_option maxHeartbeats 400000 in
theorem awake_any (b : Nat) (g : Gd) (w : World) (hg : Blk w b g.cells GT) :
    Calls Try.prog 15 #[.pointer (some ⟨b, 0, none⟩)] w fun e w' => e = .returned (.bool g.on) ∧ w = w' := by
  have c0 := hg.cell 0 (.bool g.on) rfl
  have HG := hid hg
  clear hg
  go_enter Try.func15, Try.ntmps15
  go_wp2
  all_goals (go_ret; exact ⟨rfl, rfl⟩)

/-- 'begin', at either of the two. -/
theorem begin_at (b i : Nat) (cs : Array Value) (t : TypeId) (x y : Value) (now : Int) (w : World) (hg : Blk w b cs t) (h0 : cs[i]? = some x) (h1 : cs[i + 1]? = some y) :
    Calls Try.prog 26 #[.pointer (some ⟨b, i, none⟩), .int .i64 now] w fun e w' => e = .returned (.tuple #[]) ∧ Blk w' b ((cs.setIfInBounds i (.bool true)).setIfInBounds (i + 1) (.int .i64 now)) t ∧ Only b w w' := by
  have c0 := hg.cell i _ h0
  have c1 := hg.cell (i + 1) _ h1
  have f0 := hg.free i
  have f1 := hg.free (i + 1)
  have HG := hid hg
  clear hg h0 h1
  go_enter Try.func26, Try.ntmps26
  go_wp2
  go_end0
  exact ⟨rfl, (HG.out.set i _).set (i + 1) _, ((Only.refl _ _).set i _).set (i + 1) _⟩

/-- What Wake makes of it. -/
def Gd.wake (g : Gd) (now : Int) : Gd := if g.on || !tickB now then g else { g with on := true, since := now }

set_option maxHeartbeats 400000 in
theorem wake_any (b : Nat) (g : Gd) (now : Int) (w : World) (hg : Blk w b g.cells GT) :
    Calls Try.prog 8 #[.pointer (some ⟨b, 0, none⟩), .int .i64 now] w fun e w' => e = .returned (.bool (!g.on && tickB now)) ∧ Blk w' b (g.wake now).cells GT ∧ Only b w w' := by
  have HG := hid hg
  clear hg
  obtain ⟨on, since, limit, gon, gsince, glimit⟩ := g
  generalize ht : tickB now = tk
  have HT := hid ht
  clear ht
  cases on <;> cases tk
  all_goals
    go_enter Try.func8, Try.ntmps8
    go_wp2_with (first | (go_at_call 15; refine (awake_any _ _ _ HG.out).mono ?_; rintro e w' ⟨rfl, rfl⟩) | (go_at_call 25; refine (tick_any _ _).mono ?_; rintro e w' ⟨rfl, rfl⟩; rw [HT.out]) | (go_at_call 26; refine (begin_at b 0 _ _ _ _ _ _ HG.out rfl rfl).mono ?_; rintro e w' ⟨rfl, hb, ho⟩; have HB := hid hb; have HO := hid ho; clear hb ho))
    go_ret
    refine ⟨rfl, ?_, by first | exact Only.refl _ _ | exact HO.out⟩
    simp only [Gd.wake, HT.out, Bool.not_true, Bool.not_false, Bool.or_true, Bool.or_false, if_true, Bool.true_or, Bool.false_eq_true, if_false]
    first | exact HG.out | exact HB.out

set_option maxHeartbeats 400000 in
theorem sleep_any (b : Nat) (g : Gd) (w : World) (hg : Blk w b g.cells GT) :
    Calls Try.prog 16 #[.pointer (some ⟨b, 0, none⟩)] w fun e w' => e = .returned (.tuple #[]) ∧ Blk w' b { g with on := false, gon := false }.cells GT ∧ Only b w w' := by
  have f0 := hg.free 0
  have f3 := hg.free 3
  have c0 := hg.cell 0 (.bool g.on) rfl
  have c3 := hg.cell 3 (.bool g.gon) rfl
  have HG := hid hg
  clear hg
  go_enter Try.func16, Try.ntmps16
  go_wp2
  go_end0
  exact ⟨rfl, (HG.out.set 0 _).set 3 _, ((Only.refl _ _).set 0 _).set 3 _⟩

theorem drop_any (b : Nat) (g : Gd) (w : World) (hg : Blk w b g.cells GT) :
    Calls Try.prog 17 #[.pointer (some ⟨b, 0, none⟩)] w fun e w' => e = .returned (.tuple #[]) ∧ Blk w' b { g with gon := false }.cells GT ∧ Only b w w' := by
  have f3 := hg.free 3
  have c3 := hg.cell 3 (.bool g.gon) rfl
  have HG := hid hg
  clear hg
  go_enter Try.func17, Try.ntmps17
  go_wp2
  go_end0
  exact ⟨rfl, HG.out.set 3 _, (Only.refl _ _).set 3 _⟩

def Gd.half (g : Gd) (now : Int) : Gd := if g.on && tickB now then { g with gon := true, gsince := now } else g

set_option maxHeartbeats 400000 in
theorem half_any (b : Nat) (g : Gd) (now : Int) (w : World) (hg : Blk w b g.cells GT) :
    Calls Try.prog 9 #[.pointer (some ⟨b, 0, none⟩), .int .i64 now] w fun e w' => e = .returned (.tuple #[]) ∧ Blk w' b (g.half now).cells GT ∧ Only b w w' := by
  have HG := hid hg
  clear hg
  obtain ⟨on, since, limit, gon, gsince, glimit⟩ := g
  generalize ht : tickB now = tk
  have HT := hid ht
  clear ht
  cases on <;> cases tk
  all_goals
    go_enter Try.func9, Try.ntmps9
    go_wp2_with (first | (go_at_call 15; refine (awake_any _ _ _ HG.out).mono ?_; rintro e w' ⟨rfl, rfl⟩) | (go_at_call 25; refine (tick_any _ _).mono ?_; rintro e w' ⟨rfl, rfl⟩; rw [HT.out]) | (go_at_call 26; refine (begin_at b 3 _ _ _ _ _ _ HG.out rfl rfl).mono ?_; rintro e w' ⟨rfl, hb, ho⟩; have HB := hid hb; have HO := hid ho; clear hb ho))
    go_end0
    refine ⟨rfl, ?_, by first | exact Only.refl _ _ | exact HO.out⟩
    simp only [Gd.half, HT.out, Bool.and_true, Bool.and_false, Bool.true_and, if_true, Bool.false_eq_true, if_false]
    first | exact HG.out | exact HB.out

def Gd.whole (g : Gd) (now : Int) : Gd := if g.on && tickB now then { g with on := true, since := now, gon := false } else g

set_option maxHeartbeats 400000 in
theorem whole_any (b : Nat) (g : Gd) (now : Int) (w : World) (hg : Blk w b g.cells GT) :
    Calls Try.prog 11 #[.pointer (some ⟨b, 0, none⟩), .int .i64 now] w fun e w' => e = .returned (.tuple #[]) ∧ Blk w' b (g.whole now).cells GT ∧ Only b w w' := by
  have HG := hid hg
  clear hg
  obtain ⟨on, since, limit, gon, gsince, glimit⟩ := g
  generalize ht : tickB now = tk
  have HT := hid ht
  clear ht
  cases on <;> cases tk
  all_goals
    go_enter Try.func11, Try.ntmps11
    go_wp2_with (first | (go_at_call 15; refine (awake_any _ _ _ HG.out).mono ?_; rintro e w' ⟨rfl, rfl⟩) | (go_at_call 25; refine (tick_any _ _).mono ?_; rintro e w' ⟨rfl, rfl⟩; rw [HT.out]) | (go_at_call 26; refine (begin_at b 0 _ _ _ _ _ _ HG.out rfl rfl).mono ?_; rintro e w' ⟨rfl, hb, ho⟩; have f3 := hb.free 3; have c3 := hb.cell 3 (.bool gon) rfl; have HB := hid hb; have HO := hid ho; clear hb ho))
    go_end0
    refine ⟨rfl, ?_, by first | exact Only.refl _ _ | exact HO.out.set 3 _⟩
    simp only [Gd.whole, HT.out, Bool.and_true, Bool.and_false, if_true, Bool.false_eq_true, if_false]
    first | exact HG.out | exact HB.out.set 3 _

theorem below_size_refl (w : World) : Below w.heap.size w w := Below.refl _ _

set_option maxHeartbeats 400000 in
theorem over_any (on : Bool) (since limit now : Int) (w : World) (h0 : 0 ≤ since) (h1 : since ≤ 2147483647) (h2 : 0 ≤ now) (h3 : now ≤ 2147483647) :
    Calls Try.prog 27 #[.agg #[.bool on, .int .i64 since, .int .i64 limit], .int .i64 now] w fun e w' => e = .returned (.bool (on && decide (limit < now - since))) ∧ Below w.heap.size w w' := by
  cases on
  all_goals
    go_enter Try.func27, Try.ntmps27
    go_wp2
    go_ret
    exact ⟨by first | rfl | simp, (Below.refl _ _).alloc (Nat.le_refl _) _⟩

set_option maxHeartbeats 400000 in
theorem left_any (on : Bool) (since limit now : Int) (w : World) (h0 : 0 ≤ since) (h1 : since ≤ 2147483647) (h2 : 0 ≤ now) (h3 : now ≤ 2147483647) (h4 : 0 ≤ limit) (h5 : limit ≤ 65535) :
    Calls Try.prog 28 #[.agg #[.bool on, .int .i64 since, .int .i64 limit], .int .i64 now] w fun e w' => e = .returned (.int .i64 (max 0 (limit - max 0 (now - since)))) ∧ Below w.heap.size w w' := by
  go_enter Try.func28, Try.ntmps28
  go_wp2
  go_ret
  exact ⟨rfl, (Below.refl _ _).alloc (Nat.le_refl _) _⟩

/-- The times of a guard lie within the bounds. -/
structure Gd.Ok (g : Gd) : Prop where
  s0 : 0 ≤ g.since
  s1 : g.since ≤ 2147483647
  l0 : 1 ≤ g.limit
  l1 : g.limit ≤ 65535
  t0 : 0 ≤ g.gsince
  t1 : g.gsince ≤ 2147483647
  m0 : 1 ≤ g.glimit
  m1 : g.glimit ≤ 65535

def chk (on x y : Bool) : Int := if on then (if x then 4 else if y then 5 else 0) else 0

def Gd.check (g : Gd) (now : Int) : Int :=
  chk (g.on && tickB now) (g.on && decide (g.limit < now - g.since)) (g.gon && decide (g.glimit < now - g.gsince))

theorem tickB_iff {n : Int} : tickB n = true ↔ 0 ≤ n ∧ n ≤ 2147483647 := by simp [tickB]


/-- The six cells, for a walk. -/
theorem Gd.facts {w : World} {b : Nat} {on gon : Bool} {since limit gsince glimit : Int} (h : Blk w b (Gd.cells ⟨on, since, limit, gon, gsince, glimit⟩) GT) :
    w.cell? ⟨b, 0, none⟩ = some (.bool on) ∧ w.cell? ⟨b, 1, none⟩ = some (.int .i64 since) ∧ w.cell? ⟨b, 2, none⟩ = some (.int .i64 limit) ∧
    w.cell? ⟨b, 3, none⟩ = some (.bool gon) ∧ w.cell? ⟨b, 4, none⟩ = some (.int .i64 gsince) ∧ w.cell? ⟨b, 5, none⟩ = some (.int .i64 glimit) :=
  ⟨h.cell 0 _ rfl, h.cell 1 _ rfl, h.cell 2 _ rfl, h.cell 3 _ rfl, h.cell 4 _ rfl, h.cell 5 _ rfl⟩

set_option maxHeartbeats 1000000 in
theorem check_any (b : Nat) (g : Gd) (now : Int) (w : World) (hg : Blk w b g.cells GT) (ok : g.Ok) :
    Calls Try.prog 10 #[.pointer (some ⟨b, 0, none⟩), .int .i64 now] w fun e w' => e = .returned (.int .i64 (g.check now)) ∧ Below w.heap.size w w' := by
  have HG := hid hg
  obtain ⟨s0, s1, l0, l1, t0, t1, m0, m1⟩ := ok
  obtain ⟨on, since, limit, gon, gsince, glimit⟩ := g
  simp only at s0 s1 l0 l1 t0 t1 m0 m1
  obtain ⟨c0, c1, c2, c3, c4, c5⟩ := Gd.facts hg
  clear hg
  by_cases ht : tickB now = true
  · obtain ⟨n0, n1⟩ := tickB_iff.1 ht
    generalize hx : (on && decide (limit < now - since)) = x
    generalize hy : (gon && decide (glimit < now - gsince)) = y
    have hr : Gd.check ⟨on, since, limit, gon, gsince, glimit⟩ now = chk on x y := by simp only [Gd.check, ht, hx, hy, Bool.and_true]
    rw [hr]
    have HX := hid hx
    have HY := hid hy
    have HT := hid ht
    clear ht hx hy hr
    cases on <;> cases x <;> cases y
    all_goals
      go_enter Try.func10, Try.ntmps10
      go_wp2_with (first
        | (go_at_call 15; refine (awake_any _ _ _ HG.out).mono ?_; rintro e w' ⟨rfl, rfl⟩)
        | (go_at_call 25; refine (tick_any _ _).mono ?_; rintro e w' ⟨rfl, rfl⟩; rw [HT.out])
        | (go_at_call 27; refine (over_any _ _ _ _ _ (by omega) (by omega) (by omega) (by omega)).mono ?_; rintro e w1 ⟨rfl, hb⟩; rw [HX.out]; obtain ⟨c0', c1', c2', c3', c4', c5'⟩ := Gd.facts (HG.out.below hb HG.out.lt); have HB := hid hb; clear hb)
        | (go_at_call 27; refine (over_any _ _ _ _ _ (by omega) (by omega) (by omega) (by omega)).mono ?_; rintro e w2 ⟨rfl, hb⟩; rw [HY.out]; have HC := hid (HB.out.trans (hb.mono HB.out.size)); clear hb))
      go_ret
      exact ⟨rfl, by first | exact Below.refl _ _ | exact HC.out | exact HB.out⟩
  · have hr : Gd.check ⟨on, since, limit, gon, gsince, glimit⟩ now = 0 := by simp [Gd.check, chk, ht]
    have ht' : tickB now = false := by simpa using ht
    rw [hr]
    have HT := hid ht'
    clear ht hr ht'
    cases on
    all_goals
      go_enter Try.func10, Try.ntmps10
      go_wp2_with (first
        | (go_at_call 15; refine (awake_any _ _ _ HG.out).mono ?_; rintro e w' ⟨rfl, rfl⟩)
        | (go_at_call 25; refine (tick_any _ _).mono ?_; rintro e w' ⟨rfl, rfl⟩; rw [HT.out]))
      go_ret
      exact ⟨rfl, Below.refl _ _⟩

/-- How many ticks may still pass. -/
def Gd.left (g : Gd) (now : Int) : Int :=
  if g.gon then min (max 0 (g.limit - max 0 (now - g.since))) (max 0 (g.glimit - max 0 (now - g.gsince))) else max 0 (g.limit - max 0 (now - g.since))

set_option maxHeartbeats 1000000 in
theorem left_yes (b : Nat) (g : Gd) (now : Int) (w : World) (hg : Blk w b g.cells GT) (ok : g.Ok) (hon : g.on = true) (ht : tickB now = true) :
    Calls Try.prog 14 #[.pointer (some ⟨b, 0, none⟩), .int .i64 now] w fun e w' => e = .returned (.tuple #[.int .i64 (g.left now), .bool true]) ∧ Below w.heap.size w w' := by
  have HG := hid hg
  obtain ⟨s0, s1, l0, l1, t0, t1, m0, m1⟩ := ok
  obtain ⟨on, since, limit, gon, gsince, glimit⟩ := g
  simp only at s0 s1 l0 l1 t0 t1 m0 m1 hon
  subst hon
  obtain ⟨c0, c1, c2, c3, c4, c5⟩ := Gd.facts hg
  obtain ⟨n0, n1⟩ := tickB_iff.1 ht
  have HT := hid ht
  clear hg ht
  cases gon
  all_goals
    go_enter Try.func14, Try.ntmps14
    go_wp2_with (first
      | (go_at_call 15; refine (awake_any _ _ _ HG.out).mono ?_; rintro e w' ⟨rfl, rfl⟩)
      | (go_at_call 25; refine (tick_any _ _).mono ?_; rintro e w' ⟨rfl, rfl⟩; rw [HT.out])
      | (go_at_call 28; refine (left_any true _ _ _ _ (by omega) (by omega) (by omega) (by omega) (by omega) (by omega)).mono ?_; rintro e w1 ⟨rfl, hb⟩; obtain ⟨c0', c1', c2', c3', c4', c5'⟩ := Gd.facts (HG.out.below hb HG.out.lt); have HB := hid hb; clear hb)
      | (go_at_call 28; refine (left_any true _ _ _ _ (by omega) (by omega) (by omega) (by omega) (by omega) (by omega)).mono ?_; rintro e w2 ⟨rfl, hb⟩; have HC := hid (HB.out.trans (hb.mono HB.out.size)); clear hb))
    go_ret2
    exact ⟨rfl, by first | exact HC.out | exact HB.out⟩

set_option maxHeartbeats 1000000 in
theorem left_no (b : Nat) (g : Gd) (now : Int) (w : World) (hg : Blk w b g.cells GT) (h : (g.on && tickB now) = false) :
    Calls Try.prog 14 #[.pointer (some ⟨b, 0, none⟩), .int .i64 now] w fun e w' => e = .returned (.tuple #[.int .i64 0, .bool false]) ∧ w = w' := by
  have HG := hid hg
  obtain ⟨on, since, limit, gon, gsince, glimit⟩ := g
  simp only at h
  generalize ht : tickB now = tk at h
  have HT := hid ht
  clear hg ht
  cases on
  · clear h
    go_enter Try.func14, Try.ntmps14
    go_wp2_with (first
      | (go_at_call 15; refine (awake_any _ _ _ HG.out).mono ?_; rintro e w' ⟨rfl, rfl⟩))
    go_ret2
    exact ⟨rfl, rfl⟩
  · simp only [Bool.true_and] at h
    subst h
    go_enter Try.func14, Try.ntmps14
    go_wp2_with (first
      | (go_at_call 15; refine (awake_any _ _ _ HG.out).mono ?_; rintro e w' ⟨rfl, rfl⟩)
      | (go_at_call 25; refine (tick_any _ _).mono ?_; rintro e w' ⟨rfl, rfl⟩; rw [HT.out]))
    go_ret2
    exact ⟨rfl, rfl⟩

set_option maxHeartbeats 1000000 in
theorem fork_any (b : Nat) (g : Gd) (w : World) (hg : Blk w b g.cells GT) :
    Calls Try.prog 13 #[.pointer (some ⟨b, 0, none⟩)] w fun e w' => e = .returned (.pointer (some ⟨w.heap.size, 0, none⟩)) ∧ Blk w' w.heap.size g.cells GT ∧ Below w.heap.size w w' := by
  obtain ⟨on, since, limit, gon, gsince, glimit⟩ := g
  obtain ⟨c0, c1, c2, c3, c4, c5⟩ := Gd.facts hg
  have hlt := hg.lt
  clear hg
  go_enter Try.func13, Try.ntmps13
  go_wp2
  go_ret
  exact ⟨rfl, Blk.new _ _ _, (Below.refl _ _).alloc (Nat.le_refl _) _⟩

set_option maxHeartbeats 1000000 in
theorem new_yes (t g : Int) (w : World) (ht : mayB t = true) (hg : mayB g = true) :
    Calls Try.prog 7 #[.int .i64 t, .int .i64 g] w fun e w' => e = .returned (.tuple #[.pointer (some ⟨w.heap.size, 0, none⟩), .int .i64 0]) ∧ Blk w' w.heap.size (Gd.cells ⟨false, 0, t, false, 0, g⟩) GT ∧ Below w.heap.size w w' := by
  have HT := hid ht
  have HG := hid hg
  clear ht hg
  go_enter Try.func7, Try.ntmps7
  go_wp2_with (first
      | (go_at_call 24; refine (may_any _ _).mono ?_; rintro e w' ⟨rfl, rfl⟩; first | rw [HT.out] | rw [HG.out]))
  go_ret2
  exact ⟨rfl, Blk.new _ _ _, (Below.refl _ _).alloc (Nat.le_refl _) _⟩

set_option maxHeartbeats 1000000 in
theorem new_no (t g : Int) (w : World) (h : (mayB t && mayB g) = false) :
    Calls Try.prog 7 #[.int .i64 t, .int .i64 g] w fun e w' => e = .returned (.tuple #[.pointer none, .int .i64 2]) ∧ w = w' := by
  generalize ht : mayB t = x at h
  generalize hg : mayB g = y at h
  have HT := hid ht
  have HG := hid hg
  clear ht hg
  cases x
  · clear h
    go_enter Try.func7, Try.ntmps7
    go_wp2_with (first
      | (go_at_call 24; refine (may_any _ _).mono ?_; rintro e w' ⟨rfl, rfl⟩; first | rw [HT.out] | rw [HG.out]))
    go_ret2
    exact ⟨rfl, rfl⟩
  · simp only [Bool.true_and] at h
    subst h
    go_enter Try.func7, Try.ntmps7
    go_wp2_with (first
      | (go_at_call 24; refine (may_any _ _).mono ?_; rintro e w' ⟨rfl, rfl⟩; first | rw [HT.out] | rw [HG.out]))
    go_ret2
    exact ⟨rfl, rfl⟩

/-! A nil guard. -/
theorem sleep_nil (w : World) : Calls Try.prog 16 #[.pointer none] w fun e w' => e = .returned (.tuple #[]) ∧ w = w' := by
  go_enter Try.func16, Try.ntmps16
  go_wp2
  go_end0
  exact ⟨rfl, rfl⟩
theorem drop_nil (w : World) : Calls Try.prog 17 #[.pointer none] w fun e w' => e = .returned (.tuple #[]) ∧ w = w' := by
  go_enter Try.func17, Try.ntmps17
  go_wp2
  go_end0
  exact ⟨rfl, rfl⟩
theorem fork_nil (w : World) : Calls Try.prog 13 #[.pointer none] w fun e w' => e = .returned (.pointer none) ∧ w = w' := by
  go_enter Try.func13, Try.ntmps13
  go_wp2
  go_ret
  exact ⟨rfl, rfl⟩
theorem half_nil (n : Int) (w : World) : Calls Try.prog 9 #[.pointer none, .int .i64 n] w fun e w' => e = .returned (.tuple #[]) ∧ w = w' := by
  go_enter Try.func9, Try.ntmps9
  go_wp2_with (first | (go_at_call 15; refine (awake_nil _).mono ?_; rintro e w' ⟨rfl, rfl⟩))
  go_end0
  exact ⟨rfl, rfl⟩
theorem whole_nil (n : Int) (w : World) : Calls Try.prog 11 #[.pointer none, .int .i64 n] w fun e w' => e = .returned (.tuple #[]) ∧ w = w' := by
  go_enter Try.func11, Try.ntmps11
  go_wp2_with (first | (go_at_call 15; refine (awake_nil _).mono ?_; rintro e w' ⟨rfl, rfl⟩))
  go_end0
  exact ⟨rfl, rfl⟩
theorem wake_nil (n : Int) (w : World) : Calls Try.prog 8 #[.pointer none, .int .i64 n] w fun e w' => e = .returned (.bool false) ∧ w = w' := by
  go_enter Try.func8, Try.ntmps8
  go_wp2
  go_ret
  exact ⟨rfl, rfl⟩
theorem check_nil (n : Int) (w : World) : Calls Try.prog 10 #[.pointer none, .int .i64 n] w fun e w' => e = .returned (.int .i64 0) ∧ w = w' := by
  go_enter Try.func10, Try.ntmps10
  go_wp2_with (first | (go_at_call 15; refine (awake_nil _).mono ?_; rintro e w' ⟨rfl, rfl⟩))
  go_ret
  exact ⟨rfl, rfl⟩
theorem left_nil (n : Int) (w : World) : Calls Try.prog 14 #[.pointer none, .int .i64 n] w fun e w' => e = .returned (.tuple #[.int .i64 0, .bool false]) ∧ w = w' := by
  go_enter Try.func14, Try.ntmps14
  go_wp2_with (first | (go_at_call 15; refine (awake_nil _).mono ?_; rintro e w' ⟨rfl, rfl⟩))
  go_ret2
  exact ⟨rfl, rfl⟩

theorem Gd.Ok.mk0 {a b : Int} (ha : mayB a = true) (hb : mayB b = true) : Gd.Ok ⟨false, 0, a, false, 0, b⟩ := by
  simp [mayB] at ha hb
  constructor <;> simp <;> omega
theorem Gd.Ok.wake {g : Gd} (h : g.Ok) (n : Int) : (g.wake n).Ok := by
  obtain ⟨s0, s1, l0, l1, t0, t1, m0, m1⟩ := h
  unfold Gd.wake; split
  · exact ⟨s0, s1, l0, l1, t0, t1, m0, m1⟩
  · rename_i hh
    have : tickB n = true := by cases h' : tickB n <;> simp_all
    obtain ⟨n0, n1⟩ := tickB_iff.1 this
    exact ⟨n0, n1, l0, l1, t0, t1, m0, m1⟩
theorem Gd.Ok.half {g : Gd} (h : g.Ok) (n : Int) : (g.half n).Ok := by
  obtain ⟨s0, s1, l0, l1, t0, t1, m0, m1⟩ := h
  unfold Gd.half; split
  · rename_i hh
    have : tickB n = true := by cases h' : tickB n <;> simp_all
    obtain ⟨n0, n1⟩ := tickB_iff.1 this
    exact ⟨s0, s1, l0, l1, n0, n1, m0, m1⟩
  · exact ⟨s0, s1, l0, l1, t0, t1, m0, m1⟩
theorem Gd.Ok.whole {g : Gd} (h : g.Ok) (n : Int) : (g.whole n).Ok := by
  obtain ⟨s0, s1, l0, l1, t0, t1, m0, m1⟩ := h
  unfold Gd.whole; split
  · rename_i hh
    have : tickB n = true := by cases h' : tickB n <;> simp_all
    obtain ⟨n0, n1⟩ := tickB_iff.1 this
    exact ⟨n0, n1, l0, l1, t0, t1, m0, m1⟩
  · exact ⟨s0, s1, l0, l1, t0, t1, m0, m1⟩

set_option maxHeartbeats 1000000 in
theorem live_any (w : World) : Calls Try.prog 12 #[] w fun e w' => e = .returned (.bool true) ∧ Below w.heap.size w w' := by
  have ok0 : Gd.Ok (Gd.wake ⟨false, 0, 10, false, 0, 2⟩ 5) := (Gd.Ok.mk0 (by decide) (by decide)).wake 5
  have e1 : Gd.check (Gd.wake ⟨false, 0, 10, false, 0, 2⟩ 5) 15 = 0 := by decide
  have e2 : Gd.check (Gd.wake ⟨false, 0, 10, false, 0, 2⟩ 5) 16 = 4 := by decide
  have OK := hid ok0
  have E1 := hid e1
  have E2 := hid e2
  clear ok0 e1 e2
  have hB : w.heap.size ≤ w.heap.size := Nat.le_refl _
  go_enter Try.func12, Try.ntmps12
  go_wp2_with fail
  refine (new_yes 10 2 _ (by decide) (by decide)).mono ?_
  rintro e w1 ⟨rfl, b1, l1⟩
  have B1 := hid b1
  have L1 := hid l1
  clear b1 l1
  go_wp2_with fail
  refine (wake_any _ _ 5 _ B1.out).mono ?_
  rintro e w2 ⟨rfl, b2, o2⟩
  have B2 := hid b2
  have L2 := hid (L1.out.trans (o2.below (Nat.le_refl _) (Nat.le_of_lt B1.out.lt)))
  clear b2 o2
  go_wp2_with fail
  refine (check_any _ _ 15 _ B2.out OK.out).mono ?_
  rintro e w3 ⟨rfl, l3⟩
  rw [E1.out]
  have B3 := hid (B2.out.below l3 B2.out.lt)
  have L3 := hid (L2.out.trans (l3.mono L2.out.size))
  clear l3
  go_wp2_with fail
  refine (check_any _ _ 16 _ B3.out OK.out).mono ?_
  rintro e w4 ⟨rfl, l4⟩
  rw [E2.out]
  have L4 := hid (L3.out.trans (l4.mono L3.out.size))
  clear l4
  go_wp2_with fail
  go_ret
  exact ⟨rfl, L4.out⟩

end Go.Proofs.Yteijmjhafmlknaa
