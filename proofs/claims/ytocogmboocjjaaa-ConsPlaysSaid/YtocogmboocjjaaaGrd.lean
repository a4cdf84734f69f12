
import Derived.Test.YtocogmboocjjaaaRows
import Derived.Test.YtocogmboocjjaaaObjs
import Derived.Deep.QuietTactic
import Derived.BigQuiet
import Derived.WalkLawsBesides
set_option linter.unusedSimpArgs false
set_option linter.unusedVariables false
namespace Go.Proofs.Ytocogmboocjjaaa
open Go.RowKit

attribute [local go_sem] max2_max min2_min max_of_two min_of_two

structure Gd where
  on : Bool
  since : Int
  limit : Int
  gon : Bool
  gsince : Int
  glimit : Int

def Gd.cells (g : Gd) : Array Value := #[.bool g.on, .int .i64 g.since, .int .i64 g.limit, .bool g.gon, .int .i64 g.gsince, .int .i64 g.glimit]

abbrev GT : TypeId := 104

def tickB (n : Int) : Bool := decide (0 ≤ n) && decide (n ≤ 2147483647)

set_option maxHeartbeats 400000 in
theorem tick_any (n : Int) (w : World) :
    Calls Try.prog 55 #[.int .i64 n] w fun e w' => e = .returned (.bool (tickB n)) ∧ w = w' := by
  unfold tickB
  go_enter Try.func55, Try.ntmps55
  go_wp2
  all_goals (go_ret; exact ⟨ret_bool (by simp; try omega), rfl⟩)

def mayB (n : Int) : Bool := decide (1 ≤ n) && decide (n ≤ 65535)

set_option maxHeartbeats 400000 in
theorem may_any (n : Int) (w : World) :
    Calls Try.prog 64 #[.int .i64 n] w fun e w' => e = .returned (.bool (mayB n)) ∧ w = w' := by
  unfold mayB
  go_enter Try.func64, Try.ntmps64
  go_wp2
  all_goals (go_ret; exact ⟨ret_bool (by simp; try omega), rfl⟩)

set_option maxHeartbeats 400000 in
theorem awake_nil (w : World) :
    Calls Try.prog 54 #[.pointer none] w fun e w' => e = .returned (.bool false) ∧ w = w' := by
  go_enter Try.func54, Try.ntmps54
  go_wp2
  all_goals (go_ret; exact ⟨rfl, rfl⟩)

set_option maxHeartbeats 400000 in
theorem awake_any (b : Nat) (g : Gd) (w : World) (hg : Blk w b g.cells GT) :
    Calls Try.prog 54 #[.pointer (some ⟨b, 0, none⟩)] w fun e w' => e = .returned (.bool g.on) ∧ w = w' := by
  have c0 := hg.cell 0 (.bool g.on) rfl
  have HG := hid hg
  clear hg
  go_enter Try.func54, Try.ntmps54
  go_wp2
  all_goals (go_ret; exact ⟨rfl, rfl⟩)

/-- 'begin', at either of the two. -/
theorem begin_at (b i : Nat) (cs : Array Value) (t : TypeId) (x y : Value) (now : Int) (w : World) (hg : Blk w b cs t) (h0 : cs[i]? = some x) (h1 : cs[i + 1]? = some y) :
    Calls Try.prog 61 #[.pointer (some ⟨b, i, none⟩), .int .i64 now] w fun e w' => e = .returned (.tuple #[]) ∧ Blk w' b ((cs.setIfInBounds i (.bool true)).setIfInBounds (i + 1) (.int .i64 now)) t ∧ Only b w w' := by
  have c0 := hg.cell i _ h0
  have c1 := hg.cell (i + 1) _ h1
  have f0 := hg.free i
  have f1 := hg.free (i + 1)
  have HG := hid hg
  clear hg h0 h1
  go_enter Try.func61, Try.ntmps61
  go_wp2
  go_end0
  exact ⟨rfl, (HG.out.set i _).set (i + 1) _, ((Only.refl _ _).set i _).set (i + 1) _⟩

/-- What Wake makes of it. -/
def Gd.wake (g : Gd) (now : Int) : Gd := if g.on || !tickB now then g else { g with on := true, since := now }

set_option maxHeartbeats 400000 in
theorem wake_any (b : Nat) (g : Gd) (now : Int) (w : World) (hg : Blk w b g.cells GT) :
    Calls Try.prog 53 #[.pointer (some ⟨b, 0, none⟩), .int .i64 now] w fun e w' => e = .returned (.bool (!g.on && tickB now)) ∧ Blk w' b (g.wake now).cells GT ∧ Only b w w' := by
  have HG := hid hg
  clear hg
  obtain ⟨on, since, limit, gon, gsince, glimit⟩ := g
  generalize ht : tickB now = tk
  have HT := hid ht
  clear ht
  cases on <;> cases tk
  all_goals
    go_enter Try.func53, Try.ntmps53
    go_wp2_with (first | (go_at_call 54; refine (awake_any _ _ _ HG.out).mono ?_; rintro e w' ⟨rfl, rfl⟩) | (go_at_call 55; refine (tick_any _ _).mono ?_; rintro e w' ⟨rfl, rfl⟩; rw [HT.out]) | (go_at_call 61; refine (begin_at b 0 _ _ _ _ _ _ HG.out rfl rfl).mono ?_; rintro e w' ⟨rfl, hb, ho⟩; have HB := hid hb; have HO := hid ho; clear hb ho))
    go_ret
    refine ⟨rfl, ?_, by first | exact Only.refl _ _ | exact HO.out⟩
    simp only [Gd.wake, HT.out, Bool.not_true, Bool.not_false, Bool.or_true, Bool.or_false, if_true, Bool.true_or, Bool.false_eq_true, if_false]
    first | exact HG.out | exact HB.out

def Gd.half (g : Gd) (now : Int) : Gd := if g.on && tickB now then { g with gon := true, gsince := now } else g

set_option maxHeartbeats 400000 in
theorem half_any (b : Nat) (g : Gd) (now : Int) (w : World) (hg : Blk w b g.cells GT) :
    Calls Try.prog 34 #[.pointer (some ⟨b, 0, none⟩), .int .i64 now] w fun e w' => e = .returned (.tuple #[]) ∧ Blk w' b (g.half now).cells GT ∧ Only b w w' := by
  have HG := hid hg
  clear hg
  obtain ⟨on, since, limit, gon, gsince, glimit⟩ := g
  generalize ht : tickB now = tk
  have HT := hid ht
  clear ht
  cases on <;> cases tk
  all_goals
    go_enter Try.func34, Try.ntmps34
    go_wp2_with (first | (go_at_call 54; refine (awake_any _ _ _ HG.out).mono ?_; rintro e w' ⟨rfl, rfl⟩) | (go_at_call 55; refine (tick_any _ _).mono ?_; rintro e w' ⟨rfl, rfl⟩; rw [HT.out]) | (go_at_call 61; refine (begin_at b 3 _ _ _ _ _ _ HG.out rfl rfl).mono ?_; rintro e w' ⟨rfl, hb, ho⟩; have HB := hid hb; have HO := hid ho; clear hb ho))
    go_end0
    refine ⟨rfl, ?_, by first | exact Only.refl _ _ | exact HO.out⟩
    simp only [Gd.half, HT.out, Bool.and_true, Bool.and_false, Bool.true_and, if_true, Bool.false_eq_true, if_false]
    first | exact HG.out | exact HB.out

def Gd.whole (g : Gd) (now : Int) : Gd := if g.on && tickB now then { g with on := true, since := now, gon := false } else g

set_option maxHeartbeats 400000 in
theorem whole_any (b : Nat) (g : Gd) (now : Int) (w : World) (hg : Blk w b g.cells GT) :
    Calls Try.prog 35 #[.pointer (some ⟨b, 0, none⟩), .int .i64 now] w fun e w' => e = .returned (.tuple #[]) ∧ Blk w' b (g.whole now).cells GT ∧ Only b w w' := by
  have HG := hid hg
  clear hg
  obtain ⟨on, since, limit, gon, gsince, glimit⟩ := g
  generalize ht : tickB now = tk
  have HT := hid ht
  clear ht
  cases on <;> cases tk
  all_goals
    go_enter Try.func35, Try.ntmps35
    go_wp2_with (first | (go_at_call 54; refine (awake_any _ _ _ HG.out).mono ?_; rintro e w' ⟨rfl, rfl⟩) | (go_at_call 55; refine (tick_any _ _).mono ?_; rintro e w' ⟨rfl, rfl⟩; rw [HT.out]) | (go_at_call 61; refine (begin_at b 0 _ _ _ _ _ _ HG.out rfl rfl).mono ?_; rintro e w' ⟨rfl, hb, ho⟩; have f3 := hb.free 3; have c3 := hb.cell 3 (.bool gon) rfl; have HB := hid hb; have HO := hid ho; clear hb ho))
    go_end0
    refine ⟨rfl, ?_, by first | exact Only.refl _ _ | exact HO.out.set 3 _⟩
    simp only [Gd.whole, HT.out, Bool.and_true, Bool.and_false, if_true, Bool.false_eq_true, if_false]
    first | exact HG.out | exact HB.out.set 3 _

theorem below_size_refl (w : World) : Below w.heap.size w w := Below.refl _ _

set_option maxHeartbeats 400000 in
theorem over_any (on : Bool) (since limit now : Int) (w : World) (h0 : 0 ≤ since) (h1 : since ≤ 2147483647) (h2 : 0 ≤ now) (h3 : now ≤ 2147483647) :
    Calls Try.prog 56 #[.agg #[.bool on, .int .i64 since, .int .i64 limit], .int .i64 now] w fun e w' => e = .returned (.bool (on && decide (limit < now - since))) ∧ Below w.heap.size w w' := by
  cases on
  all_goals
    go_enter Try.func56, Try.ntmps56
    go_wp2
    go_ret
    exact ⟨by first | rfl | simp, (Below.refl _ _).alloc (Nat.le_refl _) _⟩

/-- The times of a guard lie within the bounds. -/
structure Gd.Ok (g : Gd) : Prop where
  s0 : 0 ≤ g.since
  s1 : g.since ≤ 2147483647
  l0 : 1 ≤ g.limit
  l1 : g.limit ≤ 65535
  t0 : 0 ≤ g.gsince
  t1 : g.gsince ≤ 2147483647
  m0 : 1 ≤ g.glimit
  m1 : g.glimit ≤ 65535

def chk (on x y : Bool) : Int := if on then (if x then 4 else if y then 5 else 0) else 0

def Gd.check (g : Gd) (now : Int) : Int :=
  chk (g.on && tickB now) (g.on && decide (g.limit < now - g.since)) (g.gon && decide (g.glimit < now - g.gsince))

theorem tickB_iff {n : Int} : tickB n = true ↔ 0 ≤ n ∧ n ≤ 2147483647 := by simp [tickB]


/-- The six cells, for a walk. -/
theorem Gd.facts {w : World} {b : Nat} {on gon : Bool} {since limit gsince glimit : Int} (h : Blk w b (Gd.cells ⟨on, since, limit, gon, gsince, glimit⟩) GT) :
    w.cell? ⟨b, 0, none⟩ = some (.bool on) ∧ w.cell? ⟨b, 1, none⟩ = some (.int .i64 since) ∧ w.cell? ⟨b, 2, none⟩ = some (.int .i64 limit) ∧
    w.cell? ⟨b, 3, none⟩ = some (.bool gon) ∧ w.cell? ⟨b, 4, none⟩ = some (.int .i64 gsince) ∧ w.cell? ⟨b, 5, none⟩ = some (.int .i64 glimit) :=
  ⟨h.cell 0 _ rfl, h.cell 1 _ rfl, h.cell 2 _ rfl, h.cell 3 _ rfl, h.cell 4 _ rfl, h.cell 5 _ rfl⟩

set_option maxHeartbeats 1000000 in
theorem check_any (b : Nat) (g : Gd) (now : Int) (w : World) (hg : Blk w b g.cells GT) (ok : g.Ok) :
    Calls Try.prog 29 #[.pointer (some ⟨b, 0, none⟩), .int .i64 now] w fun e w' => e = .returned (.int .i64 (g.check now)) ∧ Below w.heap.size w w' := by
  have HG := hid hg
  obtain ⟨s0, s1, l0, l1, t0, t1, m0, m1⟩ := ok
  obtain ⟨on, since, limit, gon, gsince, glimit⟩ := g
  simp only at s0 s1 l0 l1 t0 t1 m0 m1
  obtain ⟨c0, c1, c2, c3, c4, c5⟩ := Gd.facts hg
  clear hg
  by_cases ht : tickB now = true
  · obtain ⟨n0, n1⟩ := tickB_iff.1 ht
    generalize hx : (on && decide (limit < now - since)) = x
    generalize hy : (gon && decide (glimit < now - gsince)) = y
    have hr : Gd.check ⟨on, since, limit, gon, gsince, glimit⟩ now = chk on x y := by simp only [Gd.check, ht, hx, hy, Bool.and_true]
    rw [hr]
    have HX := hid hx
    have HY := hid hy
    have HT := hid ht
    clear ht hx hy hr
    cases on <;> cases x <;> cases y
    all_goals
      go_enter Try.func29, Try.ntmps29
      go_wp2_with (first
        | (go_at_call 54; refine (awake_any _ _ _ HG.out).mono ?_; rintro e w' ⟨rfl, rfl⟩)
        | (go_at_call 55; refine (tick_any _ _).mono ?_; rintro e w' ⟨rfl, rfl⟩; rw [HT.out])
        | (go_at_call 56; refine (over_any _ _ _ _ _ (by omega) (by omega) (by omega) (by omega)).mono ?_; rintro e w1 ⟨rfl, hb⟩; rw [HX.out]; obtain ⟨c0', c1', c2', c3', c4', c5'⟩ := Gd.facts (HG.out.below hb HG.out.lt); have HB := hid hb; clear hb)
        | (go_at_call 56; refine (over_any _ _ _ _ _ (by omega) (by omega) (by omega) (by omega)).mono ?_; rintro e w2 ⟨rfl, hb⟩; rw [HY.out]; have HC := hid (HB.out.trans (hb.mono HB.out.size)); clear hb))
      go_ret
      exact ⟨rfl, by first | exact Below.refl _ _ | exact HC.out | exact HB.out⟩
  · have hr : Gd.check ⟨on, since, limit, gon, gsince, glimit⟩ now = 0 := by simp [Gd.check, chk, ht]
    have ht' : tickB now = false := by simpa using ht
    rw [hr]
    have HT := hid ht'
    clear ht hr ht'
    cases on
    all_goals
      go_enter Try.func29, Try.ntmps29
      go_wp2_with (first
        | (go_at_call 54; refine (awake_any _ _ _ HG.out).mono ?_; rintro e w' ⟨rfl, rfl⟩)
        | (go_at_call 55; refine (tick_any _ _).mono ?_; rintro e w' ⟨rfl, rfl⟩; rw [HT.out]))
      go_ret
      exact ⟨rfl, Below.refl _ _⟩

/-- How many ticks may still pass. -/
def Gd.left (g : Gd) (now : Int) : Int :=
  if g.gon then min (max 0 (g.limit - max 0 (now - g.since))) (max 0 (g.glimit - max 0 (now - g.gsince))) else max 0 (g.limit - max 0 (now - g.since))

set_option maxHeartbeats 1000000 in
theorem fork_any (b : Nat) (g : Gd) (w : World) (hg : Blk w b g.cells GT) :
    Calls Try.prog 50 #[.pointer (some ⟨b, 0, none⟩)] w fun e w' => e = .returned (.pointer (some ⟨w.heap.size, 0, none⟩)) ∧ Blk w' w.heap.size g.cells GT ∧ Below w.heap.size w w' := by
  obtain ⟨on, since, limit, gon, gsince, glimit⟩ := g
  obtain ⟨c0, c1, c2, c3, c4, c5⟩ := Gd.facts hg
  have hlt := hg.lt
  clear hg
  go_enter Try.func50, Try.ntmps50
  go_wp2
  go_ret
  exact ⟨rfl, Blk.new _ _ _, (Below.refl _ _).alloc (Nat.le_refl _) _⟩

set_option maxHeartbeats 1000000 in
theorem new_yes (t g : Int) (w : World) (ht : mayB t = true) (hg : mayB g = true) :
    Calls Try.prog 52 #[.int .i64 t, .int .i64 g] w fun e w' => e = .returned (.tuple #[.pointer (some ⟨w.heap.size, 0, none⟩), .int .i64 0]) ∧ Blk w' w.heap.size (Gd.cells ⟨false, 0, t, false, 0, g⟩) GT ∧ Below w.heap.size w w' := by
  have HT := hid ht
  have HG := hid hg
  clear ht hg
  go_enter Try.func52, Try.ntmps52
  go_wp2_with (first
      | (go_at_call 64; refine (may_any _ _).mono ?_; rintro e w' ⟨rfl, rfl⟩; first | rw [HT.out] | rw [HG.out]))
  go_ret2
  exact ⟨rfl, Blk.new _ _ _, (Below.refl _ _).alloc (Nat.le_refl _) _⟩

set_option maxHeartbeats 1000000 in
theorem new_no (t g : Int) (w : World) (h : (mayB t && mayB g) = false) :
    Calls Try.prog 52 #[.int .i64 t, .int .i64 g] w fun e w' => e = .returned (.tuple #[.pointer none, .int .i64 2]) ∧ w = w' := by
  generalize ht : mayB t = x at h
  generalize hg : mayB g = y at h
  have HT := hid ht
  have HG := hid hg
  clear ht hg
  cases x
  · clear h
    go_enter Try.func52, Try.ntmps52
    go_wp2_with (first
      | (go_at_call 64; refine (may_any _ _).mono ?_; rintro e w' ⟨rfl, rfl⟩; first | rw [HT.out] | rw [HG.out]))
    go_ret2
    exact ⟨rfl, rfl⟩
  · simp only [Bool.true_and] at h
    subst h
    go_enter Try.func52, Try.ntmps52
    go_wp2_with (first
      | (go_at_call 64; refine (may_any _ _).mono ?_; rintro e w' ⟨rfl, rfl⟩; first | rw [HT.out] | rw [HG.out]))
    go_ret2
    exact ⟨rfl, rfl⟩

/-! A nil guard. -/
theorem Gd.Ok.mk0 {a b : Int} (ha : mayB a = true) (hb : mayB b = true) : Gd.Ok ⟨false, 0, a, false, 0, b⟩ := by
  simp [mayB] at ha hb
  constructor <;> simp <;> omega
theorem Gd.Ok.wake {g : Gd} (h : g.Ok) (n : Int) : (g.wake n).Ok := by
  obtain ⟨s0, s1, l0, l1, t0, t1, m0, m1⟩ := h
  unfold Gd.wake; split
  · exact ⟨s0, s1, l0, l1, t0, t1, m0, m1⟩
  · rename_i hh
    have : tickB n = true := by cases h' : tickB n <;> simp_all
    obtain ⟨n0, n1⟩ := tickB_iff.1 this
    exact ⟨n0, n1, l0, l1, t0, t1, m0, m1⟩
theorem Gd.Ok.half {g : Gd} (h : g.Ok) (n : Int) : (g.half n).Ok := by
  obtain ⟨s0, s1, l0, l1, t0, t1, m0, m1⟩ := h
  unfold Gd.half; split
  · rename_i hh
    have : tickB n = true := by cases h' : tickB n <;> simp_all
    obtain ⟨n0, n1⟩ := tickB_iff.1 this
    exact ⟨s0, s1, l0, l1, n0, n1, m0, m1⟩
  · exact ⟨s0, s1, l0, l1, t0, t1, m0, m1⟩
theorem Gd.Ok.whole {g : Gd} (h : g.Ok) (n : Int) : (g.whole n).Ok := by
  obtain ⟨s0, s1, l0, l1, t0, t1, m0, m1⟩ := h
  unfold Gd.whole; split
  · rename_i hh
    have : tickB n = true := by cases h' : tickB n <;> simp_all
    obtain ⟨n0, n1⟩ := tickB_iff.1 this
    exact ⟨n0, n1, l0, l1, t0, t1, m0, m1⟩
  · exact ⟨s0, s1, l0, l1, t0, t1, m0, m1⟩

end Go.Proofs.Ytocogmboocjjaaa
