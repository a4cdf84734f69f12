import Derived.Test.YteijmjhafmlknaaGWell
set_option linter.unusedSimpArgs false
set_option linter.unusedVariables false
namespace Go.Proofs.Yteijmjhafmlknaa
open Go.RowKit
attribute [local go_sem] max2_max min2_min max_of_two min_of_two

theorem wake_yes (b : Nat) (s l t m now : Int) (g : Bool) (w : World) (hg : Blk w b (Gd.cells ⟨false, s, l, g, t, m⟩) GT) (h0 : 0 ≤ now) (h1 : now ≤ 2147483647) :
    Calls Try.prog 8 #[.pointer (some ⟨b, 0, none⟩), .int .i64 now] w fun e w' => e = .returned (.bool true) ∧ Blk w' b (Gd.cells ⟨true, now, l, g, t, m⟩) GT ∧ Only b w w' := by
  refine (wake_any b _ now w hg).mono ?_
  rintro e w' ⟨rfl, hb, ho⟩
  have e := tickB_iff.2 ⟨h0, h1⟩
  simp only [Gd.wake, e, Bool.not_false, Bool.not_true, Bool.or_false, Bool.and_true, Bool.false_eq_true, if_false] at hb ⊢
  exact ⟨trivial, hb, ho⟩
theorem half_yes (b : Nat) (s l t m now : Int) (g : Bool) (w : World) (hg : Blk w b (Gd.cells ⟨true, s, l, g, t, m⟩) GT) (h0 : 0 ≤ now) (h1 : now ≤ 2147483647) :
    Calls Try.prog 9 #[.pointer (some ⟨b, 0, none⟩), .int .i64 now] w fun e w' => e = .returned (.tuple #[]) ∧ Blk w' b (Gd.cells ⟨true, s, l, true, now, m⟩) GT ∧ Only b w w' := by
  refine (half_any b _ now w hg).mono ?_
  rintro e w' ⟨rfl, hb, ho⟩
  rw [Gd.half_on h0 h1] at hb
  exact ⟨rfl, hb, ho⟩
theorem check_none (b : Nat) (s l t m now : Int) (o g : Bool) (w : World) (hg : Blk w b (Gd.cells ⟨o, s, l, g, t, m⟩) GT) (ok : Gd.Ok ⟨o, s, l, g, t, m⟩) (h0 : now - s ≤ l) (h1 : g = true → now - t ≤ m) :
    Calls Try.prog 10 #[.pointer (some ⟨b, 0, none⟩), .int .i64 now] w fun e w' => e = .returned (.int .i64 0) ∧ Below w.heap.size w w' := by
  refine (check_any b _ now w hg ok).mono ?_
  rintro e w' ⟨rfl, hb⟩
  rw [Gd.check_zero h0 h1]
  exact ⟨rfl, hb⟩
theorem check_time (b : Nat) (s l t m now : Int) (g : Bool) (w : World) (hg : Blk w b (Gd.cells ⟨true, s, l, g, t, m⟩) GT) (ok : Gd.Ok ⟨true, s, l, g, t, m⟩) (h0 : l < now - s) (h1 : now ≤ 2147483647) :
    Calls Try.prog 10 #[.pointer (some ⟨b, 0, none⟩), .int .i64 now] w fun e w' => e = .returned (.int .i64 4) ∧ Below w.heap.size w w' := by
  refine (check_any b _ now w hg ok).mono ?_
  rintro e w' ⟨rfl, hb⟩
  obtain ⟨s0, s1, l0, l1, t0, t1, m0, m1⟩ := ok
  simp only at s0 l0
  have e : Gd.check ⟨true, s, l, g, t, m⟩ now = 4 := by
    simp [Gd.check, chk, tickB_iff.2 ⟨(by omega : 0 ≤ now), h1⟩, h0]
  rw [e]
  exact ⟨rfl, hb⟩
theorem check_gap (b : Nat) (s l t m now : Int) (w : World) (hg : Blk w b (Gd.cells ⟨true, s, l, true, t, m⟩) GT) (ok : Gd.Ok ⟨true, s, l, true, t, m⟩) (h0 : now - s ≤ l) (h2 : m < now - t) (h1 : now ≤ 2147483647) :
    Calls Try.prog 10 #[.pointer (some ⟨b, 0, none⟩), .int .i64 now] w fun e w' => e = .returned (.int .i64 5) ∧ Below w.heap.size w w' := by
  refine (check_any b _ now w hg ok).mono ?_
  rintro e w' ⟨rfl, hb⟩
  obtain ⟨s0, s1, l0, l1, t0, t1, m0, m1⟩ := ok
  simp only at t0 m0
  have e1 : decide (l < now - s) = false := by simp; omega
  have e : Gd.check ⟨true, s, l, true, t, m⟩ now = 5 := by
    simp [Gd.check, chk, tickB_iff.2 ⟨(by omega : 0 ≤ now), h1⟩, h2, e1]
  rw [e]
  exact ⟨rfl, hb⟩

set_option maxRecDepth 100000 in
set_option maxHeartbeats 4000000 in
theorem late_any (x y wk z : Int) (w : World) (hx0 : 0 ≤ x) (hx1 : x ≤ 255) (hy0 : 0 ≤ y) (hy1 : y ≤ 255) (hk0 : 0 ≤ wk) (hk1 : wk ≤ 65535) (hz0 : 0 ≤ z) (hz1 : z ≤ 255) :
    Calls Try.prog 4 #[.int .u8 x, .int .u8 y, .int .u16 wk, .int .u8 z] w fun e w' => e = .returned (.bool true) ∧ Below w.heap.size w w' := by
  have ha0 : 1 ≤ 1 + x % 200 := by omega
  have ha1 : 1 + x % 200 ≤ 200 := by omega
  have hb0 : 1 ≤ 1 + y % 200 := by omega
  have hb1 : 1 + y % 200 ≤ 200 := by omega
  have ma : mayB (1 + x % 200) = true := by simp [mayB]; omega
  have mb : mayB (1 + y % 200) = true := by simp [mayB]; omega
  have MA := hid ma
  have MB := hid mb
  clear ma mb
  go_enter Try.func4, Try.ntmps4
  go_wp2_with fail
  refine (new_yes _ _ _ MA.out MB.out).mono ?_
  clear MA MB
  generalize 1 + x % 200 = a at *
  generalize 1 + y % 200 = b at *
  rintro e w1 ⟨rfl, b1, l1⟩
  have B1 := hid b1
  have L1 := hid l1
  clear b1 l1
  go_wp2_with fail
  refine (wake_yes _ _ _ _ _ _ _ _ B1.out (by omega) (by omega)).mono ?_
  rintro e w2 ⟨rfl, b2, o2⟩
  have B2 := hid b2
  have L2 := hid (L1.out.trans (o2.below (Nat.le_refl _) (Nat.le_of_lt B1.out.lt)))
  clear b2 o2 B1 L1
  go_wp2_with fail
  go_loopg [13] (a + 1).toNat (fun k v13 wr => ∃ n : Nat, n + k = (a + 1).toNat ∧ v13 = .int .i64 n ∧ Hid (Blk wr w.heap.size (Gd.cells ⟨true, wk, a, false, 0, b⟩) GT) ∧ Hid (Below w.heap.size w wr))
  case atStart => exact ⟨0, by omega, rfl, B2, L2⟩
  case round =>
    clear B2 L2
    obtain ⟨n, hnk, rfl, BG, BW⟩ := hrel
    by_cases hle : (n : Int) ≤ a
    · have OKr : Hid (Gd.Ok ⟨true, wk, a, false, 0, b⟩) := by constructor <;> simp <;> omega
      go_wp2_with fail
      refine (check_none _ _ _ _ _ _ _ _ _ BG.out OKr.out (by omega) (by simp)).mono ?_
      rintro e w4 ⟨rfl, l4⟩
      have B4 := hid (BG.out.below l4 BG.out.lt)
      have L4 := hid (BW.out.trans (l4.mono BW.out.size))
      clear l4 BG BW
      go_wp2_with fail
      go_roundg (gk - 1)
      case rel => exact ⟨n + 1, by omega, by go_num, B4, L4⟩
      case measure => omega
    · have OKr : Hid (Gd.Ok ⟨true, wk, a, false, 0, b⟩) := by constructor <;> simp <;> omega
      go_wp2_with fail
      refine (check_time _ _ _ _ _ _ _ _ BG.out OKr.out (by omega) (by omega)).mono ?_
      rintro e w4 ⟨rfl, l4⟩
      have B4 := hid (BG.out.below l4 BG.out.lt)
      have L4 := hid (BW.out.trans (l4.mono BW.out.size))
      clear l4 BG BW
      go_wp2_with fail
      refine (fork_any _ _ _ B4.out).mono ?_
      rintro e w5 ⟨rfl, b5, l5⟩
      have hs4 := L4.out.size
      generalize hh : w4.heap.size = h at *
      have HH := hid hh
      have B5 := hid b5
      have L5 := hid (L4.out.trans (l5.mono (by omega)))
      clear l5 b5 hh
      have hr0 := Int.emod_nonneg z (b := a + 1) (by omega)
      have hr1 := Int.emod_lt_of_pos z (b := a + 1) (by omega)
      go_wp2_with fail
      generalize z % (a + 1) = f at *
      refine (half_yes _ _ _ _ _ _ _ _ B5.out (by omega) (by omega)).mono ?_
      rintro e w6 ⟨rfl, b6, o6⟩
      have hs5 := L5.out.size
      have B6 := hid b6
      have L6 := hid (L5.out.trans (o6.below hs4 hs5))
      clear b6 o6 B5 L5 B4 L4
      have OK2 : Hid (Gd.Ok ⟨true, wk, a, true, wk + f, b⟩) := by constructor <;> simp <;> omega
      go_wp2_with fail
      go_loopg [16] (b + 1).toNat (fun k v16 wr => ∃ n : Nat, n + k = (b + 1).toNat ∧ v16 = .int .i64 n ∧ Hid (Blk wr h (Gd.cells ⟨true, wk, a, true, wk + f, b⟩) GT) ∧ Hid (Below w.heap.size w wr))
      case atStart => exact ⟨0, by omega, rfl, B6, L6⟩
      case round =>
        clear B6 L6
        obtain ⟨m, hmk, rfl, BG, BW⟩ := hrel
        by_cases hle1 : (m : Int) ≤ b
        · by_cases hle2 : wk + f + m ≤ wk + a
          · have d1 : decide ((m : Int) ≤ b) = true := by simpa using hle1
            have d2 : decide (wk + f + m ≤ wk + a) = true := by simpa using hle2
            go_wp2_with fail
            refine (check_none _ _ _ _ _ _ _ _ _ BG.out OK2.out (by omega) (by intro; omega)).mono ?_
            rintro e w7 ⟨rfl, l7⟩
            have B7 := hid (BG.out.below l7 BG.out.lt)
            have L7 := hid (BW.out.trans (l7.mono BW.out.size))
            clear l7 BG BW
            go_wp2_with fail
            go_roundg (gk - 1)
            case rel => exact ⟨m + 1, by omega, by go_num, B7, L7⟩
            case measure => omega
          · have d1 : decide ((m : Int) ≤ b) = true := by simpa using hle1
            have d2 : decide (wk + f + m ≤ wk + a) = false := by simp; omega
            have d3 : decide (wk + a < wk + f + b + 1) = true := by simp; omega
            go_wp2_with fail
            refine (live_any _).mono ?_
            rintro e w7 ⟨rfl, l7⟩
            have L7 := hid (BW.out.trans (l7.mono BW.out.size))
            clear l7 BG BW
            go_wp2_with fail
            go_ret
            exact ⟨rfl, L7.out⟩
        · have d1 : decide ((m : Int) ≤ b) = false := by simp; omega
          by_cases hfin : wk + a < wk + f + b + 1
          · have d3 : decide (wk + a < wk + f + b + 1) = true := by simp; omega
            go_wp2_with fail
            refine (live_any _).mono ?_
            rintro e w7 ⟨rfl, l7⟩
            have L7 := hid (BW.out.trans (l7.mono BW.out.size))
            clear l7 BG BW
            go_wp2_with fail
            go_ret
            exact ⟨rfl, L7.out⟩
          · have d3 : decide (wk + a < wk + f + b + 1) = false := by simp; omega
            go_wp2_with fail
            refine (live_any _).mono ?_
            rintro e w7 ⟨rfl, l7⟩
            have hlt7 := BG.out.lt
            have B7 := hid (BG.out.below l7 BG.out.lt)
            have L7 := hid (BW.out.trans (l7.mono BW.out.size))
            clear l7 BG BW
            go_wp2_with fail
            refine (check_gap _ _ _ _ _ _ _ B7.out OK2.out (by omega) (by omega) (by omega)).mono ?_
            rintro e w8 ⟨rfl, l8⟩
            have L8 := hid (L7.out.trans (l8.mono L7.out.size))
            clear l8
            go_wp2_with fail
            go_ret
            exact ⟨rfl, L8.out⟩

theorem late_entry (v0 v1 v2 v3 : Value) (W : World) {base : Nat} (h0 : Rd Try.prog W 5 v0.cells.toList) (o0 : Value.okWide Try.prog W .any base 5 v0)
    (h1 : Rd Try.prog W 5 v1.cells.toList) (o1 : Value.okWide Try.prog W .any base 5 v1)
    (h2 : Rd Try.prog W 34 v2.cells.toList) (o2 : Value.okWide Try.prog W .any base 34 v2)
    (h3 : Rd Try.prog W 5 v3.cells.toList) (o3 : Value.okWide Try.prog W .any base 5 v3) :
    Calls Try.prog 4 #[v0, v1, v2, v3] W fun e w' => e = .returned (.bool true) ∧ Below W.heap.size W w' := by
  obtain ⟨x, rfl, wx⟩ := opn_int Try.underlying5 h0 o0
  obtain ⟨y, rfl, wy⟩ := opn_int Try.underlying5 h1 o1
  obtain ⟨k, rfl, wk⟩ := opn_int Try.underlying34 h2 o2
  obtain ⟨z, rfl, wz⟩ := opn_int Try.underlying5 h3 o3
  have hx := wf_u8 wx
  have hy := wf_u8 wy
  have hk := wf_u16 wk
  have hz := wf_u8 wz
  exact late_any x y k z W hx.1 hx.2 hy.1 hy.2 hk.1 hk.2 hz.1 hz.2

end Go.Proofs.Yteijmjhafmlknaa
