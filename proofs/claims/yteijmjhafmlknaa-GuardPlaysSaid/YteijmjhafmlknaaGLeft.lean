import Derived.Test.YteijmjhafmlknaaGLate
set_option linter.unusedSimpArgs false
set_option linter.unusedVariables false
namespace Go.Proofs.Yteijmjhafmlknaa
open Go.RowKit
attribute [local go_sem] max2_max min2_min max_of_two min_of_two

/-- What holds of a guard at a tick: nothing of it lies ahead. -/
structure Gd.Inv (g : Gd) (now : Int) : Prop where
  ok : g.Ok
  s : g.since ≤ now
  t : g.gsince ≤ now
  n : now ≤ 1000
  l : g.limit ≤ 40
  m : g.glimit ≤ 40

theorem Gd.Inv.later {g : Gd} {a b : Int} (h : g.Inv a) (hab : a ≤ b) (hb : b ≤ 1000) : g.Inv b :=
  ⟨h.ok, by have := h.s; omega, by have := h.t; omega, hb, h.l, h.m⟩
theorem Gd.Inv.wake {g : Gd} {a : Int} (h : g.Inv a) : (g.wake a).Inv a := by
  refine ⟨h.ok.wake a, ?_, ?_, h.n, ?_, ?_⟩ <;> unfold Gd.wake <;> split <;> first | exact h.s | exact h.t | exact h.l | exact h.m | exact Int.le_refl _
theorem Gd.Inv.half {g : Gd} {a : Int} (h : g.Inv a) : (g.half a).Inv a := by
  refine ⟨h.ok.half a, ?_, ?_, h.n, ?_, ?_⟩ <;> unfold Gd.half <;> split <;> first | exact h.s | exact h.t | exact h.l | exact h.m | exact Int.le_refl _
theorem Gd.Inv.whole {g : Gd} {a : Int} (h : g.Inv a) : (g.whole a).Inv a := by
  refine ⟨h.ok.whole a, ?_, ?_, h.n, ?_, ?_⟩ <;> unfold Gd.whole <;> split <;> first | exact h.s | exact h.t | exact h.l | exact h.m | exact Int.le_refl _

theorem chk_ne {x y : Bool} (h : chk true x y ≠ 0) : x = true ∨ y = true := by cases x <;> cases y <;> simp_all [chk]
theorem chk_eq {x y : Bool} (h : chk true x y = 0) : x = false ∧ y = false := by cases x <;> cases y <;> simp_all [chk]

theorem Gd.left_zero {g : Gd} {now : Int} (hi : g.Inv now) (hon : g.on = true) (h0 : 0 ≤ now) (hc : g.check now ≠ 0) : g.left now = 0 := by
  obtain ⟨⟨s0, s1, l0, l1, t0, t1, m0, m1⟩, hs, ht, hn, hl, hm⟩ := hi
  have hk := tickB_iff.2 ⟨h0, (by omega : now ≤ 2147483647)⟩
  simp only [Gd.check, hon, hk, Bool.and_true, Bool.true_and] at hc
  rcases chk_ne hc with h | h
  · have h := of_decide_eq_true h
    unfold Gd.left
    split <;> omega
  · rw [Bool.and_eq_true] at h
    have h2 := of_decide_eq_true h.2
    unfold Gd.left
    rw [if_pos h.1]
    omega

theorem Gd.left_bound {g : Gd} {now : Int} (hi : g.Inv now) : 0 ≤ g.left now ∧ g.left now ≤ 40 := by
  obtain ⟨⟨s0, s1, l0, l1, t0, t1, m0, m1⟩, hs, ht, hn, hl, hm⟩ := hi
  unfold Gd.left
  split <;> omega

theorem Gd.left_last {g : Gd} {now : Int} (hi : g.Inv now) (hon : g.on = true) (h0 : 0 ≤ now) (hc : g.check now = 0) : g.check (now + g.left now) = 0 ∧ g.check (now + g.left now + 1) ≠ 0 := by
  have hb := Gd.left_bound hi
  obtain ⟨⟨s0, s1, l0, l1, t0, t1, m0, m1⟩, hs, ht, hn, hl, hm⟩ := hi
  have hk := tickB_iff.2 ⟨h0, (by omega : now ≤ 2147483647)⟩
  have hk1 := tickB_iff.2 ⟨(by omega : 0 ≤ now + g.left now), (by omega : now + g.left now ≤ 2147483647)⟩
  have hk2 := tickB_iff.2 ⟨(by omega : 0 ≤ now + g.left now + 1), (by omega : now + g.left now + 1 ≤ 2147483647)⟩
  simp only [Gd.check, hon, hk, hk1, hk2, Bool.and_true, Bool.true_and] at hc ⊢
  obtain ⟨hx, hy⟩ := chk_eq hc
  have hx := of_decide_eq_false hx
  obtain ⟨on, since, limit, gon, gsince, glimit⟩ := g
  simp only at *
  cases gon
  · simp only [Gd.left, Bool.false_eq_true, if_false, Bool.false_and] at *
    have e1 : decide (limit < now + max 0 (limit - max 0 (now - since)) - since) = false := by simp; omega
    have e2 : decide (limit < now + max 0 (limit - max 0 (now - since)) + 1 - since) = true := by simp; omega
    rw [e1, e2]
    simp [chk]
  · simp only [Gd.left, if_true, Bool.true_and] at *
    have hy := of_decide_eq_false hy
    generalize hn' : min (max 0 (limit - max 0 (now - since))) (max 0 (glimit - max 0 (now - gsince))) = n at *
    have e1 : decide (limit < now + n - since) = false := by simp; omega
    have e2 : decide (glimit < now + n - gsince) = false := by simp; omega
    rw [e1, e2]
    refine ⟨by simp [chk], ?_⟩
    by_cases h : limit < now + n + 1 - since
    · simp [chk, h]
    · have h' : glimit < now + n + 1 - gsince := by omega
      simp only [chk, h', decide_true, if_true]
      split <;> omega

set_option maxRecDepth 100000 in
set_option maxHeartbeats 8000000 in
theorem left_law (x y : Int) (A : Option Addr) (bl o len cap : Nat) (f g : Nat → Int) (w : World) (hx0 : 0 ≤ x) (hx1 : x ≤ 255) (hy0 : 0 ≤ y) (hy1 : y ≤ 255) (hlen : len ≤ maxLen) (hA : 0 < len → A = some ⟨bl, o, none⟩ ∧ bl < w.heap.size)
    (hl : ∀ i, i < len → w.cell? ⟨bl, o + i * 2, none⟩ = some (.int .i64 (f i)) ∧ w.cell? ⟨bl, o + i * 2 + 1, none⟩ = some (.int .u8 (g i))) (hg : ∀ i, i < len → 0 ≤ g i ∧ g i ≤ 255) :
    Calls Try.prog 5 #[.int .u8 x, .int .u8 y, .slice A len cap] w fun e w' => e = .returned (.bool true) ∧ Below w.heap.size w w' := by
  unfold maxLen at hlen
  have HL := hid hl
  have HG := hid hg
  have HA := hid hA
  clear hl hg hA
  have ha0 : 1 ≤ 1 + x % 40 := by omega
  have ha1 : 1 + x % 40 ≤ 40 := by omega
  have hb0 : 1 ≤ 1 + y % 40 := by omega
  have hb1 : 1 + y % 40 ≤ 40 := by omega
  have ma : mayB (1 + x % 40) = true := by simp [mayB]; omega
  have mb : mayB (1 + y % 40) = true := by simp [mayB]; omega
  have MA := hid ma
  have MB := hid mb
  clear ma mb
  go_enter Try.func5, Try.ntmps5
  go_wp2_with fail
  refine (new_yes _ _ _ MA.out MB.out).mono ?_
  clear MA MB
  generalize 1 + x % 40 = a at *
  generalize 1 + y % 40 = b at *
  rintro e w1 ⟨rfl, b1, l1⟩
  have B1 := hid b1
  have L1 := hid l1
  clear b1 l1
  have I0 : Hid (Gd.Inv ⟨false, 0, a, false, 0, b⟩ 0) := by constructor <;> first | (constructor <;> simp <;> omega) | (simp; try omega)
  go_wp2_with fail
  go_loopg [9, 10] 40 (fun k v9 v10 wr => ∃ (i : Nat) (now : Int) (gd : Gd), i + k = 40 ∧ v10 = .int .i64 i ∧ v9 = .int .i64 now ∧ 0 ≤ now ∧ now ≤ 7 * i ∧ Hid (gd.Inv now) ∧ Hid (Blk wr w.heap.size gd.cells GT) ∧ Hid (Below w.heap.size w wr))
  case atStart => exact ⟨0, 0, ⟨false, 0, a, false, 0, b⟩, by omega, rfl, rfl, by omega, by omega, I0, B1, L1⟩
  case round =>
    clear B1 L1 I0
    obtain ⟨i, now, gd, hik, rfl, rfl, hn0, hn1, IG, BG, BW⟩ := hrel
    by_cases hlt : i < len
    · by_cases h40 : i < 40
      · obtain ⟨rfl, hbl⟩ := HA.out (by omega)
        have hc0 : wr.cell? ⟨bl, o + i * 2, none⟩ = some (.int .i64 (f i)) := (BW.out.cell (p := ⟨bl, o + i * 2, none⟩) hbl).trans (HL.out i hlt).1
        have hc1 : wr.cell? ⟨bl, o + i * 2 + 1, none⟩ = some (.int .u8 (g i)) := (BW.out.cell (p := ⟨bl, o + i * 2 + 1, none⟩) hbl).trans (HL.out i hlt).2
        have hg1 := HG.out i hlt
        have hd : decide ((i : Int) < 40) = true := by simp; omega
        generalize f i = d at *
        generalize g i = by_ at *
        have hm0 : 0 ≤ by_ % 8 := by omega
        have hm1 : by_ % 8 ≤ 7 := by omega
        have IG' := hid (IG.out.later (b := now + by_ % 8) (by omega) (by omega))
        clear IG
        have hcase : d = 0 ∨ d = 2 ∨ d = 3 ∨ ((d == 0) = false ∧ (d == 2) = false ∧ (d == 3) = false) := by
          by_cases h0 : d = 0
          · exact .inl h0
          · by_cases h2 : d = 2
            · exact .inr (.inl h2)
            · by_cases h3 : d = 3
              · exact .inr (.inr (.inl h3))
              · exact .inr (.inr (.inr ⟨beq_eq_false_iff_ne.2 h0, beq_eq_false_iff_ne.2 h2, beq_eq_false_iff_ne.2 h3⟩))
        rcases hcase with rfl | rfl | rfl | ⟨e0, e2, e3⟩
        all_goals
          go_wp2_with fail
          have hw0 : 0 ≤ now + by_ % 8 := by omega
          have hw1 : now + by_ % 8 ≤ 7 * (i + 1) := by omega
          generalize now + by_ % 8 = nw at *
          (first
            | ((with_reducible refine (wake_any _ _ _ _ BG.out).mono ?_); rintro e w5 ⟨rfl, b5, o5⟩; have B5 := hid b5; have L5 := hid (BW.out.trans (o5.below (Nat.le_refl _) BW.out.size)); have I5 := hid IG'.out.wake; clear b5 o5 BG BW IG'; generalize gd.wake nw = g5 at *; go_wp2_with fail)
            | ((with_reducible refine (half_any _ _ _ _ BG.out).mono ?_); rintro e w5 ⟨rfl, b5, o5⟩; have B5 := hid b5; have L5 := hid (BW.out.trans (o5.below (Nat.le_refl _) BW.out.size)); have I5 := hid IG'.out.half; clear b5 o5 BG BW IG'; generalize gd.half nw = g5 at *; go_wp2_with fail)
            | ((with_reducible refine (whole_any _ _ _ _ BG.out).mono ?_); rintro e w5 ⟨rfl, b5, o5⟩; have B5 := hid b5; have L5 := hid (BW.out.trans (o5.below (Nat.le_refl _) BW.out.size)); have I5 := hid IG'.out.whole; clear b5 o5 BG BW IG'; generalize gd.whole nw = g5 at *; go_wp2_with fail)
            | (have B5 := BG; have L5 := BW; have I5 := IG'; clear BG BW IG'; generalize gd = g5 at *; generalize wr = w5 at *))
          by_cases hon : g5.on = true
          · have hk := tickB_iff.2 ⟨hw0, (by omega : nw ≤ 2147483647)⟩
            refine (left_yes _ _ _ _ B5.out I5.out.ok hon hk).mono ?_
            rintro e w6 ⟨rfl, l6⟩
            have B6 := hid (B5.out.below l6 B5.out.lt)
            have L6 := hid (L5.out.trans (l6.mono L5.out.size))
            clear l6 B5 L5 hk
            by_cases hc : g5.check nw = 0
            · have hl := Gd.left_last I5.out hon hw0 hc
              have hb := Gd.left_bound I5.out
              have HC := hid hc
              have HL1 := hid hl.1
              have HL2 := hid hl.2
              have HON := hid hon
              clear hc hl hon
              generalize hn : g5.left nw = n at *
              clear hn
              go_wp2_with fail
              refine (awake_any _ _ _ B6.out).mono ?_
              rintro e w' ⟨rfl, rfl⟩
              rw [HON.out]
              go_wp2_with fail
              refine (check_any _ _ _ _ B6.out I5.out.ok).mono ?_
              rintro e w7 ⟨rfl, l7⟩
              rw [HC.out]
              have B7 := hid (B6.out.below l7 B6.out.lt)
              have L7 := hid (L6.out.trans (l7.mono L6.out.size))
              clear l7 B6 L6
              go_wp2_with fail
              refine (check_any _ _ _ _ B7.out I5.out.ok).mono ?_
              rintro e w8 ⟨rfl, l8⟩
              rw [HL1.out]
              have B8 := hid (B7.out.below l8 B7.out.lt)
              have L8 := hid (L7.out.trans (l8.mono L7.out.size))
              clear l8 B7 L7
              go_wp2_with fail
              refine (check_any _ _ _ _ B8.out I5.out.ok).mono ?_
              rintro e w9 ⟨rfl, l9⟩
              have B9 := hid (B8.out.below l9 B8.out.lt)
              have L9 := hid (L8.out.trans (l9.mono L8.out.size))
              clear l9 B8 L8
              have hz := HL2.out
              clear HL1 HL2
              generalize g5.check (nw + n + 1) = c at *
              have e1 : (c == 0) = false := beq_eq_false_iff_ne.2 hz
              clear hz
              go_wp2_with fail
              go_roundg (gk - 1)
              case rel => exact ⟨i + 1, nw, g5, by omega, by go_num, by go_num, by omega, by omega, I5, B9, L9⟩
              case measure => omega
            · have HZ := hid (Gd.left_zero I5.out hon hw0 hc)
              have HON := hid hon
              rw [HZ.out]
              have hz := hc
              clear hc hon
              go_wp2_with fail
              refine (awake_any _ _ _ B6.out).mono ?_
              rintro e w' ⟨rfl, rfl⟩
              rw [HON.out]
              go_wp2_with fail
              refine (check_any _ _ _ _ B6.out I5.out.ok).mono ?_
              rintro e w7 ⟨rfl, l7⟩
              have B7 := hid (B6.out.below l7 B6.out.lt)
              have L7 := hid (L6.out.trans (l7.mono L6.out.size))
              clear l7 B6 L6
              generalize g5.check nw = c at *
              have e1 : (c != 0) = true := by rw [bne_iff_ne]; exact hz
              clear hz
              go_wp2_with fail
              go_roundg (gk - 1)
              case rel => exact ⟨i + 1, nw, g5, by omega, by go_num, by go_num, by omega, by omega, I5, B7, L7⟩
              case measure => omega
          · have hoff : g5.on = false := by simpa using hon
            clear hon
            refine (left_no _ _ _ _ B5.out (by rw [hoff]; rfl)).mono ?_
            rintro e w' ⟨rfl, rfl⟩
            have HOFF := hid hoff
            clear hoff
            go_wp2_with fail
            refine (awake_any _ _ _ B5.out).mono ?_
            rintro e w' ⟨rfl, rfl⟩
            rw [HOFF.out]
            go_wp2_with fail
            go_roundg (gk - 1)
            case rel => exact ⟨i + 1, nw, g5, by omega, by go_num, by go_num, by omega, by omega, I5, B5, L5⟩
            case measure => omega
      · have hd : decide ((i : Int) < 40) = false := by simp; omega
        go_wp2_with fail
        refine (live_any _).mono ?_
        rintro e w3 ⟨rfl, l3⟩
        have L3 := hid (BW.out.trans (l3.mono BW.out.size))
        clear l3
        go_wp2_with fail
        go_ret
        exact ⟨rfl, L3.out⟩
    · have hd : decide ((i : Int) < (len : Int)) = false := by simp; omega
      go_wp2_with fail
      refine (live_any _).mono ?_
      rintro e w3 ⟨rfl, l3⟩
      have L3 := hid (BW.out.trans (l3.mono BW.out.size))
      clear l3
      go_wp2_with fail
      go_ret
      exact ⟨rfl, L3.out⟩

/-- The deeds that came in. -/
theorem deeds_open {W : World} {base : Nat} {v : Value} (h2 : Rd Try.prog W 37 v.cells.toList) (o2 : Value.okWide Try.prog W .any base 37 v) :
    ∃ (A : Option Addr) (bl o len cap : Nat), v = .slice A len cap ∧ len ≤ maxLen ∧ (0 < len → A = some ⟨bl, o, none⟩ ∧ bl < W.heap.size) ∧
      (∀ i, i < len → W.cell? ⟨bl, o + i * 2, none⟩ = some (.int .i64 (intAt W ⟨bl, o + i * 2, none⟩)) ∧ W.cell? ⟨bl, o + i * 2 + 1, none⟩ = some (.int .u8 (intAt W ⟨bl, o + i * 2 + 1, none⟩))) ∧
      (∀ i, i < len → 0 ≤ intAt W ⟨bl, o + i * 2 + 1, none⟩ ∧ intAt W ⟨bl, o + i * 2 + 1, none⟩ ≤ 255) := by
  have hC : Try.prog.cellsOf 39 = 2 := by kernel_rfl
  obtain ⟨A, bl, o, len, cap, rfl, hl, hc, hb, hn, hA, hi⟩ := opn_row Try.underlying37 (by omega) h2 o2
  have key : ∀ i, i < len → (W.cell? ⟨bl, o + i * 2, none⟩ = some (.int .i64 (intAt W ⟨bl, o + i * 2, none⟩)) ∧ W.cell? ⟨bl, o + i * 2 + 1, none⟩ = some (.int .u8 (intAt W ⟨bl, o + i * 2 + 1, none⟩))) ∧ 0 ≤ intAt W ⟨bl, o + i * 2 + 1, none⟩ ∧ intAt W ⟨bl, o + i * 2 + 1, none⟩ ≤ 255 := by
    intro i hil
    obtain ⟨es, hes, hat, hrd⟩ := hi i hil
    rw [hC] at hes hat
    obtain ⟨n, hn, wn⟩ := hrd.fieldInt Try.underlying39 0 rfl Try.underlying3 (by kernel_rfl)
    obtain ⟨m, hm, wm⟩ := hrd.fieldInt Try.underlying39 1 rfl Try.underlying5 (by kernel_rfl)
    have h := (hat 0 (by omega)).trans hn
    have h' := (hat 1 (by omega)).trans hm
    rw [Nat.add_zero] at h
    have e : intAt W ⟨bl, o + i * 2, none⟩ = n := by simp [intAt, h]
    have e' : intAt W ⟨bl, o + i * 2 + 1, none⟩ = m := by simp [intAt, h']
    rw [e, e']
    exact ⟨⟨h, h'⟩, wf_u8 wm⟩
  exact ⟨A, bl, o, len, cap, rfl, by omega, hA, fun i h => (key i h).1, fun i h => (key i h).2⟩

theorem left_entry (v0 v1 v2 : Value) (W : World) {base : Nat} (h0 : Rd Try.prog W 5 v0.cells.toList) (o0 : Value.okWide Try.prog W .any base 5 v0)
    (h1 : Rd Try.prog W 5 v1.cells.toList) (o1 : Value.okWide Try.prog W .any base 5 v1)
    (h2 : Rd Try.prog W 37 v2.cells.toList) (o2 : Value.okWide Try.prog W .any base 37 v2) :
    Calls Try.prog 5 #[v0, v1, v2] W fun e w' => e = .returned (.bool true) ∧ Below W.heap.size W w' := by
  obtain ⟨x, rfl, wx⟩ := opn_int Try.underlying5 h0 o0
  obtain ⟨y, rfl, wy⟩ := opn_int Try.underlying5 h1 o1
  obtain ⟨A, bl, o, len, cap, rfl, hl, hA, hi, hg⟩ := deeds_open h2 o2
  have hx := wf_u8 wx
  have hy := wf_u8 wy
  exact left_law x y A bl o len cap (fun i => intAt W ⟨bl, o + i * 2, none⟩) (fun i => intAt W ⟨bl, o + i * 2 + 1, none⟩) W hx.1 hx.2 hy.1 hy.2 hl hA hi hg

end Go.Proofs.Yteijmjhafmlknaa
