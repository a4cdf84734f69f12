import Derived.Test.YteijmjhafmlknaaGRef
import Derived.Deep.RegionHeld3
import Derived.Deep.DeepCutAuto
import Derived.Deep.CutBlock
import Derived.IntWalk
set_option linter.unusedSimpArgs false
set_option linter.unusedVariables false
namespace Go.Proofs.Yteijmjhafmlknaa
open Go.RowKit

theorem Rf.facts {w : World} {b : Nat} {t g s f : Int} (h : Blk w b (Rf.cells ⟨t, g, s, f⟩) RT) :
    w.cell? ⟨b, 0, none⟩ = some (.int .i64 t) ∧ w.cell? ⟨b, 1, none⟩ = some (.int .i64 g) ∧ w.cell? ⟨b, 2, none⟩ = some (.int .i64 s) ∧ w.cell? ⟨b, 3, none⟩ = some (.int .i64 f) ∧
    w.frozen? ⟨b, 0, none⟩ = false ∧ w.frozen? ⟨b, 1, none⟩ = false ∧ w.frozen? ⟨b, 2, none⟩ = false ∧ w.frozen? ⟨b, 3, none⟩ = false :=
  ⟨h.cell 0 _ rfl, h.cell 1 _ rfl, h.cell 2 _ rfl, h.cell 3 _ rfl, h.free 0, h.free 1, h.free 2, h.free 3⟩

/-- The world in a round: the guard, the reference, and what was there ahead of the call. -/
structure Pl (B : Nat) (w0 : World) (b : Nat) (g : Gd) (R : Nat) (r : Rf) (w : World) : Prop where
  bg : Blk w b g.cells GT
  br : Blk w R r.cells RT
  below : Below B w0 w
  hb : B ≤ b
  hR : B ≤ R
  hne : b ≠ R

theorem Pl.later {B : Nat} {w0 : World} {b : Nat} {g : Gd} {R : Nat} {r : Rf} {w w' : World} (h : Pl B w0 b g R r w) (k : Below w.heap.size w w') : Pl B w0 b g R r w' :=
  ⟨h.bg.below k h.bg.lt, h.br.below k h.br.lt, h.below.trans (k.mono (by have := h.bg.lt; have := h.hb; omega)), h.hb, h.hR, h.hne⟩
theorem Pl.guard {B : Nat} {w0 : World} {b : Nat} {g g' : Gd} {R : Nat} {r : Rf} {w w' : World} (h : Pl B w0 b g R r w) (hg : Blk w' b g'.cells GT) (k : Only b w w') : Pl B w0 b g' R r w' :=
  ⟨hg, h.br.kept k (Ne.symm h.hne), h.below.trans (k.below h.hb (by have := h.bg.lt; have := h.hb; omega)), h.hb, h.hR, h.hne⟩
theorem Pl.put {B : Nat} {w0 : World} {b : Nat} {g : Gd} {R : Nat} {r : Rf} {w : World} (h : Pl B w0 b g R r w) (t gp s f : Int) :
    Pl B w0 b g R ⟨t, gp, s, f⟩ ((((w.setCell ⟨R, 0, none⟩ (.int .i64 t)).setCell ⟨R, 1, none⟩ (.int .i64 gp)).setCell ⟨R, 2, none⟩ (.int .i64 s)).setCell ⟨R, 3, none⟩ (.int .i64 f)) :=
  ⟨(((h.bg.other ⟨R, 0, none⟩ _ h.hne).other ⟨R, 1, none⟩ _ h.hne).other ⟨R, 2, none⟩ _ h.hne).other ⟨R, 3, none⟩ _ h.hne,
   (((h.br.set 0 _).set 1 _).set 2 _).set 3 _,
   (((h.below.setCell h.hR _).setCell h.hR _).setCell h.hR _).setCell h.hR _, h.hb, h.hR, h.hne⟩

theorem Pl.put1 {B : Nat} {w0 : World} {b : Nat} {g : Gd} {R : Nat} {t gp s f0 : Int} {w : World} (h : Pl B w0 b g R ⟨t, gp, s, f0⟩ w) (f : Int) :
    Pl B w0 b g R ⟨t, gp, s, f⟩ (w.setCell ⟨R, 3, none⟩ (.int .i64 f)) :=
  ⟨h.bg.other ⟨R, 3, none⟩ _ h.hne, h.br.set 3 _, h.below.setCell h.hR _, h.hb, h.hR, h.hne⟩
theorem pl_S {B : Nat} {w0 : World} {b : Nat} {g : Gd} {R : Nat} {t gp s f : Int} {w : World} (h : Hid (Pl B w0 b g R ⟨t, gp, s, f⟩ w)) :
    Hid (Pl B w0 b g R ⟨t, gp, s, f⟩ w) ∧ w.cell? ⟨R, 0, none⟩ = some (.int .i64 t) ∧ w.cell? ⟨R, 1, none⟩ = some (.int .i64 gp) ∧ w.cell? ⟨R, 2, none⟩ = some (.int .i64 s) ∧ w.cell? ⟨R, 3, none⟩ = some (.int .i64 f) := by
  obtain ⟨c0, c1, c2, c3, _⟩ := Rf.facts h.out.br
  exact ⟨h, c0, c1, c2, c3⟩
theorem hid_drew {B : Nat} {w0 : World} {b : Nat} {g : Gd} {R : Nat} {r : Rf} {w : World} (h : Hid (Pl B w0 b g R r w)) : Hid (Pl B w0 b g R r w.drew) :=
  ⟨h.out.bg.drew, h.out.br.drew, h.out.below.drew, h.out.hb, h.out.hR, h.out.hne⟩
theorem pl_awake {X : Prop} {B : Nat} {w0 : World} {b : Nat} {g : Gd} {R : Nat} {r : Rf} {w : World} {on : Bool} (h : Hid (Pl B w0 b g R r w) ∧ X) (hon : Hid (g.on = on)) :
    Calls Try.prog 15 #[.pointer (some ⟨b, 0, none⟩)] w fun e w' => e = .returned (.bool on) ∧ Hid (Pl B w0 b g R r w') := by
  refine (awake_any b g w h.1.out.bg).mono ?_
  rintro e w' ⟨rfl, rfl⟩
  exact ⟨by rw [hon.out], h.1⟩
theorem pl_check {X : Prop} {B : Nat} {w0 : World} {b : Nat} {g : Gd} {R : Nat} {r : Rf} {w : World} {n c now : Int} (h : Hid (Pl B w0 b g R r w) ∧ X) (hr : Hid (Rel g r now)) (hc : Hid (g.check n = c)) :
    Calls Try.prog 10 #[.pointer (some ⟨b, 0, none⟩), .int .i64 n] w fun e w' => e = .returned (.int .i64 c) ∧ Hid (Pl B w0 b g R r w') := by
  refine (check_any b g n w h.1.out.bg hr.out.ok).mono ?_
  rintro e w' ⟨rfl, k⟩
  exact ⟨by rw [hc.out], h.1.out.later k⟩
theorem pl_rcheck {X : Prop} {B : Nat} {w0 : World} {b : Nat} {g : Gd} {R : Nat} {t gp s f : Int} {w : World} {n c now : Int} (h : Hid (Pl B w0 b g R ⟨t, gp, s, f⟩ w) ∧ X) (hr : Hid (Rel g ⟨t, gp, s, f⟩ now)) (hc : Hid (g.check n = c)) (h0 : 0 ≤ n) (h1 : n ≤ 2147483647) :
    Calls Try.prog 23 #[.agg #[.int .i64 t, .int .i64 gp, .int .i64 s, .int .i64 f], .int .i64 n] w fun e w' => e = .returned (.int .i64 c) ∧ Hid (Pl B w0 b g R ⟨t, gp, s, f⟩ w') := by
  have ok := hr.out.ok
  have ht := hr.out.time
  have hg := hr.out.gap
  simp only at ht hg
  have := ok.l0
  have := ok.l1
  have := ok.m0
  have := ok.m1
  refine (rcheck_any t gp s f n w (by omega) (by omega) (by omega) (by omega) h0 h1).mono ?_
  rintro e w' ⟨rfl, k⟩
  exact ⟨by rw [← hr.out.check h0 h1, hc.out], h.1.out.later k⟩

set_option maxRecDepth 100000 in
set_option maxHeartbeats 8000000 in
theorem plays_yes (x y : Int) (A : Option Addr) (bl o len cap : Nat) (f g : Nat → Int) (z : Int) (w : World) (hx0 : 1 ≤ x) (hx1 : x ≤ 65535) (hy0 : 1 ≤ y) (hy1 : y ≤ 65535) (hz0 : 0 ≤ z) (hz1 : z ≤ 65535) (hlen : len ≤ maxLen) (hA : 0 < len → A = some ⟨bl, o, none⟩ ∧ bl < w.heap.size)
    (hl : ∀ i, i < len → w.cell? ⟨bl, o + i * 2, none⟩ = some (.int .i64 (f i)) ∧ w.cell? ⟨bl, o + i * 2 + 1, none⟩ = some (.int .u8 (g i))) (hg : ∀ i, i < len → 0 ≤ g i ∧ g i ≤ 255) :
    Calls Try.prog 6 #[.int .i64 x, .int .i64 y, .slice A len cap, .int .u16 z] w fun e w' => e = .returned (.bool true) ∧ Below w.heap.size w w' := by
  unfold maxLen at hlen
  have HL := hid hl
  have HG := hid hg
  have HA := hid hA
  clear hl hg hA
  have ma : mayB x = true := by simp [mayB]; omega
  have mb : mayB y = true := by simp [mayB]; omega
  have R0 := hid (Rel.mk0 ma mb)
  have MA := hid ma
  have MB := hid mb
  clear ma mb
  have d1 : decide (x < 1) = false := by simp; omega
  have d2 : decide (65535 < x) = false := by simp; omega
  have d3 : decide (y < 1) = false := by simp; omega
  have d4 : decide (65535 < y) = false := by simp; omega
  go_enter Try.func6, Try.ntmps6
  go_wp2_with fail
  refine (new_yes _ _ _ MA.out MB.out).mono ?_
  rintro e w1 ⟨rfl, b1, l1⟩
  have B1 := hid b1
  have L1 := hid l1
  clear b1 l1 MA MB
  go_wp2_with fail
  refine (rnew_any _ _ _).mono ?_
  rintro e w2 ⟨rfl, l2⟩
  have P2 : Hid (Pl w.heap.size w w.heap.size ⟨false, 0, x, false, 0, y⟩ w2.heap.size ⟨x, y, -1, -1⟩ (w2.alloc (.cells (Rf.cells ⟨x, y, -1, -1⟩) RT))) :=
    hid ⟨(B1.out.below l2 B1.out.lt).alloc _, Blk.new _ _ _, (L1.out.trans (l2.mono L1.out.size)).alloc (Nat.le_trans L1.out.size l2.size) _, Nat.le_refl _, Nat.le_trans L1.out.size l2.size, by have := B1.out.lt; have := l2.size; omega⟩
  clear l2 B1 L1
  unfold Rf.cells at *
  simp only at P2
  go_wp2_with fail
  generalize w2.heap.size = R at *
  go_loopg [9, 14, 15] 60 (fun k v9 v14 v15 wr => ∃ (i b : Nat) (now : Int) (gd : Gd) (r : Rf), i + k = 60 ∧ v15 = .int .i64 i ∧ v14 = .int .i64 now ∧ v9 = .pointer (some ⟨b, 0, none⟩) ∧ now ≤ 255 * i ∧ Hid (Rel gd r now) ∧ Hid (Pl w.heap.size w b gd R r wr))
  case atStart => exact ⟨0, w.heap.size, 0, ⟨false, 0, x, false, 0, y⟩, ⟨x, y, -1, -1⟩, by omega, rfl, rfl, rfl, by omega, R0, P2⟩
  case round =>
    clear P2 R0
    obtain ⟨i, b, now, gd, r, hik, rfl, rfl, rfl, hn1, RL, PL⟩ := hrel
    have hn0 := RL.out.n0
    by_cases hlt : i < len
    · by_cases h60 : i < 60
      · obtain ⟨rfl, hbl⟩ := HA.out (by omega)
        have hc0 : wr.cell? ⟨bl, o + i * 2, none⟩ = some (.int .i64 (f i)) := (PL.out.below.cell (p := ⟨bl, o + i * 2, none⟩) hbl).trans (HL.out i hlt).1
        have hc1 : wr.cell? ⟨bl, o + i * 2 + 1, none⟩ = some (.int .u8 (g i)) := (PL.out.below.cell (p := ⟨bl, o + i * 2 + 1, none⟩) hbl).trans (HL.out i hlt).2
        have hg1 := HG.out i hlt
        have hd : decide ((i : Int) < 60) = true := by simp; omega
        generalize f i = d at *
        generalize g i = by_ at *
        have hw0 : 0 ≤ now + by_ := by omega
        have hw1 : now + by_ ≤ 255 * (i + 1) := by omega
        have RL' := hid (RL.out.later (b := now + by_) (by omega) (by omega))
        clear RL
        obtain ⟨rt, rg, rs, rf⟩ := r
        obtain ⟨c0, c1, c2, c3, f0, f1, f2, f3⟩ := Rf.facts PL.out.br
        go_upto_block 2 with fail
        generalize now + by_ = nw at *
        go_cut [9] (fun v9 wx => ∃ (b5 : Nat) (g5 : Gd) (r5 : Rf), v9 = .pointer (some ⟨b5, 0, none⟩) ∧ Hid (Rel g5 r5 nw) ∧ Hid (Pl w.heap.size w b5 g5 R r5 wx))
        case first =>
          by_cases h0 : d = 0
          · subst h0
            go_wp2_with fail
            refine (rwake_any ⟨rt, rg, rs, rf⟩ _ _).mono ?_
            rintro e w5 ⟨rfl, l5⟩
            have P5 := hid (PL.out.later l5)
            clear l5 PL c0 c1 c2 c3 f0 f1 f2 f3
            have R5 := hid RL'.out.wake
            have hwb := RL'.out.wakeB
            simp only at hwb
            generalize hr5 : Rf.wake ⟨rt, rg, rs, rf⟩ nw = r5 at *
            generalize decide (rs < 0) = ok at *
            have HWB := hid hwb
            clear hwb hr5
            obtain ⟨rt5, rg5, rs5, rf5⟩ := r5
            obtain ⟨c0, c1, c2, c3, f0, f1, f2, f3⟩ := Rf.facts P5.out.br
            simp only [Rf.cells]
            go_wp2_with fail
            have P6 := hid (P5.out.put rt5 rg5 rs5 rf5)
            clear P5
            refine (wake_any _ _ _ _ P6.out.bg).mono ?_
            rintro e w7 ⟨rfl, b7, o7⟩
            rw [HWB.out]
            have P7 := hid (P6.out.guard b7 o7)
            clear P6 b7 o7 HWB c0 c1 c2 c3 f0 f1 f2 f3
            generalize gd.wake nw = g5 at *
            cases ok
            all_goals
              go_wp2_with fail
              go_meet
              exact ⟨b, g5, ⟨rt5, rg5, rs5, rf5⟩, rfl, R5, P7⟩
          · have e0 : (d == 0) = false := beq_eq_false_iff_ne.2 h0
            have H0 := hid h0
            clear h0
            by_cases h1 : d = 1
            · subst h1
              go_wp2_with fail
              refine (sleep_any _ _ _ PL.out.bg).mono ?_
              rintro e w5 ⟨rfl, b5, o5⟩
              have P5 := hid (PL.out.guard b5 o5)
              have R5 := hid RL'.out.sleep
              clear b5 o5 PL c0 c1 c2 c3 f0 f1 f2 f3
              obtain ⟨c0, c1, c2, c3, f0, f1, f2, f3⟩ := Rf.facts P5.out.br
              go_wp2_with fail
              refine (rsleep_any _ _ _ _ _).mono ?_
              rintro e w6 ⟨rfl, l6⟩
              have P6 := hid (P5.out.later l6)
              clear l6 P5 c0 c1 c2 c3 f0 f1 f2 f3
              obtain ⟨c0, c1, c2, c3, f0, f1, f2, f3⟩ := Rf.facts P6.out.br
              simp only [Rf.cells]
              go_wp2_with fail
              have P7 := hid (P6.out.put rt rg (-1) (-1))
              go_meet
              exact ⟨b, _, ⟨rt, rg, -1, -1⟩, rfl, R5, P7⟩
            · have e1 : (d == 1) = false := beq_eq_false_iff_ne.2 h1
              have H1 := hid h1
              clear h1
              by_cases h2 : d = 2
              · subst h2
                go_wp2_with fail
                refine (half_any _ _ _ _ PL.out.bg).mono ?_
                rintro e w5 ⟨rfl, b5, o5⟩
                have P5 := hid (PL.out.guard b5 o5)
                have R5 := hid RL'.out.half
                clear b5 o5 PL c0 c1 c2 c3 f0 f1 f2 f3
                obtain ⟨c0, c1, c2, c3, f0, f1, f2, f3⟩ := Rf.facts P5.out.br
                go_wp2_with fail
                refine (rhalf_any ⟨rt, rg, rs, rf⟩ _ _).mono ?_
                rintro e w6 ⟨rfl, l6⟩
                have P6 := hid (P5.out.later l6)
                clear l6 P5 c0 c1 c2 c3 f0 f1 f2 f3
                generalize Rf.half ⟨rt, rg, rs, rf⟩ nw = r5 at *
                obtain ⟨rt5, rg5, rs5, rf5⟩ := r5
                obtain ⟨c0, c1, c2, c3, f0, f1, f2, f3⟩ := Rf.facts P6.out.br
                simp only [Rf.cells]
                go_wp2_with fail
                have P7 := hid (P6.out.put rt5 rg5 rs5 rf5)
                go_meet
                exact ⟨b, _, ⟨rt5, rg5, rs5, rf5⟩, rfl, R5, P7⟩
              · have e2 : (d == 2) = false := beq_eq_false_iff_ne.2 h2
                have H2 := hid h2
                clear h2
                by_cases h3 : d = 3
                · subst h3
                  go_wp2_with fail
                  refine (whole_any _ _ _ _ PL.out.bg).mono ?_
                  rintro e w5 ⟨rfl, b5, o5⟩
                  have P5 := hid (PL.out.guard b5 o5)
                  have R5 := hid RL'.out.whole
                  clear b5 o5 PL c0 c1 c2 c3 f0 f1 f2 f3
                  obtain ⟨c0, c1, c2, c3, f0, f1, f2, f3⟩ := Rf.facts P5.out.br
                  go_wp2_with fail
                  refine (rwhole_any ⟨rt, rg, rs, rf⟩ _ _).mono ?_
                  rintro e w6 ⟨rfl, l6⟩
                  have P6 := hid (P5.out.later l6)
                  clear l6 P5 c0 c1 c2 c3 f0 f1 f2 f3
                  generalize Rf.whole ⟨rt, rg, rs, rf⟩ nw = r5 at *
                  obtain ⟨rt5, rg5, rs5, rf5⟩ := r5
                  obtain ⟨c0, c1, c2, c3, f0, f1, f2, f3⟩ := Rf.facts P6.out.br
                  simp only [Rf.cells]
                  go_wp2_with fail
                  have P7 := hid (P6.out.put rt5 rg5 rs5 rf5)
                  go_meet
                  exact ⟨b, _, ⟨rt5, rg5, rs5, rf5⟩, rfl, R5, P7⟩
                · have e3 : (d == 3) = false := beq_eq_false_iff_ne.2 h3
                  have H3 := hid h3
                  clear h3
                  by_cases h4 : d = 4
                  · subst h4
                    go_wp2_with fail
                    refine (drop_any _ _ _ PL.out.bg).mono ?_
                    rintro e w5 ⟨rfl, b5, o5⟩
                    have P5 := hid (PL.out.guard b5 o5)
                    have R5 := hid RL'.out.drop
                    clear b5 o5 PL c0 c1 c2 c3 f0 f1 f2 f3
                    obtain ⟨c0, c1, c2, c3, f0, f1, f2, f3⟩ := Rf.facts P5.out.br
                    go_wp2_with fail
                    have P7 := hid (P5.out.put1 (-1))
                    go_meet
                    exact ⟨b, _, ⟨rt, rg, rs, -1⟩, rfl, R5, P7⟩
                  · have e4 : (d == 4) = false := beq_eq_false_iff_ne.2 h4
                    have H4 := hid h4
                    clear h4
                    by_cases h5 : d = 5
                    · subst h5
                      go_wp2_with fail
                      refine (fork_any _ _ _ PL.out.bg).mono ?_
                      rintro e w5 ⟨rfl, b5, l5⟩
                      have hwsz := PL.out.bg.lt
                      have P5 := hid (PL.out.later l5)
                      have Q5 := hid (⟨b5, P5.out.br, P5.out.below, by have := PL.out.hb; omega, P5.out.hR, by have := PL.out.br.lt; omega⟩ : Pl w.heap.size w wr.heap.size gd R ⟨rt, rg, rs, rf⟩ w5)
                      have hnb : wr.heap.size ≠ b := by omega
                      clear b5 l5 PL c0 c1 c2 c3 f0 f1 f2 f3 hwsz
                      generalize wr.heap.size = nb at *
                      go_wp2_with fail
                      refine (whole_any _ _ _ _ P5.out.bg).mono ?_
                      rintro e w6 ⟨rfl, b6, o6⟩
                      have P6 := hid (P5.out.guard b6 o6)
                      have Q6 := hid (⟨Q5.out.bg.kept o6 hnb, P6.out.br, P6.out.below, Q5.out.hb, Q5.out.hR, Q5.out.hne⟩ : Pl w.heap.size w nb gd R ⟨rt, rg, rs, rf⟩ w6)
                      clear b6 o6 P5 Q5
                      go_wp2_with fail
                      refine (sleep_any _ _ _ P6.out.bg).mono ?_
                      rintro e w7 ⟨rfl, b7, o7⟩
                      have P7 := hid (P6.out.guard b7 o7)
                      have Q7 := hid (⟨Q6.out.bg.kept o7 hnb, P7.out.br, P7.out.below, Q6.out.hb, Q6.out.hR, Q6.out.hne⟩ : Pl w.heap.size w nb gd R ⟨rt, rg, rs, rf⟩ w7)
                      clear b7 o7 P6 Q6
                      go_wp2_with fail
                      go_meet
                      exact ⟨nb, gd, ⟨rt, rg, rs, rf⟩, rfl, RL', Q7⟩
                    · have e5 : (d == 5) = false := beq_eq_false_iff_ne.2 h5
                      clear h5
                      go_wp2_with fail
                      go_meet
                      exact ⟨b, gd, ⟨rt, rg, rs, rf⟩, rfl, RL', PL⟩
        case rest =>
          clear PL c0 c1 c2 c3 f0 f1 f2 f3 RL'
          obtain ⟨b5, g5, r5, rfl, R5, P7⟩ := hcut
          obtain ⟨rt5, rg5, rs5, rf5⟩ := r5
          obtain ⟨c0, c1, c2, c3, f0, f1, f2, f3⟩ := Rf.facts P7.out.br
          clear f0 f1 f2 f3
          have hon := R5.out.on
          have hk1 : 0 ≤ nw + z := by omega
          have hk2 : nw + z ≤ 2147483647 := by omega
          have hk3 : nw ≤ 2147483647 := by omega
          simp only at hon
          generalize hz1 : g5.check nw = e1 at *
          generalize hz2 : g5.check (nw + z) = e2 at *
          have HZ1 := hid hz1
          have HZ2 := hid hz2
          clear hz1 hz2
          generalize hdd : decide (0 ≤ rs5) = on at *
          have HON := hid hon
          clear hon
          have hconv : IntKind.i64.wrap z = z := IntWalk.i64_in _ (by omega)
          have hsum : IntKind.i64.wrap (nw + z) = nw + z := IntWalk.i64_in _ (by omega)
          cases on
          all_goals
            go_wp2_with fail
            go_region_held3 (fun w' => Hid (Pl w.heap.size w b5 g5 R ⟨rt5, rg5, rs5, rf5⟩ w') ∧ w'.cell? ⟨R, 0, none⟩ = some (.int .i64 rt5) ∧ w'.cell? ⟨R, 1, none⟩ = some (.int .i64 rg5) ∧ w'.cell? ⟨R, 2, none⟩ = some (.int .i64 rs5) ∧ w'.cell? ⟨R, 3, none⟩ = some (.int .i64 rf5)) (first | exact pl_S (by assumption) | exact pl_S (hid_drew (by assumption)))
              (first | (go_at_call 15; (with_reducible refine (pl_awake (by assumption) HON).mono ?_); rintro e w' ⟨rfl, hp⟩) | (go_at_call 10; (with_reducible refine (pl_check (by assumption) R5 HZ1).mono ?_); rintro e w' ⟨rfl, hp⟩) | (go_at_call 10; (with_reducible refine (pl_check (by assumption) R5 HZ2).mono ?_); rintro e w' ⟨rfl, hp⟩) | (go_at_call 23; (with_reducible refine (pl_rcheck (by assumption) R5 HZ1 hw0 hk3).mono ?_); rintro e w' ⟨rfl, hp⟩) | (go_at_call 23; (with_reducible refine (pl_rcheck (by assumption) R5 HZ2 hk1 hk2).mono ?_); rintro e w' ⟨rfl, hp⟩))
            all_goals
              clear hsum hconv
              go_wp2_with fail
              go_roundg (gk - 1)
              case rel => exact ⟨i + 1, b5, nw, g5, ⟨rt5, rg5, rs5, rf5⟩, by omega, by go_num, rfl, rfl, by omega, R5, by assumption⟩
              case measure => omega
      · have hd : decide ((i : Int) < 60) = false := by simp; omega
        go_wp2_with fail
        refine (live_any _).mono ?_
        rintro e w3 ⟨rfl, l3⟩
        have L3 := hid (PL.out.below.trans (l3.mono (by have := PL.out.bg.lt; have := PL.out.hb; omega)))
        clear l3
        go_wp2_with fail
        go_ret
        exact ⟨rfl, L3.out⟩
    · have hd : decide ((i : Int) < (len : Int)) = false := by simp; omega
      go_wp2_with fail
      refine (live_any _).mono ?_
      rintro e w3 ⟨rfl, l3⟩
      have L3 := hid (PL.out.below.trans (l3.mono (by have := PL.out.bg.lt; have := PL.out.hb; omega)))
      clear l3
      go_wp2_with fail
      go_ret
      exact ⟨rfl, L3.out⟩

set_option maxRecDepth 100000 in
set_option maxHeartbeats 4000000 in
theorem plays_no (x y : Int) (A : Option Addr) (len cap : Nat) (z : Int) (w : World) (h : (mayB x && mayB y) = false) :
    Calls Try.prog 6 #[.int .i64 x, .int .i64 y, .slice A len cap, .int .u16 z] w fun e w' => e = .returned (.bool true) ∧ Below w.heap.size w w' := by
  have HM := hid h
  have hc : (decide (x < 1) = true) ∨ (decide (x < 1) = false ∧ decide (65535 < x) = true) ∨ (decide (x < 1) = false ∧ decide (65535 < x) = false ∧ decide (y < 1) = true) ∨ (decide (x < 1) = false ∧ decide (65535 < x) = false ∧ decide (y < 1) = false ∧ decide (65535 < y) = true) := by
    simp [mayB] at h
    by_cases h1 : x < 1
    · exact .inl (by simpa using h1)
    · by_cases h2 : 65535 < x
      · exact .inr (.inl ⟨by simp; omega, by simpa using h2⟩)
      · by_cases h3 : y < 1
        · exact .inr (.inr (.inl ⟨by simp; omega, by simp; omega, by simpa using h3⟩))
        · exact .inr (.inr (.inr ⟨by simp; omega, by simp; omega, by simp; omega, by simp; omega⟩))
  clear h
  rcases hc with h1 | ⟨h1, h2⟩ | ⟨h1, h2, h3⟩ | ⟨h1, h2, h3, h4⟩
  all_goals
    go_enter Try.func6, Try.ntmps6
    go_wp2_with fail
    refine (new_no _ _ _ HM.out).mono ?_
    rintro e w' ⟨rfl, rfl⟩
    go_wp2_with (first
      | (go_at_call 16; refine (sleep_nil _).mono ?_; rintro e w' ⟨rfl, rfl⟩)
      | (go_at_call 9; refine (half_nil _ _).mono ?_; rintro e w' ⟨rfl, rfl⟩)
      | (go_at_call 11; refine (whole_nil _ _).mono ?_; rintro e w' ⟨rfl, rfl⟩)
      | (go_at_call 17; refine (drop_nil _).mono ?_; rintro e w' ⟨rfl, rfl⟩)
      | (go_at_call 14; refine (left_nil _ _).mono ?_; rintro e w' ⟨rfl, rfl⟩)
      | (go_at_call 8; refine (wake_nil _ _).mono ?_; rintro e w' ⟨rfl, rfl⟩)
      | (go_at_call 15; refine (awake_nil _).mono ?_; rintro e w' ⟨rfl, rfl⟩)
      | (go_at_call 10; refine (check_nil _ _).mono ?_; rintro e w' ⟨rfl, rfl⟩)
      | (go_at_call 13; refine (fork_nil _).mono ?_; rintro e w' ⟨rfl, rfl⟩)
      | (go_at_call 12; refine (live_any _).mono ?_; rintro e w3 ⟨rfl, l3⟩; have L3 := hid l3; clear l3))
    go_ret
    exact ⟨rfl, L3.out⟩

theorem plays_entry (v0 v1 v2 v3 : Value) (W : World) {base : Nat} (h0 : Rd Try.prog W 3 v0.cells.toList) (o0 : Value.okWide Try.prog W .any base 3 v0)
    (h1 : Rd Try.prog W 3 v1.cells.toList) (o1 : Value.okWide Try.prog W .any base 3 v1)
    (h2 : Rd Try.prog W 37 v2.cells.toList) (o2 : Value.okWide Try.prog W .any base 37 v2)
    (h3 : Rd Try.prog W 34 v3.cells.toList) (o3 : Value.okWide Try.prog W .any base 34 v3) :
    Calls Try.prog 6 #[v0, v1, v2, v3] W fun e w' => e = .returned (.bool true) ∧ Below W.heap.size W w' := by
  obtain ⟨x, rfl, wx⟩ := opn_int Try.underlying3 h0 o0
  obtain ⟨y, rfl, wy⟩ := opn_int Try.underlying3 h1 o1
  obtain ⟨A, bl, o, len, cap, rfl, hl, hA, hi, hg⟩ := deeds_open h2 o2
  obtain ⟨z, rfl, wz⟩ := opn_int Try.underlying34 h3 o3
  have hz := wf_u16 wz
  cases hm : (mayB x && mayB y) with
  | true =>
    simp [mayB] at hm
    exact plays_yes x y A bl o len cap (fun i => intAt W ⟨bl, o + i * 2, none⟩) (fun i => intAt W ⟨bl, o + i * 2 + 1, none⟩) z W (by omega) (by omega) (by omega) (by omega) hz.1 hz.2 hl hA hi hg
  | false => exact plays_no x y A len cap z W hm

end Go.Proofs.Yteijmjhafmlknaa
