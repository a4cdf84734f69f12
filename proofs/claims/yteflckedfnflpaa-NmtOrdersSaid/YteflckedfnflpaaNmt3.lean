/- Package nmt: the law NmtTogether. -/
import Derived.Test.YteflckedfnflpaaNmt2
set_option linter.unusedSimpArgs false
set_option linter.unusedVariables false
set_option linter.unnecessarySimpa false
namespace Go.Proofs.Yteflckedfnflpaa
open Go.RowKit Go.Proofs.YteflckedfnflpaaW.PrintWords Go.ChangeShapes Go.WideShapes Go.ChangeAt
attribute [local go_sem] max2_max min2_min max_of_two min_of_two

theorem obeyV_zero (n n' m v : Int) : obeyV n m v 0 = obeyV n' m v 0 := by simp [obeyV]
def verbC (v : Int) : List Value := [.int .i64 v]

structure Two (w0 : World) (b1 b2 ab : Nat) (na nb v m1 m2 : Int) (w : World) : Prop where
  k1 : Blk w b1 #[.int .i64 na, .int .i64 m1] MT
  k2 : Blk w b2 #[.int .i64 nb, .int .i64 m2] MT
  ka : Blk w ab #[.int .i64 v, .int .i64 0] 32
  e : Ext w0 w
  n12 : b1 ≠ b2
  n1a : b1 ≠ ab
  n2a : b2 ≠ ab
  h1 : w0.heap.size ≤ b1
  h2 : w0.heap.size ≤ b2
def TwoC (w0 : World) (b1 b2 ab : Nat) (na nb v m1 m2 : Int) (w : World) : Prop :=
  Hid (Two w0 b1 b2 ab na nb v m1 m2 w) ∧ w.cell? ⟨ab, 0, none⟩ = some (.int .i64 v) ∧ w.cell? ⟨ab, 1, none⟩ = some (.int .i64 0)
theorem Two.c {w0 : World} {b1 b2 ab : Nat} {na nb v m1 m2 : Int} {w : World} (h : Two w0 b1 b2 ab na nb v m1 m2 w) : TwoC w0 b1 b2 ab na nb v m1 m2 w := by
  have := h.ka
  obtain ⟨pc0, pc1, pf0, pf1⟩ := Blk.cells2 this
  exact ⟨hid h, pc0, pc1⟩
theorem Two.ext {w0 : World} {b1 b2 ab : Nat} {na nb v m1 m2 : Int} {w w' : World} (h : Two w0 b1 b2 ab na nb v m1 m2 w) (k : Ext w w') : Two w0 b1 b2 ab na nb v m1 m2 w' :=
  ⟨k.blk h.k1, k.blk h.k2, k.blk h.ka, h.e.trans k, h.n12, h.n1a, h.n2a, h.h1, h.h2⟩
theorem two_obey1 {w0 : World} {b1 b2 ab : Nat} {na nb v m1 m2 nx : Int} {q : Bool} {w : World} (hx : Is (obeyV na m1 v 0) nx) (hq : Is (nx != m1) q) (h : Hid (Two w0 b1 b2 ab na nb v m1 m2 w)) :
    Calls Try.prog 11 #[.pointer (some ⟨b1, 0, none⟩), .agg #[.int .i64 v, .int .i64 0]] w fun e w' => e = .returned (.bool q) ∧ TwoC w0 b1 b2 ab na nb v nx m2 w' := by
  have H := h.out
  with_reducible refine (obey_c _ _ _ v 0 _ H.k1).mono ?_
  rintro e w' ⟨rfl, k, o⟩
  rw [hx.eq] at k ⊢
  rw [hq.eq]
  exact ⟨rfl, Two.c ⟨k, H.k2.kept o H.n12.symm, H.ka.kept o H.n1a.symm, Ext.only H.e o H.h1, H.n12, H.n1a, H.n2a, H.h1, H.h2⟩⟩
theorem two_obey2 {w0 : World} {b1 b2 ab : Nat} {na nb v m1 m2 nx : Int} {q : Bool} {w : World} (hx : Is (obeyV na m2 v 0) nx) (hq : Is (nx != m2) q) (h : Hid (Two w0 b1 b2 ab na nb v m1 m2 w)) :
    Calls Try.prog 11 #[.pointer (some ⟨b2, 0, none⟩), .agg #[.int .i64 v, .int .i64 0]] w fun e w' => e = .returned (.bool q) ∧ TwoC w0 b1 b2 ab na nb v m1 nx w' := by
  have H := h.out
  with_reducible refine (obey_c _ _ _ v 0 _ H.k2).mono ?_
  rintro e w' ⟨rfl, k, o⟩
  rw [obeyV_zero nb na, hx.eq] at k ⊢
  rw [hq.eq]
  exact ⟨rfl, Two.c ⟨H.k1.kept o H.n12, k, H.ka.kept o H.n2a.symm, Ext.only H.e o H.h2, H.n12, H.n1a, H.n2a, H.h1, H.h2⟩⟩
theorem two_mode1 {w0 : World} {b1 b2 ab : Nat} {na nb v m1 m2 : Int} {w : World} (h : Hid (Two w0 b1 b2 ab na nb v m1 m2 w)) :
    Calls Try.prog 12 #[.pointer (some ⟨b1, 0, none⟩)] w fun e w' => e = .returned (.int .i64 m1) ∧ TwoC w0 b1 b2 ab na nb v m1 m2 w' := by
  with_reducible refine (mode_c _ _ _ _ h.out.k1).mono ?_
  rintro e w' ⟨rfl, k⟩
  exact ⟨rfl, (h.out.ext k).c⟩
theorem two_mode2 {w0 : World} {b1 b2 ab : Nat} {na nb v m1 m2 : Int} {w : World} (h : Hid (Two w0 b1 b2 ab na nb v m1 m2 w)) :
    Calls Try.prog 12 #[.pointer (some ⟨b2, 0, none⟩)] w fun e w' => e = .returned (.int .i64 m2) ∧ TwoC w0 b1 b2 ab na nb v m1 m2 w' := by
  with_reducible refine (mode_c _ _ _ _ h.out.k2).mono ?_
  rintro e w' ⟨rfl, k⟩
  exact ⟨rfl, (h.out.ext k).c⟩

theorem two_boot1 {w0 : World} {b1 b2 ab : Nat} {na nb v m2 : Int} {w : World} (h : Hid (Two w0 b1 b2 ab na nb v 0 m2 w)) :
    Calls Try.prog 10 #[.pointer (some ⟨b1, 0, none⟩)] w fun e w' => e = .returned (.bool true) ∧ TwoC w0 b1 b2 ab na nb v 127 m2 w' := by
  have H := h.out
  with_reducible refine (boot_c _ _ _ _ H.k1).mono ?_
  rintro e w' ⟨rfl, k, o⟩
  rw [if_pos rfl] at k
  exact ⟨rfl, Two.c ⟨k, H.k2.kept o H.n12.symm, H.ka.kept o H.n1a.symm, Ext.only H.e o H.h1, H.n12, H.n1a, H.n2a, H.h1, H.h2⟩⟩
theorem two_boot2 {w0 : World} {b1 b2 ab : Nat} {na nb v m1 : Int} {w : World} (h : Hid (Two w0 b1 b2 ab na nb v m1 0 w)) :
    Calls Try.prog 10 #[.pointer (some ⟨b2, 0, none⟩)] w fun e w' => e = .returned (.bool true) ∧ TwoC w0 b1 b2 ab na nb v m1 127 w' := by
  have H := h.out
  with_reducible refine (boot_c _ _ _ _ H.k2).mono ?_
  rintro e w' ⟨rfl, k, o⟩
  rw [if_pos rfl] at k
  exact ⟨rfl, Two.c ⟨H.k1.kept o H.n12, k, H.ka.kept o H.n2a.symm, Ext.only H.e o H.h2, H.n12, H.n1a, H.n2a, H.h1, H.h2⟩⟩
theorem two_end {w0 : World} {b1 b2 ab : Nat} {na nb v m : Int} {w : World} (h : Hid (Two w0 b1 b2 ab na nb v m m w)) :
    Blk w b1 #[.int .i64 na, .int .i64 m] MT ∧ Blk w b2 #[.int .i64 nb, .int .i64 m] MT ∧ Ext w0 w := ⟨h.out.k1, h.out.k2, h.out.e⟩

set_option maxHeartbeats 4000000 in
theorem together_c (a b v k : Int) (A : Option Addr) (bl o c : Nat) (l : List Int) (w : World) (ha0 : 0 ≤ a) (ha1 : a ≤ 255) (hb0 : 0 ≤ b) (hb1 : b ≤ 255) (hl : RowOf verbC 1 w A bl o l) (hc : l.length ≤ c) :
    Calls Try.prog 4 #[.int .u8 a, .int .u8 b, .slice A l.length c, .agg #[.int .i64 v, .int .i64 k]] w fun e w' => e = .returned (.bool true) ∧ Ext w w' := by
  have hl0 := hl.1
  have q0 := Int.tmod_nonneg 127 ha0
  have q1 := Int.tmod_lt_of_pos a (show (0 : Int) < 127 by decide)
  have q2 := Int.tmod_nonneg 127 hb0
  have q3 := Int.tmod_lt_of_pos b (show (0 : Int) < 127 by decide)
  have HO := hid (fun w' (q : Ext (w.alloc (.cells #[.int .i64 v, .int .i64 k] 32)) w') => Ext.blk q (Blk.new w #[.int .i64 v, .int .i64 k] 32))
  go_enter Try.func4, Try.ntmps4
  go_wp2_with fail
  obtain ⟨w0, hw0⟩ : ∃ w0, w0 = w.alloc (.cells #[.int .i64 v, .int .i64 k] 32) := ⟨_, rfl⟩
  rw [← hw0] at HO ⊢
  have K0 : Ext w w0 := by rw [hw0]; exact (by repeat (first | with_reducible exact Ext.refl _ | with_reducible assumption | with_reducible apply Ext.alloc | with_reducible apply Ext.drew | with_reducible apply Ext.drewN | (with_reducible refine Ext.set' ?_ (by first | omega | (simp only [World.size_alloc, World.size_setCell]; omega))) | (with_reducible refine Ext.trans ?_ (by with_reducible assumption)) | (with_reducible refine Ext.only ?_ (by with_reducible assumption) (by omega))))
  have B0 : ∀ w', Ext w0 w' → Blk w' w.heap.size #[.int .i64 v, .int .i64 k] 32 := HO.out
  have hs0 : w.heap.size < w0.heap.size := by rw [hw0]; simp
  clear hw0 HO
  have HO := hid B0
  clear B0
  (with_reducible refine (new_yes _ _ (by omega) (by omega)).mono ?_); rintro e w1 ⟨b1, rfl, hb1, k1, e1⟩
  have hl1 := k1.lt
  go_wp2_with fail
  (with_reducible refine (new_yes _ _ (by omega) (by omega)).mono ?_); rintro e w2 ⟨b2, rfl, hb2, k2, e2⟩
  have k1' := e2.blk k1
  generalize 1 + a % 127 = na at *
  generalize 1 + b % 127 = nb at *
  have hne : b1 ≠ b2 := by omega
  have E2 : Ext w0 w2 := (by repeat (first | with_reducible exact Ext.refl _ | with_reducible assumption | with_reducible apply Ext.alloc | with_reducible apply Ext.drew | with_reducible apply Ext.drewN | (with_reducible refine Ext.set' ?_ (by first | omega | (simp only [World.size_alloc, World.size_setCell]; omega))) | (with_reducible refine Ext.trans ?_ (by with_reducible assumption)) | (with_reducible refine Ext.only ?_ (by with_reducible assumption) (by omega))))
  clear k1 e1 e2
  go_wp2_with fail
  (with_reducible refine (boot_c _ _ _ _ k1').mono ?_); rintro e w3 ⟨rfl, k3, e3⟩
  have k3' := k2.kept e3 (by omega)
  rw [if_pos rfl] at k3
  have E3 : Ext w0 w3 := (by repeat (first | with_reducible exact Ext.refl _ | with_reducible assumption | with_reducible apply Ext.alloc | with_reducible apply Ext.drew | with_reducible apply Ext.drewN | (with_reducible refine Ext.set' ?_ (by first | omega | (simp only [World.size_alloc, World.size_setCell]; omega))) | (with_reducible refine Ext.trans ?_ (by with_reducible assumption)) | (with_reducible refine Ext.only ?_ (by with_reducible assumption) (by omega))))
  clear k2 k1' e3 E2
  go_wp2_with fail
  (with_reducible refine (boot_c _ _ _ _ k3').mono ?_); rintro e w4 ⟨rfl, k4, e4⟩
  have k4' := k3.kept e4 (by omega)
  rw [if_pos rfl] at k4
  have hb2' : w0.heap.size ≤ b2 := by omega
  have E4 : Ext w0 w4 := (by repeat (first | with_reducible exact Ext.refl _ | with_reducible assumption | with_reducible apply Ext.alloc | with_reducible apply Ext.drew | with_reducible apply Ext.drewN | (with_reducible refine Ext.set' ?_ (by first | omega | (simp only [World.size_alloc, World.size_setCell]; omega))) | (with_reducible refine Ext.trans ?_ (by with_reducible assumption)) | (with_reducible refine Ext.only ?_ (by with_reducible assumption) (by omega))))
  clear k3 k3' e4 E3
  go_wp2_with fail
  go_loopg [13] 40 (fun g u13 wr => ∃ (i : Nat) (m : Int), i + g = 40 ∧ i ≤ l.length ∧ u13 = .int .i64 i ∧ Blk wr b1 #[.int .i64 na, .int .i64 m] MT ∧ Blk wr b2 #[.int .i64 nb, .int .i64 m] MT ∧ Ext w0 wr)
  case atStart => exact ⟨0, 127, rfl, by omega, rfl, k4', k4, E4⟩
  case round =>
    clear k4 k4' E4
    obtain ⟨i, m, hig, hil, rfl, km, kn, K⟩ := hrel
    by_cases hlt : i < l.length ∧ i < 40
    · obtain ⟨hlt, h40⟩ := hlt
      have d1 : decide ((i : Int) < (l.length : Int)) = true := by simpa using hlt
      have d2 : decide ((i : Int) < 40) = true := by simp; omega
      have i0 : (0 : Int) ≤ (i : Int) := by omega
      have i1 : (i : Int) < (l.length : Int) := by omega
      obtain ⟨rfl, hcell⟩ := hl.at (Ext.trans K0 K) hlt
      generalize l[i] = vb at *
      have c0 : wr.cell? ⟨bl, o + i, none⟩ = some (.int .i64 vb) := by have := hcell 0 (.int .i64 vb) rfl; simpa using this
      clear hcell
      have HB := hid (fun w' (q : Ext (wr.alloc (.cells #[.int .i64 vb, .int .i64 0] 32)) w') => Ext.blk q (Blk.new wr #[.int .i64 vb, .int .i64 0] 32))
      have hmb := km.lt
      have hnb := kn.lt
      have HT := hid (Two.c ⟨(km.alloc (.cells #[.int .i64 vb, .int .i64 0] 32)).drew, (kn.alloc (.cells #[.int .i64 vb, .int .i64 0] 32)).drew, (Blk.new wr #[.int .i64 vb, .int .i64 0] 32).drew, (by have := Ext.refl w0; exact (by repeat (first | with_reducible exact Ext.refl _ | with_reducible assumption | with_reducible apply Ext.alloc | with_reducible apply Ext.drew | with_reducible apply Ext.drewN | (with_reducible refine Ext.set' ?_ (by first | omega | (simp only [World.size_alloc, World.size_setCell]; omega))) | (with_reducible refine Ext.trans ?_ (by with_reducible assumption)) | (with_reducible refine Ext.only ?_ (by with_reducible assumption) (by omega)))) : Ext w0 (wr.alloc (.cells #[.int .i64 vb, .int .i64 0] 32)).drew), hne, by omega, by omega, by omega, by omega⟩ : TwoC w0 b1 b2 wr.heap.size na nb vb m m (wr.alloc (.cells #[.int .i64 vb, .int .i64 0] 32)).drew)
      obtain ⟨nx, hnx⟩ : ∃ nx, Is (obeyV na m vb 0) nx := ⟨_, Is.refl _⟩
      obtain ⟨q, hq⟩ : ∃ q, Is (nx != m) q := ⟨_, Is.refl _⟩
      go_wp2_with fail
      obtain ⟨T0, ac0, ac1⟩ := HT.out
      obtain ⟨wa, hwa⟩ : ∃ wa, wa = wr.alloc (.cells #[.int .i64 vb, .int .i64 0] 32) := ⟨_, rfl⟩
      rw [← hwa] at T0 ac0 ac1 ⊢
      clear HT km kn K hwa
      generalize wr.heap.size = ab at *
      go_region_with (first | ((with_reducible refine (two_obey1 hnx hq (by assumption)).mono ?_); rintro e w' ⟨rfl, TT, pc0, pc1⟩) | ((with_reducible refine (two_obey2 hnx hq (by assumption)).mono ?_); rintro e w' ⟨rfl, TT, pc0, pc1⟩) | ((with_reducible refine (two_mode1 (by assumption)).mono ?_); rintro e w' ⟨rfl, TT, pc0, pc1⟩) | ((with_reducible refine (two_mode2 (by assumption)).mono ?_); rintro e w' ⟨rfl, TT, pc0, pc1⟩))
      all_goals
        clear HB c0
        by_cases hz : nx = 0
        · subst hz
          go_wp2_with (first | ((with_reducible refine (two_mode1 (by assumption)).mono ?_); rintro e w' ⟨rfl, TT, pc0, pc1⟩) | ((with_reducible refine (two_boot1 (by assumption)).mono ?_); rintro e w' ⟨rfl, TT, pc0, pc1⟩) | ((with_reducible refine (two_boot2 (by assumption)).mono ?_); rintro e w' ⟨rfl, TT, pc0, pc1⟩))
          go_roundg (gk - 1)
          case rel =>
            refine ⟨i + 1, 127, by omega, by omega, by go_num, ?_⟩
            exact two_end (by assumption)
          case measure => omega
        · have hz' : (nx == 0) = false := beq_eq_false_iff_ne.2 hz
          clear hz
          go_wp2_with (first | ((with_reducible refine (two_mode1 (by assumption)).mono ?_); rintro e w' ⟨rfl, TT, pc0, pc1⟩) | ((with_reducible refine (two_boot1 (by assumption)).mono ?_); rintro e w' ⟨rfl, TT, pc0, pc1⟩) | ((with_reducible refine (two_boot2 (by assumption)).mono ?_); rintro e w' ⟨rfl, TT, pc0, pc1⟩))
          go_roundg (gk - 1)
          case rel =>
            refine ⟨i + 1, nx, by omega, by omega, by go_num, ?_⟩
            exact two_end (by assumption)
          case measure => omega
    · by_cases hi : i = l.length
      · subst hi
        clear hlt
        go_wp2_with fail
        (with_reducible refine (fork_c _ _ _ _ km).mono ?_); rintro e x1 ⟨cf, rfl, hcf, f1, q1⟩
        have km1 := q1.blk km
        have E1 : Ext w0 x1 := (by repeat (first | with_reducible exact Ext.refl _ | with_reducible assumption | with_reducible apply Ext.alloc | with_reducible apply Ext.drew | with_reducible apply Ext.drewN | (with_reducible refine Ext.set' ?_ (by first | omega | (simp only [World.size_alloc, World.size_setCell]; omega))) | (with_reducible refine Ext.trans ?_ (by with_reducible assumption)) | (with_reducible refine Ext.only ?_ (by with_reducible assumption) (by omega))))
        have hlm := km.lt
        have hn1 : b1 ≠ cf := by omega
        have hcf' : w0.heap.size ≤ cf := by have := K.le; omega
        clear q1 km kn K hcf hlm
        go_wp2_with fail
        (with_reducible refine (mode_c _ _ _ _ km1).mono ?_); rintro e x2 ⟨rfl, q2⟩
        have km2 := q2.blk km1
        have f2 := q2.blk f1
        have E2 : Ext w0 x2 := (by repeat (first | with_reducible exact Ext.refl _ | with_reducible assumption | with_reducible apply Ext.alloc | with_reducible apply Ext.drew | with_reducible apply Ext.drewN | (with_reducible refine Ext.set' ?_ (by first | omega | (simp only [World.size_alloc, World.size_setCell]; omega))) | (with_reducible refine Ext.trans ?_ (by with_reducible assumption)) | (with_reducible refine Ext.only ?_ (by with_reducible assumption) (by omega))))
        clear q2 km1 f1 E1
        have bo := HO.out x2 E2
        obtain ⟨pc0, pc1, pf0, pf1⟩ := Blk.cells2 bo
        go_wp2_with fail
        (with_reducible refine (obey_c _ _ _ _ _ _ f2).mono ?_); rintro e x3 ⟨rfl, f3, q3⟩
        have km3 := km2.kept q3 hn1
        have E3 : Ext w0 x3 := Ext.only E2 q3 hcf'
        clear q3 km2 f2 f3 E2 bo pc0 pc1 pf0 pf1
        go_wp2_with fail
        (with_reducible refine (live_c _).mono ?_); rintro e x4 ⟨rfl, q4⟩
        have km4 := q4.blk km3
        have E4 : Ext w0 x4 := (by repeat (first | with_reducible exact Ext.refl _ | with_reducible assumption | with_reducible apply Ext.alloc | with_reducible apply Ext.drew | with_reducible apply Ext.drewN | (with_reducible refine Ext.set' ?_ (by first | omega | (simp only [World.size_alloc, World.size_setCell]; omega))) | (with_reducible refine Ext.trans ?_ (by with_reducible assumption)) | (with_reducible refine Ext.only ?_ (by with_reducible assumption) (by omega))))
        clear q4 km3 E3
        go_wp2_with fail
        (with_reducible refine (mode_c _ _ _ _ km4).mono ?_); rintro e x5 ⟨rfl, q5⟩
        have E5 : Ext w0 x5 := (by repeat (first | with_reducible exact Ext.refl _ | with_reducible assumption | with_reducible apply Ext.alloc | with_reducible apply Ext.drew | with_reducible apply Ext.drewN | (with_reducible refine Ext.set' ?_ (by first | omega | (simp only [World.size_alloc, World.size_setCell]; omega))) | (with_reducible refine Ext.trans ?_ (by with_reducible assumption)) | (with_reducible refine Ext.only ?_ (by with_reducible assumption) (by omega))))
        clear q5 km4 E4
        go_wp2_with fail
        (with_reducible refine (boot_nil _).mono ?_); rintro e x6 ⟨rfl, q6⟩
        have E6 : Ext w0 x6 := (by repeat (first | with_reducible exact Ext.refl _ | with_reducible assumption | with_reducible apply Ext.alloc | with_reducible apply Ext.drew | with_reducible apply Ext.drewN | (with_reducible refine Ext.set' ?_ (by first | omega | (simp only [World.size_alloc, World.size_setCell]; omega))) | (with_reducible refine Ext.trans ?_ (by with_reducible assumption)) | (with_reducible refine Ext.only ?_ (by with_reducible assumption) (by omega))))
        clear q6 E5
        have bo := HO.out x6 E6
        obtain ⟨pc0, pc1, pf0, pf1⟩ := Blk.cells2 bo
        go_wp2_with fail
        (with_reducible refine (obey_nil _ _ _).mono ?_); rintro e x7 ⟨rfl, q7⟩
        have E7 : Ext w0 x7 := (by repeat (first | with_reducible exact Ext.refl _ | with_reducible assumption | with_reducible apply Ext.alloc | with_reducible apply Ext.drew | with_reducible apply Ext.drewN | (with_reducible refine Ext.set' ?_ (by first | omega | (simp only [World.size_alloc, World.size_setCell]; omega))) | (with_reducible refine Ext.trans ?_ (by with_reducible assumption)) | (with_reducible refine Ext.only ?_ (by with_reducible assumption) (by omega))))
        clear q7 E6 bo pc0 pc1 pf0 pf1
        go_wp2_with fail
        (with_reducible refine (mode_nil _).mono ?_); rintro e x8 ⟨rfl, q8⟩
        go_wp2_with fail
        (with_reducible refine (node_nil _).mono ?_); rintro e x9 ⟨rfl, q9⟩
        go_wp2_with fail
        (with_reducible refine (fork_nil _).mono ?_); rintro e x10 ⟨rfl, q10⟩
        go_wp2_with fail
        have KE : Ext w0 x10 := (by repeat (first | with_reducible exact Ext.refl _ | with_reducible assumption | with_reducible apply Ext.alloc | with_reducible apply Ext.drew | with_reducible apply Ext.drewN | (with_reducible refine Ext.set' ?_ (by first | omega | (simp only [World.size_alloc, World.size_setCell]; omega))) | (with_reducible refine Ext.trans ?_ (by with_reducible assumption)) | (with_reducible refine Ext.only ?_ (by with_reducible assumption) (by omega))))
        have KW := Ext.trans K0 KE
        go_ret
        exact ⟨rfl, KW⟩
      · obtain rfl : i = 40 := by omega
        have d : (40 : Int) < (l.length : Int) := by omega
        have d' : decide ((40 : Int) < (l.length : Int)) = true := by simpa using d
        clear hlt hi
        go_wp2_with fail
        (with_reducible refine (fork_c _ _ _ _ km).mono ?_); rintro e x1 ⟨cf, rfl, hcf, f1, q1⟩
        have km1 := q1.blk km
        have E1 : Ext w0 x1 := (by repeat (first | with_reducible exact Ext.refl _ | with_reducible assumption | with_reducible apply Ext.alloc | with_reducible apply Ext.drew | with_reducible apply Ext.drewN | (with_reducible refine Ext.set' ?_ (by first | omega | (simp only [World.size_alloc, World.size_setCell]; omega))) | (with_reducible refine Ext.trans ?_ (by with_reducible assumption)) | (with_reducible refine Ext.only ?_ (by with_reducible assumption) (by omega))))
        have hlm := km.lt
        have hn1 : b1 ≠ cf := by omega
        have hcf' : w0.heap.size ≤ cf := by have := K.le; omega
        clear q1 km kn K hcf hlm
        go_wp2_with fail
        (with_reducible refine (mode_c _ _ _ _ km1).mono ?_); rintro e x2 ⟨rfl, q2⟩
        have km2 := q2.blk km1
        have f2 := q2.blk f1
        have E2 : Ext w0 x2 := (by repeat (first | with_reducible exact Ext.refl _ | with_reducible assumption | with_reducible apply Ext.alloc | with_reducible apply Ext.drew | with_reducible apply Ext.drewN | (with_reducible refine Ext.set' ?_ (by first | omega | (simp only [World.size_alloc, World.size_setCell]; omega))) | (with_reducible refine Ext.trans ?_ (by with_reducible assumption)) | (with_reducible refine Ext.only ?_ (by with_reducible assumption) (by omega))))
        clear q2 km1 f1 E1
        have bo := HO.out x2 E2
        obtain ⟨pc0, pc1, pf0, pf1⟩ := Blk.cells2 bo
        go_wp2_with fail
        (with_reducible refine (obey_c _ _ _ _ _ _ f2).mono ?_); rintro e x3 ⟨rfl, f3, q3⟩
        have km3 := km2.kept q3 hn1
        have E3 : Ext w0 x3 := Ext.only E2 q3 hcf'
        clear q3 km2 f2 f3 E2 bo pc0 pc1 pf0 pf1
        go_wp2_with fail
        (with_reducible refine (live_c _).mono ?_); rintro e x4 ⟨rfl, q4⟩
        have km4 := q4.blk km3
        have E4 : Ext w0 x4 := (by repeat (first | with_reducible exact Ext.refl _ | with_reducible assumption | with_reducible apply Ext.alloc | with_reducible apply Ext.drew | with_reducible apply Ext.drewN | (with_reducible refine Ext.set' ?_ (by first | omega | (simp only [World.size_alloc, World.size_setCell]; omega))) | (with_reducible refine Ext.trans ?_ (by with_reducible assumption)) | (with_reducible refine Ext.only ?_ (by with_reducible assumption) (by omega))))
        clear q4 km3 E3
        go_wp2_with fail
        (with_reducible refine (mode_c _ _ _ _ km4).mono ?_); rintro e x5 ⟨rfl, q5⟩
        have E5 : Ext w0 x5 := (by repeat (first | with_reducible exact Ext.refl _ | with_reducible assumption | with_reducible apply Ext.alloc | with_reducible apply Ext.drew | with_reducible apply Ext.drewN | (with_reducible refine Ext.set' ?_ (by first | omega | (simp only [World.size_alloc, World.size_setCell]; omega))) | (with_reducible refine Ext.trans ?_ (by with_reducible assumption)) | (with_reducible refine Ext.only ?_ (by with_reducible assumption) (by omega))))
        clear q5 km4 E4
        go_wp2_with fail
        (with_reducible refine (boot_nil _).mono ?_); rintro e x6 ⟨rfl, q6⟩
        have E6 : Ext w0 x6 := (by repeat (first | with_reducible exact Ext.refl _ | with_reducible assumption | with_reducible apply Ext.alloc | with_reducible apply Ext.drew | with_reducible apply Ext.drewN | (with_reducible refine Ext.set' ?_ (by first | omega | (simp only [World.size_alloc, World.size_setCell]; omega))) | (with_reducible refine Ext.trans ?_ (by with_reducible assumption)) | (with_reducible refine Ext.only ?_ (by with_reducible assumption) (by omega))))
        clear q6 E5
        have bo := HO.out x6 E6
        obtain ⟨pc0, pc1, pf0, pf1⟩ := Blk.cells2 bo
        go_wp2_with fail
        (with_reducible refine (obey_nil _ _ _).mono ?_); rintro e x7 ⟨rfl, q7⟩
        have E7 : Ext w0 x7 := (by repeat (first | with_reducible exact Ext.refl _ | with_reducible assumption | with_reducible apply Ext.alloc | with_reducible apply Ext.drew | with_reducible apply Ext.drewN | (with_reducible refine Ext.set' ?_ (by first | omega | (simp only [World.size_alloc, World.size_setCell]; omega))) | (with_reducible refine Ext.trans ?_ (by with_reducible assumption)) | (with_reducible refine Ext.only ?_ (by with_reducible assumption) (by omega))))
        clear q7 E6 bo pc0 pc1 pf0 pf1
        go_wp2_with fail
        (with_reducible refine (mode_nil _).mono ?_); rintro e x8 ⟨rfl, q8⟩
        go_wp2_with fail
        (with_reducible refine (node_nil _).mono ?_); rintro e x9 ⟨rfl, q9⟩
        go_wp2_with fail
        (with_reducible refine (fork_nil _).mono ?_); rintro e x10 ⟨rfl, q10⟩
        go_wp2_with fail
        have KE : Ext w0 x10 := (by repeat (first | with_reducible exact Ext.refl _ | with_reducible assumption | with_reducible apply Ext.alloc | with_reducible apply Ext.drew | with_reducible apply Ext.drewN | (with_reducible refine Ext.set' ?_ (by first | omega | (simp only [World.size_alloc, World.size_setCell]; omega))) | (with_reducible refine Ext.trans ?_ (by with_reducible assumption)) | (with_reducible refine Ext.only ?_ (by with_reducible assumption) (by omega))))
        have KW := Ext.trans K0 KE
        go_ret
        exact ⟨rfl, KW⟩

theorem dec_verb {W : World} (es : List Value) (hl : es.length = 1) (h : Rd Try.prog W 30 es) : ∃ x : Int, verbC x = es ∧ True := by
  rcases es with _ | ⟨a, _ | _⟩ <;> simp at hl
  obtain ⟨n, e, _⟩ := h.int Try.underlying30
  exact ⟨n, by rw [e]; rfl, trivial⟩

theorem dec_order {W : World} (es : List Value) (hl : es.length = 2) (h : Rd Try.prog W 32 es) : ∃ v k : Int, es = [.int .i64 v, .int .i64 k] := by
  obtain ⟨v, hv, _⟩ := h.fieldInt Try.underlying32 0 rfl Try.underlying30 (by kernel_rfl)
  obtain ⟨k, hk, _⟩ := h.fieldInt Try.underlying32 1 rfl Try.underlying3 (by kernel_rfl)
  change es[0]? = some (.int .i64 v) at hv
  change es[1]? = some (.int .i64 k) at hk
  rcases es with _ | ⟨a, _ | ⟨b, _ | _⟩⟩ <;> simp at hl
  simp at hv hk
  exact ⟨v, k, by rw [hv, hk]⟩

theorem together_entry (v0 v1 v2 v3 : Value) (W : World) {base : Nat} (h0 : Rd Try.prog W 5 v0.cells.toList) (o0 : Value.okWide Try.prog W .any base 5 v0)
    (h1 : Rd Try.prog W 5 v1.cells.toList) (o1 : Value.okWide Try.prog W .any base 5 v1)
    (h2 : Rd Try.prog W 39 v2.cells.toList) (o2 : Value.okWide Try.prog W .any base 39 v2)
    (h3 : Rd Try.prog W 32 v3.cells.toList) (o3 : Value.okWide Try.prog W .any base 32 v3) :
    Calls Try.prog 4 #[v0, v1, v2, v3] W fun e w' => e = .returned (.bool true) ∧ Below W.heap.size W w' := by
  obtain ⟨a, rfl, wa⟩ := opn_int Try.underlying5 h0 o0
  obtain ⟨b, rfl, wb⟩ := opn_int Try.underlying5 h1 o1
  obtain ⟨A, bl, o, l, c, rfl, hlc, _, _, _, hrow, _⟩ := opn_rows verbC (fun _ => True) 1 (by decide) Try.underlying39 (by kernel_rfl) dec_verb h2 o2
  obtain ⟨ha0, ha1⟩ := wf_u8 wa
  obtain ⟨hb0, hb1⟩ := wf_u8 wb
  obtain ⟨cs, rfl, hs, h3'⟩ := opn_struct Try.underlying32 h3 o3
  obtain ⟨v, k, hvk⟩ := dec_order cs.toList (by simpa using hs.trans (by kernel_rfl)) h3'
  have : cs = #[.int .i64 v, .int .i64 k] := by rw [← Array.toArray_toList (xs := cs), hvk]
  subst this
  exact together_c a b v k A bl o c l W ha0 ha1 hb0 hb1 hrow hlc

end Go.Proofs.Yteflckedfnflpaa
