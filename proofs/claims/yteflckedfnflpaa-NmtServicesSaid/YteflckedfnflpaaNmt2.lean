/- Package nmt: Encode; the laws NmtObeys, NmtTogether. -/
import Derived.Test.YteflckedfnflpaaNmt
import Derived.Test.YteflckedfnflpaaRowOf
import Derived.Test.YteflckedfnflpaaOpen
set_option linter.unusedSimpArgs false
set_option linter.unusedVariables false
set_option linter.unnecessarySimpa false
namespace Go.Proofs.Yteflckedfnflpaa
open Go.RowKit Go.Proofs.YteflckedfnflpaaW.PrintWords Go.ChangeShapes Go.WideShapes Go.ChangeAt
attribute [local go_sem] max2_max min2_min max_of_two min_of_two
attribute [local go_sem ↓] run_eq_fr

def encV (v n : Int) : Fr := if mayB v n then ⟨0, false, 2, v, n, 0, 0, 0, 0, 0, 0⟩ else Fr.zero
theorem chk_two (v n : Int) : Fr.chk (mkFr 0 [v, n]) = 0 := by
  simp [Fr.chk, Fr.plain, mkFr, frEq]
theorem mk_two (v n : Int) : Fr.ckd (mkFr 0 [v, n]) = ⟨0, false, 2, v, n, 0, 0, 0, 0, 0, 0⟩ := by
  unfold Fr.ckd
  rw [if_pos (chk_two v n)]
  simp [mkFr]

theorem may_bounds {v n : Int} (h : mayB v n = true) : (v = 1 ∨ v = 2 ∨ v = 128 ∨ v = 129 ∨ v = 130) ∧ 0 ≤ n ∧ n ≤ 127 := by
  simp only [mayB, verbB, Bool.and_eq_true, Bool.or_eq_true, beq_iff_eq, decide_eq_true_eq] at h
  omega

set_option maxHeartbeats 1000000 in
theorem encode_c (v n : Int) (w : World) : Calls Try.prog 15 #[.agg #[.int .i64 v, .int .i64 n]] w fun e w' => e = .returned (.tuple #[(encV v n).val, .int .i64 (if mayB v n then 0 else 2)]) ∧ Ext w w' := by
  have HB := hid (fun w' (q : Ext (w.alloc (.cells #[.int .i64 v, .int .i64 n] 32)) w') => Ext.blk q (Blk.new w #[.int .i64 v, .int .i64 n] 32))
  obtain ⟨x, hx⟩ : ∃ x, Is (mayB v n) x := ⟨_, Is.refl _⟩
  have he : encV v n = if x then ⟨0, false, 2, v, n, 0, 0, 0, 0, 0, 0⟩ else Fr.zero := by rw [← hx.eq]; rfl
  rw [he, hx.eq]
  clear he
  cases x
  · simp only [Bool.false_eq_true, if_false]
    go_enter Try.func15, Try.ntmps15
    go_wp2_with fail
    (with_reducible refine (may_c _ _ _).mono ?_); rintro e w1 ⟨rfl, k1⟩
    rw [hx.eq]
    have hlt : w.heap.size + 1 < w1.heap.size := by have := k1.le; simp at this; omega
    have b2 : Blk w1 (w.heap.size + 1) #[.int .i64 0, .bool false, .int .i64 0, .int .u8 0, .int .u8 0, .int .u8 0, .int .u8 0, .int .u8 0, .int .u8 0, .int .u8 0, .int .u8 0] FT := Ext.blk k1 (Blk.new2 _ _ _ _)
    obtain ⟨qc0, qc1, qc2, qc3, qc4, qc5, qc6, qc7, qc8, qc9, qc10, qf0, qf1, qf2, qf3, qf4, qf5, qf6, qf7, qf8, qf9, qf10⟩ := Blk.cells11 b2
    have KE : Ext w w1 := (by repeat (first | with_reducible exact Ext.refl _ | with_reducible assumption | with_reducible apply Ext.alloc | with_reducible apply Ext.drew | with_reducible apply Ext.drewN | (with_reducible refine Ext.set' ?_ (by first | omega | (simp only [World.size_alloc, World.size_setCell]; omega))) | (with_reducible refine Ext.trans ?_ (by with_reducible assumption)) | (with_reducible refine Ext.only ?_ (by with_reducible assumption) (by omega))))
    clear HB k1
    go_wp2_with fail
    exact bodyPost_ret (v := .tuple #[.agg #[.int .i64 0, .bool false, .int .i64 0, .int .u8 0, .int .u8 0, .int .u8 0, .int .u8 0, .int .u8 0, .int .u8 0, .int .u8 0, .int .u8 0], .int .i64 2]) (by simp [results, Try.results15, go_sem, *]) rfl ⟨rfl, (by repeat (first | with_reducible exact Ext.refl _ | with_reducible assumption | with_reducible apply Ext.alloc | with_reducible apply Ext.drew | with_reducible apply Ext.drewN | (with_reducible refine Ext.set' ?_ (by first | omega | (simp only [World.size_alloc, World.size_setCell]; omega))) | (with_reducible refine Ext.trans ?_ (by with_reducible assumption)) | (with_reducible refine Ext.only ?_ (by with_reducible assumption) (by omega))))⟩
  · simp only [if_true]
    obtain ⟨hv, hn0, hn1⟩ := may_bounds hx.eq
    have hv0 : 0 ≤ v := by omega
    have hv1 : v ≤ 130 := by omega
    clear hv
    go_enter Try.func15, Try.ntmps15
    go_wp2_with fail
    (with_reducible refine (may_c _ _ _).mono ?_); rintro e w1 ⟨rfl, k1⟩
    rw [hx.eq]
    have hlt : w.heap.size + 1 < w1.heap.size := by have := k1.le; simp at this; omega
    have b2 : Blk w1 (w.heap.size + 1) #[.int .i64 0, .bool false, .int .i64 0, .int .u8 0, .int .u8 0, .int .u8 0, .int .u8 0, .int .u8 0, .int .u8 0, .int .u8 0, .int .u8 0] FT := Ext.blk k1 (Blk.new2 _ _ _ _)
    have b1 := HB.out w1 (by repeat (first | with_reducible exact Ext.refl _ | with_reducible assumption | with_reducible apply Ext.alloc | with_reducible apply Ext.drew | with_reducible apply Ext.drewN | (with_reducible refine Ext.set' ?_ (by first | omega | (simp only [World.size_alloc, World.size_setCell]; omega))) | (with_reducible refine Ext.trans ?_ (by with_reducible assumption)) | (with_reducible refine Ext.only ?_ (by with_reducible assumption) (by omega))))
    obtain ⟨pc0, pc1, pf0, pf1⟩ := Blk.cells2 b1
    have KE : Ext w w1 := (by repeat (first | with_reducible exact Ext.refl _ | with_reducible assumption | with_reducible apply Ext.alloc | with_reducible apply Ext.drew | with_reducible apply Ext.drewN | (with_reducible refine Ext.set' ?_ (by first | omega | (simp only [World.size_alloc, World.size_setCell]; omega))) | (with_reducible refine Ext.trans ?_ (by with_reducible assumption)) | (with_reducible refine Ext.only ?_ (by with_reducible assumption) (by omega))))
    have bs1 : Bs (w1.alloc (.cells #[.int .u8 v, .int .u8 n] U8)) (.slice (some ⟨w1.heap.size, 0, none⟩) 2 2) [v, n] := Bs.own (own8_lit w1 w1.heap.size [v, n] (Nat.le_refl _) (by simp)) (by intro x hx; simp at hx; omega)
    clear HB k1
    go_wp2_with fail
    (with_reducible refine (new_c 0 _ _ _ bs1).mono ?_); rintro e w2 ⟨rfl, k2⟩
    rw [chk_two, mk_two]
    have b3 := Ext.blk k2 (b2.alloc _)
    obtain ⟨qc0, qc1, qc2, qc3, qc4, qc5, qc6, qc7, qc8, qc9, qc10, qf0, qf1, qf2, qf3, qf4, qf5, qf6, qf7, qf8, qf9, qf10⟩ := Blk.cells11 b3
    have KF : Ext w w2 := (by repeat (first | with_reducible exact Ext.refl _ | with_reducible assumption | with_reducible apply Ext.alloc | with_reducible apply Ext.drew | with_reducible apply Ext.drewN | (with_reducible refine Ext.set' ?_ (by first | omega | (simp only [World.size_alloc, World.size_setCell]; omega))) | (with_reducible refine Ext.trans ?_ (by with_reducible assumption)) | (with_reducible refine Ext.only ?_ (by with_reducible assumption) (by omega))))
    have hlt2 : w.heap.size + 1 < w2.heap.size := by have := k2.le; simp at this; omega
    simp only [Fr.val, Fr.cells]
    clear k2 pc0 pc1 pf0 pf1
    go_wp2_with fail
    exact bodyPost_ret (v := .tuple #[.agg #[.int .i64 0, .bool false, .int .i64 2, .int .u8 v, .int .u8 n, .int .u8 0, .int .u8 0, .int .u8 0, .int .u8 0, .int .u8 0, .int .u8 0], .int .i64 0]) (by simp [results, Try.results15, go_sem, *]) rfl ⟨rfl, (by repeat (first | with_reducible exact Ext.refl _ | with_reducible assumption | with_reducible apply Ext.alloc | with_reducible apply Ext.drew | with_reducible apply Ext.drewN | (with_reducible refine Ext.set' ?_ (by first | omega | (simp only [World.size_alloc, World.size_setCell]; omega))) | (with_reducible refine Ext.trans ?_ (by with_reducible assumption)) | (with_reducible refine Ext.only ?_ (by with_reducible assumption) (by omega))))⟩

set_option maxHeartbeats 1000000 in
theorem live_c (w : World) : Calls Try.prog 8 #[] w fun e w' => e = .returned (.bool true) ∧ Ext w w' := by
  have e1 : encV 1 5 = ⟨0, false, 2, 1, 5, 0, 0, 0, 0, 0, 0⟩ := by decide
  have e2 : mayB 1 5 = true := by decide
  have HE := hid e1
  have HM := hid e2
  have f1 := frEq_refl ⟨0, false, 2, 1, 5, 0, 0, 0, 0, 0, 0⟩
  clear e1 e2
  go_enter Try.func8, Try.ntmps8
  go_wp2_with fail
  (with_reducible refine (encode_c 1 5 _).mono ?_); rintro e w1 ⟨rfl, k1⟩
  rw [HE.out, HM.out, if_pos rfl]
  simp only [Fr.val, Fr.cells]
  go_wp2_with fail
  have bf := Blk.new w1 #[.int .i64 0, .bool false, .int .i64 2, .int .u8 1, .int .u8 5, .int .u8 0, .int .u8 0, .int .u8 0, .int .u8 0, .int .u8 0, .int .u8 0] FT
  have KA : Ext w (w1.alloc (.cells #[.int .i64 0, .bool false, .int .i64 2, .int .u8 1, .int .u8 5, .int .u8 0, .int .u8 0, .int .u8 0, .int .u8 0, .int .u8 0, .int .u8 0] FT)) := (by repeat (first | with_reducible exact Ext.refl _ | with_reducible assumption | with_reducible apply Ext.alloc | with_reducible apply Ext.drew | with_reducible apply Ext.drewN | (with_reducible refine Ext.set' ?_ (by first | omega | (simp only [World.size_alloc, World.size_setCell]; omega))) | (with_reducible refine Ext.trans ?_ (by with_reducible assumption)) | (with_reducible refine Ext.only ?_ (by with_reducible assumption) (by omega))))
  have hge : w.heap.size ≤ w1.heap.size := k1.le
  (with_reducible refine (new_yes 5 _ (by omega) (by omega)).mono ?_); rintro e w2 ⟨b, rfl, hb, b2, k2⟩
  simp only [World.size_alloc] at hb
  have hne : w1.heap.size ≠ b := by omega
  have hb2 : w.heap.size ≤ b := by omega
  have bf2 := Ext.blk k2 bf
  have KB : Ext w w2 := (by repeat (first | with_reducible exact Ext.refl _ | with_reducible assumption | with_reducible apply Ext.alloc | with_reducible apply Ext.drew | with_reducible apply Ext.drewN | (with_reducible refine Ext.set' ?_ (by first | omega | (simp only [World.size_alloc, World.size_setCell]; omega))) | (with_reducible refine Ext.trans ?_ (by with_reducible assumption)) | (with_reducible refine Ext.only ?_ (by with_reducible assumption) (by omega))))
  clear k1 KA bf hb k2
  go_wp2_with fail
  (with_reducible refine (obey_c _ _ _ 2 0 _ b2).mono ?_); rintro e w3 ⟨rfl, b3, k3⟩
  rw [show obeyV 5 0 2 0 = 0 by decide] at b3 ⊢
  have bf3 := bf2.kept k3 hne
  have KC : Ext w w3 := (by repeat (first | with_reducible exact Ext.refl _ | with_reducible assumption | with_reducible apply Ext.alloc | with_reducible apply Ext.drew | with_reducible apply Ext.drewN | (with_reducible refine Ext.set' ?_ (by first | omega | (simp only [World.size_alloc, World.size_setCell]; omega))) | (with_reducible refine Ext.trans ?_ (by with_reducible assumption)) | (with_reducible refine Ext.only ?_ (by with_reducible assumption) (by omega))))
  clear k3 bf2 b2 KB
  go_wp2_with fail
  (with_reducible refine (boot_c _ _ _ _ b3).mono ?_); rintro e w4 ⟨rfl, b4, k4⟩
  rw [if_pos rfl] at b4
  have bf4 := bf3.kept k4 hne
  have KD : Ext w w4 := (by repeat (first | with_reducible exact Ext.refl _ | with_reducible assumption | with_reducible apply Ext.alloc | with_reducible apply Ext.drew | with_reducible apply Ext.drewN | (with_reducible refine Ext.set' ?_ (by first | omega | (simp only [World.size_alloc, World.size_setCell]; omega))) | (with_reducible refine Ext.trans ?_ (by with_reducible assumption)) | (with_reducible refine Ext.only ?_ (by with_reducible assumption) (by omega))))
  clear k4 bf3 b3 KC
  go_wp2_with fail
  (with_reducible refine (obey_c _ _ _ 1 5 _ b4).mono ?_); rintro e w5 ⟨rfl, b5, k5⟩
  rw [show obeyV 5 127 1 5 = 5 by decide] at b5 ⊢
  have bf5 := bf4.kept k5 hne
  have KE : Ext w w5 := (by repeat (first | with_reducible exact Ext.refl _ | with_reducible assumption | with_reducible apply Ext.alloc | with_reducible apply Ext.drew | with_reducible apply Ext.drewN | (with_reducible refine Ext.set' ?_ (by first | omega | (simp only [World.size_alloc, World.size_setCell]; omega))) | (with_reducible refine Ext.trans ?_ (by with_reducible assumption)) | (with_reducible refine Ext.only ?_ (by with_reducible assumption) (by omega))))
  clear k5 bf4 b4 KD
  obtain ⟨pc0, pc1, pc2, pc3, pc4, pc5, pc6, pc7, pc8, pc9, pc10, pf0, pf1, pf2, pf3, pf4, pf5, pf6, pf7, pf8, pf9, pf10⟩ := Blk.cells11 bf5
  clear pf0 pf1 pf2 pf3 pf4 pf5 pf6 pf7 pf8 pf9 pf10
  go_wp2_with fail
  (with_reducible refine (mode_c _ _ _ _ b5).mono ?_); rintro e w6 ⟨rfl, k6⟩
  go_wp2_with fail
  go_ret
  exact ⟨rfl, (by repeat (first | with_reducible exact Ext.refl _ | with_reducible assumption | with_reducible apply Ext.alloc | with_reducible apply Ext.drew | with_reducible apply Ext.drewN | (with_reducible refine Ext.set' ?_ (by first | omega | (simp only [World.size_alloc, World.size_setCell]; omega))) | (with_reducible refine Ext.trans ?_ (by with_reducible assumption)) | (with_reducible refine Ext.only ?_ (by with_reducible assumption) (by omega))))⟩

/-- What is done: it boots, or an order. -/
structure Dd where
  boot : Bool
  v : Int
  k : Int
def Dd.cells (d : Dd) : List Value := [.bool d.boot, .int .i64 d.v, .int .i64 d.k]

set_option maxHeartbeats 4000000 in
theorem obeys_c (n : Int) (A : Option Addr) (bl o c : Nat) (l : List Dd) (w : World) (hl : RowOf Dd.cells 3 w A bl o l) (hc : l.length ≤ c) :
    Calls Try.prog 3 #[.int .i64 n, .slice A l.length c] w fun e w' => e = .returned (.bool true) ∧ Ext w w' := by
  have hl0 := hl.1
  by_cases hn : n < 1 ∨ 127 < n
  · have hd : decide (n < 1) = true ∨ (decide (n < 1) = false ∧ decide (127 < n) = true) := by
      by_cases h' : n < 1
      · exact .inl (by simpa using h')
      · exact .inr ⟨by simpa using h', by simp; omega⟩
    have hn' := hid hn
    clear hn
    rcases hd with d | ⟨d, d2⟩
    all_goals
      go_enter Try.func3, Try.ntmps3
      go_wp2_with fail
      (with_reducible refine (new_no _ _ hn'.out).mono ?_); rintro e w1 ⟨rfl, k1⟩
      go_wp2_with fail
      (with_reducible refine (live_c _).mono ?_); rintro e w2 ⟨rfl, k2⟩
      go_wp2_with fail
      go_ret
      exact ⟨rfl, (by repeat (first | with_reducible exact Ext.refl _ | with_reducible assumption | with_reducible apply Ext.alloc | with_reducible apply Ext.drew | with_reducible apply Ext.drewN | (with_reducible refine Ext.set' ?_ (by first | omega | (simp only [World.size_alloc, World.size_setCell]; omega))) | (with_reducible refine Ext.trans ?_ (by with_reducible assumption)) | (with_reducible refine Ext.only ?_ (by with_reducible assumption) (by omega))))⟩
  · have d1 : decide (n < 1) = false := by simp; omega
    have d2 : decide (127 < n) = false := by simp; omega
    go_enter Try.func3, Try.ntmps3
    go_wp2_with fail
    (with_reducible refine (new_yes n _ (by omega) (by omega)).mono ?_); rintro e w1 ⟨b, rfl, hb, b1, k1⟩
    go_wp2_with fail
    go_loopg [7, 8] 60 (fun g u7 u8 wr => ∃ (i : Nat) (m : Int), i + g = 60 ∧ i ≤ l.length ∧ u8 = .int .i64 i ∧ u7 = .int .i64 m ∧ Blk wr b #[.int .i64 n, .int .i64 m] MT ∧ Ext w wr)
    case atStart => exact ⟨0, 0, rfl, by omega, rfl, rfl, b1, (by repeat (first | with_reducible exact Ext.refl _ | with_reducible assumption | with_reducible apply Ext.alloc | with_reducible apply Ext.drew | with_reducible apply Ext.drewN | (with_reducible refine Ext.set' ?_ (by first | omega | (simp only [World.size_alloc, World.size_setCell]; omega))) | (with_reducible refine Ext.trans ?_ (by with_reducible assumption)) | (with_reducible refine Ext.only ?_ (by with_reducible assumption) (by omega))))⟩
    case round =>
      clear b1 k1
      obtain ⟨i, m, hig, hil, rfl, rfl, bm, K⟩ := hrel
      by_cases hlt : i < l.length ∧ i < 60
      · obtain ⟨hlt, h60⟩ := hlt
        have e1 : decide ((i : Int) < (l.length : Int)) = true := by simpa using hlt
        have e2 : decide ((i : Int) < 60) = true := by simp; omega
        have i0 : (0 : Int) ≤ (i : Int) := by omega
        have i1 : (i : Int) < (l.length : Int) := by omega
        obtain ⟨rfl, hcell⟩ := hl.at K hlt
        have HC := hid (fun wq (q : Ext w wq) => (hl.at q hlt).2)
        generalize l[i] = dd at *
        obtain ⟨bt, v, k⟩ := dd
        have c0 := hcell 0 (.bool bt) rfl
        have c1 := hcell 1 (.int .i64 v) rfl
        have c2 := hcell 2 (.int .i64 k) rfl
        clear hcell
        go_wp2_with fail
        (with_reducible refine (behind_c _ _ _ _ _).mono ?_); rintro e w2 ⟨rfl, k2⟩
        have K2 : Ext w w2 := (by repeat (first | with_reducible exact Ext.refl _ | with_reducible assumption | with_reducible apply Ext.alloc | with_reducible apply Ext.drew | with_reducible apply Ext.drewN | (with_reducible refine Ext.set' ?_ (by first | omega | (simp only [World.size_alloc, World.size_setCell]; omega))) | (with_reducible refine Ext.trans ?_ (by with_reducible assumption)) | (with_reducible refine Ext.only ?_ (by with_reducible assumption) (by omega))))
        have bm2 := k2.blk bm
        have hcell2 := HC.out w2 K2
        have c0' : w2.cell? ⟨bl, o + i * 3, none⟩ = some (.bool bt) := hcell2 0 (.bool bt) rfl
        have c1' := hcell2 1 (.int .i64 v) rfl
        have c2' := hcell2 2 (.int .i64 k) rfl
        obtain ⟨nx, hnx⟩ : ∃ nx, Is (obeyV n m v k) nx := ⟨_, Is.refl _⟩
        rw [hnx.eq]
        clear hcell2 c0 c1 c2 k2 bm
        cases bt
        · go_wp2_with fail
          (with_reducible refine (obey_c _ _ _ _ _ _ bm2).mono ?_); rintro e w3 ⟨rfl, b3, k3⟩
          rw [hnx.eq] at b3 ⊢
          have K3 : Ext w w3 := (by repeat (first | with_reducible exact Ext.refl _ | with_reducible assumption | with_reducible apply Ext.alloc | with_reducible apply Ext.drew | with_reducible apply Ext.drewN | (with_reducible refine Ext.set' ?_ (by first | omega | (simp only [World.size_alloc, World.size_setCell]; omega))) | (with_reducible refine Ext.trans ?_ (by with_reducible assumption)) | (with_reducible refine Ext.only ?_ (by with_reducible assumption) (by omega))))
          clear c0' c1' c2' k3 bm2 K2 K
          by_cases hq : nx = m
          · subst hq
            have e3 : (nx != nx) = false := by simp
            go_wp2_with fail
            (with_reducible refine (mode_c _ _ _ _ b3).mono ?_); rintro e w4 ⟨rfl, k4⟩
            have b4 := k4.blk b3
            go_wp2_with fail
            (with_reducible refine (node_c _ _ _ _ b4).mono ?_); rintro e w5 ⟨rfl, k5⟩
            have b5 := k5.blk b4
            have K5 : Ext w w5 := (by repeat (first | with_reducible exact Ext.refl _ | with_reducible assumption | with_reducible apply Ext.alloc | with_reducible apply Ext.drew | with_reducible apply Ext.drewN | (with_reducible refine Ext.set' ?_ (by first | omega | (simp only [World.size_alloc, World.size_setCell]; omega))) | (with_reducible refine Ext.trans ?_ (by with_reducible assumption)) | (with_reducible refine Ext.only ?_ (by with_reducible assumption) (by omega))))
            go_wp2_with fail
            go_roundg (gk - 1)
            case rel => exact ⟨i + 1, nx, by omega, by omega, by go_num, rfl, b5, K5⟩
            case measure => omega
          · have e3 : (nx != m) = true := by simpa using hq
            have e4 : (nx == m) = false := by simpa using hq
            clear hq
            go_wp2_with fail
            (with_reducible refine (mode_c _ _ _ _ b3).mono ?_); rintro e w4 ⟨rfl, k4⟩
            have b4 := k4.blk b3
            go_wp2_with fail
            (with_reducible refine (node_c _ _ _ _ b4).mono ?_); rintro e w5 ⟨rfl, k5⟩
            have b5 := k5.blk b4
            have K5 : Ext w w5 := (by repeat (first | with_reducible exact Ext.refl _ | with_reducible assumption | with_reducible apply Ext.alloc | with_reducible apply Ext.drew | with_reducible apply Ext.drewN | (with_reducible refine Ext.set' ?_ (by first | omega | (simp only [World.size_alloc, World.size_setCell]; omega))) | (with_reducible refine Ext.trans ?_ (by with_reducible assumption)) | (with_reducible refine Ext.only ?_ (by with_reducible assumption) (by omega))))
            go_wp2_with fail
            go_roundg (gk - 1)
            case rel => exact ⟨i + 1, nx, by omega, by omega, by go_num, rfl, b5, K5⟩
            case measure => omega
        · go_wp2_with fail
          (with_reducible refine (boot_c _ _ _ _ bm2).mono ?_); rintro e w3 ⟨rfl, b3, k3⟩
          have K3 : Ext w w3 := (by repeat (first | with_reducible exact Ext.refl _ | with_reducible assumption | with_reducible apply Ext.alloc | with_reducible apply Ext.drew | with_reducible apply Ext.drewN | (with_reducible refine Ext.set' ?_ (by first | omega | (simp only [World.size_alloc, World.size_setCell]; omega))) | (with_reducible refine Ext.trans ?_ (by with_reducible assumption)) | (with_reducible refine Ext.only ?_ (by with_reducible assumption) (by omega))))
          clear c0' c1' c2' k3 bm2 K2 K
          by_cases hm : m = 0
          · subst hm
            rw [if_pos rfl] at b3
            go_wp2_with fail
            (with_reducible refine (mode_c _ _ _ _ b3).mono ?_); rintro e w4 ⟨rfl, k4⟩
            have b4 := k4.blk b3
            go_wp2_with fail
            (with_reducible refine (node_c _ _ _ _ b4).mono ?_); rintro e w5 ⟨rfl, k5⟩
            have b5 := k5.blk b4
            have K5 : Ext w w5 := (by repeat (first | with_reducible exact Ext.refl _ | with_reducible assumption | with_reducible apply Ext.alloc | with_reducible apply Ext.drew | with_reducible apply Ext.drewN | (with_reducible refine Ext.set' ?_ (by first | omega | (simp only [World.size_alloc, World.size_setCell]; omega))) | (with_reducible refine Ext.trans ?_ (by with_reducible assumption)) | (with_reducible refine Ext.only ?_ (by with_reducible assumption) (by omega))))
            go_wp2_with fail
            go_roundg (gk - 1)
            case rel => exact ⟨i + 1, 127, by omega, by omega, by go_num, rfl, b5, K5⟩
            case measure => omega
          · rw [if_neg hm] at b3
            have e3 : (m == 0) = false := beq_eq_false_iff_ne.2 hm
            clear hm
            go_wp2_with fail
            (with_reducible refine (mode_c _ _ _ _ b3).mono ?_); rintro e w4 ⟨rfl, k4⟩
            have b4 := k4.blk b3
            go_wp2_with fail
            (with_reducible refine (node_c _ _ _ _ b4).mono ?_); rintro e w5 ⟨rfl, k5⟩
            have b5 := k5.blk b4
            have K5 : Ext w w5 := (by repeat (first | with_reducible exact Ext.refl _ | with_reducible assumption | with_reducible apply Ext.alloc | with_reducible apply Ext.drew | with_reducible apply Ext.drewN | (with_reducible refine Ext.set' ?_ (by first | omega | (simp only [World.size_alloc, World.size_setCell]; omega))) | (with_reducible refine Ext.trans ?_ (by with_reducible assumption)) | (with_reducible refine Ext.only ?_ (by with_reducible assumption) (by omega))))
            go_wp2_with fail
            go_roundg (gk - 1)
            case rel => exact ⟨i + 1, m, by omega, by omega, by go_num, rfl, b5, K5⟩
            case measure => omega
      · by_cases hi : i = l.length
        · subst hi
          clear hlt
          go_wp2_with fail
          (with_reducible refine (live_c _).mono ?_); rintro e w2 ⟨rfl, k2⟩
          go_wp2_with fail
          go_ret
          exact ⟨rfl, (by repeat (first | with_reducible exact Ext.refl _ | with_reducible assumption | with_reducible apply Ext.alloc | with_reducible apply Ext.drew | with_reducible apply Ext.drewN | (with_reducible refine Ext.set' ?_ (by first | omega | (simp only [World.size_alloc, World.size_setCell]; omega))) | (with_reducible refine Ext.trans ?_ (by with_reducible assumption)) | (with_reducible refine Ext.only ?_ (by with_reducible assumption) (by omega))))⟩
        · obtain rfl : i = 60 := by omega
          have d : (60 : Int) < (l.length : Int) := by omega
          have d' : decide ((60 : Int) < (l.length : Int)) = true := by simpa using d
          clear hlt hi
          go_wp2_with fail
          (with_reducible refine (live_c _).mono ?_); rintro e w2 ⟨rfl, k2⟩
          go_wp2_with fail
          go_ret
          exact ⟨rfl, (by repeat (first | with_reducible exact Ext.refl _ | with_reducible assumption | with_reducible apply Ext.alloc | with_reducible apply Ext.drew | with_reducible apply Ext.drewN | (with_reducible refine Ext.set' ?_ (by first | omega | (simp only [World.size_alloc, World.size_setCell]; omega))) | (with_reducible refine Ext.trans ?_ (by with_reducible assumption)) | (with_reducible refine Ext.only ?_ (by with_reducible assumption) (by omega))))⟩

theorem dec_deed {W : World} (es : List Value) (hl : es.length = 3) (h : Rd Try.prog W 34 es) : ∃ x : Dd, x.cells = es ∧ True := by
  obtain ⟨bt, hbt⟩ := h.fieldBool Try.underlying34 0 rfl Try.underlying4 (by kernel_rfl)
  have h1 := (h.struct Try.underlying34).2 1 _ rfl
  obtain ⟨v, hv, _⟩ := h1.fieldInt Try.underlying32 0 rfl Try.underlying30 (by kernel_rfl)
  obtain ⟨k, hk, _⟩ := h1.fieldInt Try.underlying32 1 rfl Try.underlying3 (by kernel_rfl)
  refine ⟨⟨bt, v, k⟩, ?_, trivial⟩
  have hC : Try.prog.cellsOf 32 = 2 := by kernel_rfl
  change es[0]? = some (.bool bt) at hbt
  change ((es.drop 1).take (Try.prog.cellsOf 32))[0]? = some (.int .i64 v) at hv
  change ((es.drop 1).take (Try.prog.cellsOf 32))[1]? = some (.int .i64 k) at hk
  rw [hC] at hv hk
  rcases es with _ | ⟨a, _ | ⟨b, _ | ⟨c, _ | _⟩⟩⟩ <;> simp at hl
  simp at hbt hv hk
  simp [Dd.cells, hbt, hv, hk]

theorem obeys_entry (v0 v1 : Value) (W : World) {base : Nat} (h0 : Rd Try.prog W 3 v0.cells.toList) (o0 : Value.okWide Try.prog W .any base 3 v0)
    (h1 : Rd Try.prog W 22 v1.cells.toList) (o1 : Value.okWide Try.prog W .any base 22 v1) :
    Calls Try.prog 3 #[v0, v1] W fun e w' => e = .returned (.bool true) ∧ Below W.heap.size W w' := by
  obtain ⟨n, rfl, _⟩ := opn_int Try.underlying3 h0 o0
  obtain ⟨A, bl, o, l, c, rfl, hlc, _, _, _, hrow, _⟩ := opn_rows Dd.cells (fun _ => True) 3 (by decide) Try.underlying22 (by kernel_rfl) dec_deed h1 o1
  exact obeys_c n A bl o c l W hrow hlc

end Go.Proofs.Yteflckedfnflpaa
