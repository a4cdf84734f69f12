/- Does a table send? -/
import Derived.Test.YtbjfhdkgbhkodaaPSize
set_option linter.unusedSimpArgs false
set_option linter.unusedVariables false
set_option linter.unnecessarySimpa false
namespace Go.Proofs.Ytbjfhdkgbhkodaa
open Go.RowKit Go.Proofs.YtbjfhdkgbhkodaaW.PrintWords
attribute [local go_sem] max2_max min2_min max_of_two min_of_two bxC_ch chguard_eq chguard_ne chbin_eq chbin_ne ldC_new ext_drew' ext_alloc gUpon gStill
attribute [local go_sem ↓] ldC_in bxC_in stC_in

def idB (n : Int) : Bool := decide (0 ≤ n) && decide (n ≤ 2047)
def tkB (n : Int) : Bool := decide (0 ≤ n) && decide (n ≤ 2147483647)
/-- Does it send? -/
def sndB (d t z p q : Int) : Bool := decide (d = 1) && (decide (1 ≤ t) && (decide (t ≤ 65535) && (decide (1 ≤ z) && (decide (z ≤ 8) && (idB p && idB q)))))
def Ch.snd (c : Ch) : Bool := sndB (c.at 0) (c.at 1) c.sz (c.at 3) (c.at 4)
theorem id_c (n : Int) (w : World) : Calls Try.prog 29 #[.int .i64 n] w fun e w' => e = .returned (.bool (idB n)) ∧ Ext w w' := by
  by_cases h0 : 0 ≤ n
  · have e1 : decide (0 ≤ n) = true := by simpa using h0
    by_cases h1 : n ≤ 2047
    · have e2 : decide (n ≤ 2047) = true := by simpa using h1
      have hb : idB n = true := by unfold idB; rw [e1, e2]; rfl
      rw [hb]
      clear h0 h1 hb
      go_enter Try.func29, Try.ntmps29
      go_wp2_with fail
      go_ret
      exact ⟨rfl, (by repeat (first | with_reducible exact Ext.refl _ | with_reducible assumption | with_reducible apply Ext.alloc | with_reducible apply Ext.drew | with_reducible apply Ext.drewN | (with_reducible refine Ext.set' ?_ (by first | omega | (simp only [World.size_alloc, World.size_setCell]; omega))) | (with_reducible refine Ext.trans ?_ (by with_reducible assumption)) | (with_reducible refine Ext.only ?_ (by with_reducible assumption) (by omega))))⟩
    · have e2 : decide (n ≤ 2047) = false := by simpa using h1
      have hb : idB n = false := by unfold idB; rw [e1, e2]; rfl
      rw [hb]
      clear h0 h1 hb
      go_enter Try.func29, Try.ntmps29
      go_wp2_with fail
      go_ret
      exact ⟨rfl, (by repeat (first | with_reducible exact Ext.refl _ | with_reducible assumption | with_reducible apply Ext.alloc | with_reducible apply Ext.drew | with_reducible apply Ext.drewN | (with_reducible refine Ext.set' ?_ (by first | omega | (simp only [World.size_alloc, World.size_setCell]; omega))) | (with_reducible refine Ext.trans ?_ (by with_reducible assumption)) | (with_reducible refine Ext.only ?_ (by with_reducible assumption) (by omega))))⟩
  · have e1 : decide (0 ≤ n) = false := by simpa using h0
    have hb : idB n = false := by unfold idB; rw [e1]; rfl
    rw [hb]
    clear h0 hb
    go_enter Try.func29, Try.ntmps29
    go_wp2_with fail
    go_ret
    exact ⟨rfl, (by repeat (first | with_reducible exact Ext.refl _ | with_reducible assumption | with_reducible apply Ext.alloc | with_reducible apply Ext.drew | with_reducible apply Ext.drewN | (with_reducible refine Ext.set' ?_ (by first | omega | (simp only [World.size_alloc, World.size_setCell]; omega))) | (with_reducible refine Ext.trans ?_ (by with_reducible assumption)) | (with_reducible refine Ext.only ?_ (by with_reducible assumption) (by omega))))⟩
theorem tick_c (n : Int) (w : World) : Calls Try.prog 22 #[.int .i64 n] w fun e w' => e = .returned (.bool (tkB n)) ∧ Ext w w' := by
  by_cases h0 : 0 ≤ n
  · have e1 : decide (0 ≤ n) = true := by simpa using h0
    by_cases h1 : n ≤ 2147483647
    · have e2 : decide (n ≤ 2147483647) = true := by simpa using h1
      have hb : tkB n = true := by unfold tkB; rw [e1, e2]; rfl
      rw [hb]
      clear h0 h1 hb
      go_enter Try.func22, Try.ntmps22
      go_wp2_with fail
      go_ret
      exact ⟨rfl, (by repeat (first | with_reducible exact Ext.refl _ | with_reducible assumption | with_reducible apply Ext.alloc | with_reducible apply Ext.drew | with_reducible apply Ext.drewN | (with_reducible refine Ext.set' ?_ (by first | omega | (simp only [World.size_alloc, World.size_setCell]; omega))) | (with_reducible refine Ext.trans ?_ (by with_reducible assumption)) | (with_reducible refine Ext.only ?_ (by with_reducible assumption) (by omega))))⟩
    · have e2 : decide (n ≤ 2147483647) = false := by simpa using h1
      have hb : tkB n = false := by unfold tkB; rw [e1, e2]; rfl
      rw [hb]
      clear h0 h1 hb
      go_enter Try.func22, Try.ntmps22
      go_wp2_with fail
      go_ret
      exact ⟨rfl, (by repeat (first | with_reducible exact Ext.refl _ | with_reducible assumption | with_reducible apply Ext.alloc | with_reducible apply Ext.drew | with_reducible apply Ext.drewN | (with_reducible refine Ext.set' ?_ (by first | omega | (simp only [World.size_alloc, World.size_setCell]; omega))) | (with_reducible refine Ext.trans ?_ (by with_reducible assumption)) | (with_reducible refine Ext.only ?_ (by with_reducible assumption) (by omega))))⟩
  · have e1 : decide (0 ≤ n) = false := by simpa using h0
    have hb : tkB n = false := by unfold tkB; rw [e1]; rfl
    rw [hb]
    clear h0 hb
    go_enter Try.func22, Try.ntmps22
    go_wp2_with fail
    go_ret
    exact ⟨rfl, (by repeat (first | with_reducible exact Ext.refl _ | with_reducible assumption | with_reducible apply Ext.alloc | with_reducible apply Ext.drew | with_reducible apply Ext.drewN | (with_reducible refine Ext.set' ?_ (by first | omega | (simp only [World.size_alloc, World.size_setCell]; omega))) | (with_reducible refine Ext.trans ?_ (by with_reducible assumption)) | (with_reducible refine Ext.only ?_ (by with_reducible assumption) (by omega))))⟩

set_option maxRecDepth 100000 in
set_option maxHeartbeats 4000000 in
theorem psends_c (c : Ch) (w : World) : Calls Try.prog 18 #[c.val] w fun e w' => e = .returned (.bool c.snd) ∧ Ext w w' := by
  have HB := hid (Blk.new w c.cells CT)
  have PZ := hid (fun w => psize_c c w)
  have HC := hid (fun w' (k : Ext (w.alloc (.cells c.cells CT)) w') j (hj : j < 30) => (k.blk HB.out).chat hj)
  have LC := hid (fun w' (k : Ext (w.alloc (.cells c.cells CT)) w') => ldC_all HB.out w' k)
  have K0 : Ext w (w.alloc (.cells c.cells CT)) := (by repeat (first | with_reducible exact Ext.refl _ | with_reducible assumption | with_reducible apply Ext.alloc | with_reducible apply Ext.drew | with_reducible apply Ext.drewN | (with_reducible refine Ext.set' ?_ (by first | omega | (simp only [World.size_alloc, World.size_setCell]; omega))) | (with_reducible refine Ext.trans ?_ (by with_reducible assumption)) | (with_reducible refine Ext.only ?_ (by with_reducible assumption) (by omega))))
  have E0 := Ext.refl (w.alloc (.cells c.cells CT))
  have a0 := HC.out _ E0 0 (by omega)
  have a1 := HC.out _ E0 1 (by omega)
  have A0 := hid (fun w' k => HC.out w' k 0 (by omega))
  have A1 := hid (fun w' k => HC.out w' k 1 (by omega))
  have A3 := hid (fun w' k => HC.out w' k 3 (by omega))
  have A4 := hid (fun w' k => HC.out w' k 4 (by omega))
  unfold Ch.snd
  generalize c.sz = z at *
  generalize c.at 0 = d at *
  generalize c.at 1 = t at *
  generalize c.at 3 = p at *
  generalize c.at 4 = q at *
  have IP := hid (fun w => id_c p w)
  have IQ := hid (fun w => id_c q w)
  clear HC
  by_cases q0 : d = 1
  · have b0 : (d == 1) = true := by simpa using q0
    by_cases q1 : 1 ≤ t
    · have b1 : decide (1 ≤ t) = true := by simpa using q1
      by_cases q2 : t ≤ 65535
      · have b2 : decide (t ≤ 65535) = true := by simpa using q2
        by_cases q3 : 1 ≤ z
        · have b3 : decide (1 ≤ z) = true := by simpa using q3
          by_cases q4 : z ≤ 8
          · have b4 : decide (z ≤ 8) = true := by simpa using q4
            by_cases q5 : idB p = true
            · have b5 : Is (idB p) true := Is.mk (by simpa using q5)
              by_cases q6 : idB q = true
              · have b6 : Is (idB q) true := Is.mk (by simpa using q6)
                have hR : sndB d t z p q = true := by unfold sndB; simp [q0, q1, q2, q3, q4, q5, q6]
                rw [hR]
                rw [b5.eq] at IP
                rw [b6.eq] at IQ
                clear hR q0 q1 q2 q3 q4 q5 q6 a0 a1
                go_enter Try.func18, Try.ntmps18
                go_wp2_with fail
                (with_reducible refine (PZ.out _).mono ?_); rintro e w1 ⟨rfl, k1⟩
                have K1 : Ext w w1 := K0.trans k1
                have f0 := A0.out w1 k1
                have f1 := A1.out w1 k1
                have f3 := A3.out w1 k1
                have f4 := A4.out w1 k1
                go_wp2_with fail
                (with_reducible refine (IP.out _).mono ?_); rintro e w2 ⟨rfl, k2⟩
                have K2 := K1.trans k2
                have g4 := A4.out w2 (k1.trans k2)
                go_wp2_with fail
                (with_reducible refine (IQ.out _).mono ?_); rintro e w3 ⟨rfl, k3⟩
                have K3 := K2.trans k3
                go_wp2_with fail
                go_ret
                exact ⟨rfl, K3⟩
              · have b6 : Is (idB q) false := Is.mk (by simpa using q6)
                have hR : sndB d t z p q = false := by unfold sndB; simp [q0, q1, q2, q3, q4, q5, q6]
                rw [hR]
                rw [b5.eq] at IP
                rw [b6.eq] at IQ
                clear hR q0 q1 q2 q3 q4 q5 q6 a0 a1
                go_enter Try.func18, Try.ntmps18
                go_wp2_with fail
                (with_reducible refine (PZ.out _).mono ?_); rintro e w1 ⟨rfl, k1⟩
                have K1 : Ext w w1 := K0.trans k1
                have f0 := A0.out w1 k1
                have f1 := A1.out w1 k1
                have f3 := A3.out w1 k1
                have f4 := A4.out w1 k1
                go_wp2_with fail
                (with_reducible refine (IP.out _).mono ?_); rintro e w2 ⟨rfl, k2⟩
                have K2 := K1.trans k2
                have g4 := A4.out w2 (k1.trans k2)
                go_wp2_with fail
                (with_reducible refine (IQ.out _).mono ?_); rintro e w3 ⟨rfl, k3⟩
                have K3 := K2.trans k3
                go_wp2_with fail
                go_ret
                exact ⟨rfl, K3⟩
            · have b5 : Is (idB p) false := Is.mk (by simpa using q5)
              have hR : sndB d t z p q = false := by unfold sndB; simp [q0, q1, q2, q3, q4, q5]
              rw [hR]
              rw [b5.eq] at IP
              clear hR q0 q1 q2 q3 q4 q5 a0 a1
              go_enter Try.func18, Try.ntmps18
              go_wp2_with fail
              (with_reducible refine (PZ.out _).mono ?_); rintro e w1 ⟨rfl, k1⟩
              have K1 : Ext w w1 := K0.trans k1
              have f0 := A0.out w1 k1
              have f1 := A1.out w1 k1
              have f3 := A3.out w1 k1
              have f4 := A4.out w1 k1
              go_wp2_with fail
              (with_reducible refine (IP.out _).mono ?_); rintro e w2 ⟨rfl, k2⟩
              have K2 := K1.trans k2
              have g4 := A4.out w2 (k1.trans k2)
              go_wp2_with fail
              go_ret
              exact ⟨rfl, K2⟩
          · have b4 : decide (z ≤ 8) = false := by simpa using q4
            have hR : sndB d t z p q = false := by unfold sndB; simp [q0, q1, q2, q3, q4]
            rw [hR]
            clear hR q0 q1 q2 q3 q4 a0 a1
            go_enter Try.func18, Try.ntmps18
            go_wp2_with fail
            (with_reducible refine (PZ.out _).mono ?_); rintro e w1 ⟨rfl, k1⟩
            have K1 : Ext w w1 := K0.trans k1
            have f0 := A0.out w1 k1
            have f1 := A1.out w1 k1
            have f3 := A3.out w1 k1
            have f4 := A4.out w1 k1
            go_wp2_with fail
            go_ret
            exact ⟨rfl, K1⟩
        · have b3 : decide (1 ≤ z) = false := by simpa using q3
          have hR : sndB d t z p q = false := by unfold sndB; simp [q0, q1, q2, q3]
          rw [hR]
          clear hR q0 q1 q2 q3 a0 a1
          go_enter Try.func18, Try.ntmps18
          go_wp2_with fail
          (with_reducible refine (PZ.out _).mono ?_); rintro e w1 ⟨rfl, k1⟩
          have K1 : Ext w w1 := K0.trans k1
          have f0 := A0.out w1 k1
          have f1 := A1.out w1 k1
          have f3 := A3.out w1 k1
          have f4 := A4.out w1 k1
          go_wp2_with fail
          go_ret
          exact ⟨rfl, K1⟩
      · have b2 : decide (t ≤ 65535) = false := by simpa using q2
        have hR : sndB d t z p q = false := by unfold sndB; simp [q0, q1, q2]
        rw [hR]
        clear hR q0 q1 q2 a0 a1
        go_enter Try.func18, Try.ntmps18
        go_wp2_with fail
        (with_reducible refine (PZ.out _).mono ?_); rintro e w1 ⟨rfl, k1⟩
        have K1 : Ext w w1 := K0.trans k1
        have f0 := A0.out w1 k1
        have f1 := A1.out w1 k1
        have f3 := A3.out w1 k1
        have f4 := A4.out w1 k1
        go_wp2_with fail
        go_ret
        exact ⟨rfl, K1⟩
    · have b1 : decide (1 ≤ t) = false := by simpa using q1
      have hR : sndB d t z p q = false := by unfold sndB; simp [q0, q1]
      rw [hR]
      clear hR q0 q1 a0 a1
      go_enter Try.func18, Try.ntmps18
      go_wp2_with fail
      (with_reducible refine (PZ.out _).mono ?_); rintro e w1 ⟨rfl, k1⟩
      have K1 : Ext w w1 := K0.trans k1
      have f0 := A0.out w1 k1
      have f1 := A1.out w1 k1
      have f3 := A3.out w1 k1
      have f4 := A4.out w1 k1
      go_wp2_with fail
      go_ret
      exact ⟨rfl, K1⟩
  · have b0 : (d == 1) = false := by simpa using q0
    have hR : sndB d t z p q = false := by unfold sndB; simp [q0]
    rw [hR]
    clear hR q0 a0 a1
    go_enter Try.func18, Try.ntmps18
    go_wp2_with fail
    (with_reducible refine (PZ.out _).mono ?_); rintro e w1 ⟨rfl, k1⟩
    have K1 : Ext w w1 := K0.trans k1
    have f0 := A0.out w1 k1
    have f1 := A1.out w1 k1
    have f3 := A3.out w1 k1
    have f4 := A4.out w1 k1
    go_wp2_with fail
    go_ret
    exact ⟨rfl, K1⟩

set_option maxRecDepth 100000 in
set_option maxHeartbeats 4000000 in
theorem rsends_c (c : Ch) (w : World) : Calls Try.prog 16 #[c.val] w fun e w' => e = .returned (.bool c.snd) ∧ Ext w w' := by
  have HB := hid (Blk.new w c.cells CT)
  have PZ := hid (fun w => rsize_c c w)
  have HC := hid (fun w' (k : Ext (w.alloc (.cells c.cells CT)) w') j (hj : j < 30) => (k.blk HB.out).chat hj)
  have LC := hid (fun w' (k : Ext (w.alloc (.cells c.cells CT)) w') => ldC_all HB.out w' k)
  have K0 : Ext w (w.alloc (.cells c.cells CT)) := (by repeat (first | with_reducible exact Ext.refl _ | with_reducible assumption | with_reducible apply Ext.alloc | with_reducible apply Ext.drew | with_reducible apply Ext.drewN | (with_reducible refine Ext.set' ?_ (by first | omega | (simp only [World.size_alloc, World.size_setCell]; omega))) | (with_reducible refine Ext.trans ?_ (by with_reducible assumption)) | (with_reducible refine Ext.only ?_ (by with_reducible assumption) (by omega))))
  have E0 := Ext.refl (w.alloc (.cells c.cells CT))
  have a0 := HC.out _ E0 0 (by omega)
  have a1 := HC.out _ E0 1 (by omega)
  have A0 := hid (fun w' k => HC.out w' k 0 (by omega))
  have A1 := hid (fun w' k => HC.out w' k 1 (by omega))
  have A3 := hid (fun w' k => HC.out w' k 3 (by omega))
  have A4 := hid (fun w' k => HC.out w' k 4 (by omega))
  unfold Ch.snd
  generalize c.sz = z at *
  generalize c.at 0 = d at *
  generalize c.at 1 = t at *
  generalize c.at 3 = p at *
  generalize c.at 4 = q at *
  clear HC
  by_cases q0 : d = 1
  · have b0 : (d != 1) = false := by simpa using q0
    by_cases q1 : 1 ≤ t
    · have b1 : decide (t < 1) = false := by simpa using q1
      by_cases q2 : t ≤ 65535
      · have b2 : decide (65535 < t) = false := by simpa using q2
        by_cases q3 : 1 ≤ z
        · have b3 : decide (z < 1) = false := by simpa using q3
          by_cases q4 : z ≤ 8
          · have b4 : decide (8 < z) = false := by simpa using q4
            by_cases q5 : 0 ≤ p
            · have b5 : decide (0 ≤ p) = true := by simpa using q5
              by_cases q6 : p ≤ 2047
              · have b6 : decide (p ≤ 2047) = true := by simpa using q6
                by_cases q7 : 0 ≤ q
                · have b7 : decide (0 ≤ q) = true := by simpa using q7
                  by_cases q8 : q ≤ 2047
                  · have b8 : decide (q ≤ 2047) = true := by simpa using q8
                    have hR : sndB d t z p q = true := by unfold sndB idB; simp [q0, q1, q2, q3, q4, q5, q6, q7, q8]
                    rw [hR]
                    clear hR q0 q1 q2 q3 q4 q5 q6 q7 q8
                    go_enter Try.func16, Try.ntmps16
                    go_wp2_with fail
                    (with_reducible refine (PZ.out _).mono ?_); rintro e w1 ⟨rfl, k1⟩
                    have K1 : Ext w w1 := K0.trans k1
                    have l1 := LC.out w1 k1
                    go_wp2_with fail
                    (with_reducible refine (PZ.out _).mono ?_); rintro e w2 ⟨rfl, k2⟩
                    have K2 := K1.trans k2
                    have f3 := A3.out w2 (k1.trans k2)
                    have f4 := A4.out w2 (k1.trans k2)
                    go_wp2_with fail
                    go_ret
                    exact ⟨rfl, K2⟩
                  · have b8 : decide (q ≤ 2047) = false := by simpa using q8
                    have hR : sndB d t z p q = false := by unfold sndB idB; simp [q0, q1, q2, q3, q4, q5, q6, q7, q8]
                    rw [hR]
                    clear hR q0 q1 q2 q3 q4 q5 q6 q7 q8
                    go_enter Try.func16, Try.ntmps16
                    go_wp2_with fail
                    (with_reducible refine (PZ.out _).mono ?_); rintro e w1 ⟨rfl, k1⟩
                    have K1 : Ext w w1 := K0.trans k1
                    have l1 := LC.out w1 k1
                    go_wp2_with fail
                    (with_reducible refine (PZ.out _).mono ?_); rintro e w2 ⟨rfl, k2⟩
                    have K2 := K1.trans k2
                    have f3 := A3.out w2 (k1.trans k2)
                    have f4 := A4.out w2 (k1.trans k2)
                    go_wp2_with fail
                    go_ret
                    exact ⟨rfl, K2⟩
                · have b7 : decide (0 ≤ q) = false := by simpa using q7
                  have hR : sndB d t z p q = false := by unfold sndB idB; simp [q0, q1, q2, q3, q4, q5, q6, q7]
                  rw [hR]
                  clear hR q0 q1 q2 q3 q4 q5 q6 q7
                  go_enter Try.func16, Try.ntmps16
                  go_wp2_with fail
                  (with_reducible refine (PZ.out _).mono ?_); rintro e w1 ⟨rfl, k1⟩
                  have K1 : Ext w w1 := K0.trans k1
                  have l1 := LC.out w1 k1
                  go_wp2_with fail
                  (with_reducible refine (PZ.out _).mono ?_); rintro e w2 ⟨rfl, k2⟩
                  have K2 := K1.trans k2
                  have f3 := A3.out w2 (k1.trans k2)
                  have f4 := A4.out w2 (k1.trans k2)
                  go_wp2_with fail
                  go_ret
                  exact ⟨rfl, K2⟩
              · have b6 : decide (p ≤ 2047) = false := by simpa using q6
                have hR : sndB d t z p q = false := by unfold sndB idB; simp [q0, q1, q2, q3, q4, q5, q6]
                rw [hR]
                clear hR q0 q1 q2 q3 q4 q5 q6
                go_enter Try.func16, Try.ntmps16
                go_wp2_with fail
                (with_reducible refine (PZ.out _).mono ?_); rintro e w1 ⟨rfl, k1⟩
                have K1 : Ext w w1 := K0.trans k1
                have l1 := LC.out w1 k1
                go_wp2_with fail
                (with_reducible refine (PZ.out _).mono ?_); rintro e w2 ⟨rfl, k2⟩
                have K2 := K1.trans k2
                have f3 := A3.out w2 (k1.trans k2)
                have f4 := A4.out w2 (k1.trans k2)
                go_wp2_with fail
                go_ret
                exact ⟨rfl, K2⟩
            · have b5 : decide (0 ≤ p) = false := by simpa using q5
              have hR : sndB d t z p q = false := by unfold sndB idB; simp [q0, q1, q2, q3, q4, q5]
              rw [hR]
              clear hR q0 q1 q2 q3 q4 q5
              go_enter Try.func16, Try.ntmps16
              go_wp2_with fail
              (with_reducible refine (PZ.out _).mono ?_); rintro e w1 ⟨rfl, k1⟩
              have K1 : Ext w w1 := K0.trans k1
              have l1 := LC.out w1 k1
              go_wp2_with fail
              (with_reducible refine (PZ.out _).mono ?_); rintro e w2 ⟨rfl, k2⟩
              have K2 := K1.trans k2
              have f3 := A3.out w2 (k1.trans k2)
              have f4 := A4.out w2 (k1.trans k2)
              go_wp2_with fail
              go_ret
              exact ⟨rfl, K2⟩
          · have b4 : decide (8 < z) = true := by simpa using q4
            have hR : sndB d t z p q = false := by unfold sndB idB; simp [q0, q1, q2, q3, q4]
            rw [hR]
            clear hR q0 q1 q2 q3 q4
            go_enter Try.func16, Try.ntmps16
            go_wp2_with fail
            (with_reducible refine (PZ.out _).mono ?_); rintro e w1 ⟨rfl, k1⟩
            have K1 : Ext w w1 := K0.trans k1
            have l1 := LC.out w1 k1
            go_wp2_with fail
            (with_reducible refine (PZ.out _).mono ?_); rintro e w2 ⟨rfl, k2⟩
            have K2 := K1.trans k2
            have f3 := A3.out w2 (k1.trans k2)
            have f4 := A4.out w2 (k1.trans k2)
            go_wp2_with fail
            go_ret
            exact ⟨rfl, K2⟩
        · have b3 : decide (z < 1) = true := by simpa using q3
          have hR : sndB d t z p q = false := by unfold sndB idB; simp [q0, q1, q2, q3]
          rw [hR]
          clear hR q0 q1 q2 q3
          go_enter Try.func16, Try.ntmps16
          go_wp2_with fail
          (with_reducible refine (PZ.out _).mono ?_); rintro e w1 ⟨rfl, k1⟩
          have K1 : Ext w w1 := K0.trans k1
          have l1 := LC.out w1 k1
          go_wp2_with fail
          go_ret
          exact ⟨rfl, K1⟩
      · have b2 : decide (65535 < t) = true := by simpa using q2
        have hR : sndB d t z p q = false := by unfold sndB idB; simp [q0, q1, q2]
        rw [hR]
        clear hR q0 q1 q2
        go_enter Try.func16, Try.ntmps16
        go_wp2_with fail
        go_ret
        exact ⟨rfl, K0⟩
    · have b1 : decide (t < 1) = true := by simpa using q1
      have hR : sndB d t z p q = false := by unfold sndB idB; simp [q0, q1]
      rw [hR]
      clear hR q0 q1
      go_enter Try.func16, Try.ntmps16
      go_wp2_with fail
      go_ret
      exact ⟨rfl, K0⟩
  · have b0 : (d != 1) = true := by simpa using q0
    have hR : sndB d t z p q = false := by unfold sndB idB; simp [q0]
    rw [hR]
    clear hR q0
    go_enter Try.func16, Try.ntmps16
    go_wp2_with fail
    go_ret
    exact ⟨rfl, K0⟩

end Go.Proofs.Ytbjfhdkgbhkodaa
