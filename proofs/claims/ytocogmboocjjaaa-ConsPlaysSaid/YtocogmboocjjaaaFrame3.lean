/- The reference's Check of a frame (tripwireref04.Check): the same number. -/
import Derived.Test.YtocogmboocjjaaaFrame2
set_option linter.unusedSimpArgs false
set_option linter.unusedVariables false
set_option linter.unnecessarySimpa false
namespace Go.Proofs.Ytocogmboocjjaaa
open Go.RowKit Go.Proofs.YtocogmboocjjaaaW.PrintWords
attribute [local go_sem] max2_max min2_min max_of_two min_of_two
attribute [local go_sem ↓] run_eq_fr

theorem chk_bad {f : Fr} (h1 : ¬ (f.id < 0 ∨ 2047 < f.id)) (h2 : ¬ (f.len < 0 ∨ 8 < f.len)) {i : Nat} (hi : i < 8) (h3 : f.rtr = true ∨ f.len ≤ i) (h4 : f.data.getD i 0 ≠ 0) : f.chk = 4 := by
  unfold Fr.chk
  rw [if_neg h1, if_neg h2, if_neg]
  intro h
  have e : f.plain = f := of_decide_eq_true h
  apply h4
  rw [← e]
  obtain ⟨id, rtr, len, d0, d1, d2, d3, d4, d5, d6, d7⟩ := f
  simp only at h3
  unfold Fr.plain
  by_cases hr : rtr = true
  · rw [if_pos hr]
    rcases (by omega : i = 0 ∨ i = 1 ∨ i = 2 ∨ i = 3 ∨ i = 4 ∨ i = 5 ∨ i = 6 ∨ i = 7) with rfl | rfl | rfl | rfl | rfl | rfl | rfl | rfl <;> rfl
  · rw [if_neg hr]
    have h3 : len ≤ i := by rcases h3 with h | h; exact absurd h hr; exact h
    rcases (by omega : i = 0 ∨ i = 1 ∨ i = 2 ∨ i = 3 ∨ i = 4 ∨ i = 5 ∨ i = 6 ∨ i = 7) with rfl | rfl | rfl | rfl | rfl | rfl | rfl | rfl
    all_goals
      simp only [Fr.data, List.getD_cons_zero, List.getD_cons_succ]
      exact if_pos (by omega)
theorem chk_good {f : Fr} (h1 : ¬ (f.id < 0 ∨ 2047 < f.id)) (h2 : ¬ (f.len < 0 ∨ 8 < f.len)) (h : ∀ i : Nat, i < 8 → (f.rtr = true ∨ f.len ≤ i) → f.data.getD i 0 = 0) : f.chk = 0 := by
  unfold Fr.chk
  rw [if_neg h1, if_neg h2, if_pos]
  apply decide_eq_true
  obtain ⟨id, rtr, len, d0, d1, d2, d3, d4, d5, d6, d7⟩ := f
  simp only at h
  have g0 := h 0 (by omega)
  have g1 := h 1 (by omega)
  have g2 := h 2 (by omega)
  have g3 := h 3 (by omega)
  have g4 := h 4 (by omega)
  have g5 := h 5 (by omega)
  have g6 := h 6 (by omega)
  have g7 := h 7 (by omega)
  simp only [Fr.data, List.getD_cons_zero, List.getD_cons_succ] at g0 g1 g2 g3 g4 g5 g6 g7
  unfold Fr.plain
  by_cases hr : rtr = true
  · rw [if_pos hr]
    rw [g0 (.inl hr), g1 (.inl hr), g2 (.inl hr), g3 (.inl hr), g4 (.inl hr), g5 (.inl hr), g6 (.inl hr), g7 (.inl hr)]
  · rw [if_neg hr]
    have key : ∀ (k : Nat) (d : Int), (len ≤ k → d = 0) → (if len ≤ (k : Int) then 0 else d) = d := by
      intro k d hk
      by_cases hc : len ≤ k
      · rw [if_pos hc, hk hc]
      · rw [if_neg hc]
    rw [Fr.mk.injEq]
    refine ⟨rfl, rfl, rfl, key 0 d0 (fun q => g0 (.inr q)), key 1 d1 (fun q => g1 (.inr q)), key 2 d2 (fun q => g2 (.inr q)), key 3 d3 (fun q => g3 (.inr q)), key 4 d4 (fun q => g4 (.inr q)), key 5 d5 (fun q => g5 (.inr q)), key 6 d6 (fun q => g6 (.inr q)), key 7 d7 (fun q => g7 (.inr q))⟩
theorem Fr.cellAt {w : World} {b : Nat} {f : Fr} (h : Blk w b f.cells FT) {i : Nat} (hi : i < 8) : w.cell? ⟨b, 3 + i, none⟩ = some (.int .u8 (f.data.getD i 0)) := by
  obtain ⟨id, rtr, len, d0, d1, d2, d3, d4, d5, d6, d7⟩ := f
  simp only [Fr.cells] at h
  obtain ⟨pc0, pc1, pc2, pc3, pc4, pc5, pc6, pc7, pc8, pc9, pc10, pf0, pf1, pf2, pf3, pf4, pf5, pf6, pf7, pf8, pf9, pf10⟩ := Blk.cells11 h
  clear pf0 pf1 pf2 pf3 pf4 pf5 pf6 pf7 pf8 pf9 pf10
  rcases (by omega : i = 0 ∨ i = 1 ∨ i = 2 ∨ i = 3 ∨ i = 4 ∨ i = 5 ∨ i = 6 ∨ i = 7) with rfl | rfl | rfl | rfl | rfl | rfl | rfl | rfl <;> assumption

set_option maxHeartbeats 2000000 in
theorem rcheck_c (id : Int) (rtr : Bool) (len d0 d1 d2 d3 d4 d5 d6 d7 : Int) (w : World) :
    Calls Try.prog 16 #[.agg #[.int .i64 id, .bool rtr, .int .i64 len, .int .u8 d0, .int .u8 d1, .int .u8 d2, .int .u8 d3, .int .u8 d4, .int .u8 d5, .int .u8 d6, .int .u8 d7]] w fun e w' => e = .returned (.int .i64 (Fr.chk (⟨id, rtr, len, d0, d1, d2, d3, d4, d5, d6, d7⟩ : Fr))) ∧ Ext w w' := by
  by_cases hid : id < 0 ∨ 2047 < id
  · have hr : Fr.chk (⟨id, rtr, len, d0, d1, d2, d3, d4, d5, d6, d7⟩ : Fr) = 3 := if_pos hid
    rw [hr]
    clear hr
    rcases hid with h | h
    · go_enter Try.func16, Try.ntmps16
      go_wp2_with fail
      go_ret
      exact ⟨rfl, (by repeat (first | with_reducible exact Ext.refl _ | with_reducible assumption | with_reducible apply Ext.alloc | with_reducible apply Ext.drew | with_reducible apply Ext.drewN | (with_reducible refine Ext.set' ?_ (by first | omega | (simp only [World.size_alloc, World.size_setCell]; omega))) | (with_reducible refine Ext.trans ?_ (by with_reducible assumption)) | (with_reducible refine Ext.only ?_ (by with_reducible assumption) (by omega))))⟩
    · have h' : ¬ id < 0 := by omega
      go_enter Try.func16, Try.ntmps16
      go_wp2_with fail
      go_ret
      exact ⟨rfl, (by repeat (first | with_reducible exact Ext.refl _ | with_reducible assumption | with_reducible apply Ext.alloc | with_reducible apply Ext.drew | with_reducible apply Ext.drewN | (with_reducible refine Ext.set' ?_ (by first | omega | (simp only [World.size_alloc, World.size_setCell]; omega))) | (with_reducible refine Ext.trans ?_ (by with_reducible assumption)) | (with_reducible refine Ext.only ?_ (by with_reducible assumption) (by omega))))⟩
  · by_cases hlen : len < 0 ∨ 8 < len
    · have hr : Fr.chk (⟨id, rtr, len, d0, d1, d2, d3, d4, d5, d6, d7⟩ : Fr) = 11 := by unfold Fr.chk; rw [if_neg hid, if_pos hlen]
      rw [hr]
      clear hr
      obtain ⟨hi0, hi1⟩ : ¬ id < 0 ∧ ¬ 2047 < id := ⟨fun h => hid (.inl h), fun h => hid (.inr h)⟩
      clear hid
      rcases hlen with h | h
      · go_enter Try.func16, Try.ntmps16
        go_wp2_with fail
        go_ret
        exact ⟨rfl, (by repeat (first | with_reducible exact Ext.refl _ | with_reducible assumption | with_reducible apply Ext.alloc | with_reducible apply Ext.drew | with_reducible apply Ext.drewN | (with_reducible refine Ext.set' ?_ (by first | omega | (simp only [World.size_alloc, World.size_setCell]; omega))) | (with_reducible refine Ext.trans ?_ (by with_reducible assumption)) | (with_reducible refine Ext.only ?_ (by with_reducible assumption) (by omega))))⟩
      · have h' : ¬ len < 0 := by omega
        go_enter Try.func16, Try.ntmps16
        go_wp2_with fail
        go_ret
        exact ⟨rfl, (by repeat (first | with_reducible exact Ext.refl _ | with_reducible assumption | with_reducible apply Ext.alloc | with_reducible apply Ext.drew | with_reducible apply Ext.drewN | (with_reducible refine Ext.set' ?_ (by first | omega | (simp only [World.size_alloc, World.size_setCell]; omega))) | (with_reducible refine Ext.trans ?_ (by with_reducible assumption)) | (with_reducible refine Ext.only ?_ (by with_reducible assumption) (by omega))))⟩
    · have hbad : ∀ i : Nat, i < 8 → (rtr = true ∨ len ≤ i) → [d0, d1, d2, d3, d4, d5, d6, d7].getD i 0 ≠ 0 → Fr.chk (⟨id, rtr, len, d0, d1, d2, d3, d4, d5, d6, d7⟩ : Fr) = 4 := fun i hi h3 h4 => chk_bad (f := (⟨id, rtr, len, d0, d1, d2, d3, d4, d5, d6, d7⟩ : Fr)) hid hlen hi h3 h4
      have hgood : (∀ i : Nat, i < 8 → (rtr = true ∨ len ≤ i) → [d0, d1, d2, d3, d4, d5, d6, d7].getD i 0 = 0) → Fr.chk (⟨id, rtr, len, d0, d1, d2, d3, d4, d5, d6, d7⟩ : Fr) = 0 := fun h => chk_good (f := (⟨id, rtr, len, d0, d1, d2, d3, d4, d5, d6, d7⟩ : Fr)) hid hlen h
      have hcell : ∀ i : Nat, i < 8 → (w.alloc (.cells #[.int .i64 id, .bool rtr, .int .i64 len, .int .u8 d0, .int .u8 d1, .int .u8 d2, .int .u8 d3, .int .u8 d4, .int .u8 d5, .int .u8 d6, .int .u8 d7] FT)).cell? ⟨w.heap.size, 3 + i, none⟩ = some (.int .u8 ([d0, d1, d2, d3, d4, d5, d6, d7].getD i 0)) := fun i hi => Fr.cellAt (f := (⟨id, rtr, len, d0, d1, d2, d3, d4, d5, d6, d7⟩ : Fr)) (Blk.new w #[.int .i64 id, .bool rtr, .int .i64 len, .int .u8 d0, .int .u8 d1, .int .u8 d2, .int .u8 d3, .int .u8 d4, .int .u8 d5, .int .u8 d6, .int .u8 d7] FT) hi
      have HBAD := Go.Proofs.Ytocogmboocjjaaa.hid hbad
      have HGOOD := Go.Proofs.Ytocogmboocjjaaa.hid hgood
      have HCELL := Go.Proofs.Ytocogmboocjjaaa.hid hcell
      clear hbad hgood hcell
      obtain ⟨hi0, hi1⟩ : ¬ id < 0 ∧ ¬ 2047 < id := ⟨fun h => hid (.inl h), fun h => hid (.inr h)⟩
      obtain ⟨hl0, hl1⟩ : ¬ len < 0 ∧ ¬ 8 < len := ⟨fun h => hlen (.inl h), fun h => hlen (.inr h)⟩
      clear hid hlen
      have b0 := Blk.new w #[.int .i64 id, .bool rtr, .int .i64 len, .int .u8 d0, .int .u8 d1, .int .u8 d2, .int .u8 d3, .int .u8 d4, .int .u8 d5, .int .u8 d6, .int .u8 d7] FT
      obtain ⟨W, hW⟩ : ∃ W, W = w.alloc (.cells #[.int .i64 id, .bool rtr, .int .i64 len, .int .u8 d0, .int .u8 d1, .int .u8 d2, .int .u8 d3, .int .u8 d4, .int .u8 d5, .int .u8 d6, .int .u8 d7] FT) := ⟨_, rfl⟩
      have KE : Ext w W := by rw [hW]; exact (by repeat (first | with_reducible exact Ext.refl _ | with_reducible assumption | with_reducible apply Ext.alloc | with_reducible apply Ext.drew | with_reducible apply Ext.drewN | (with_reducible refine Ext.set' ?_ (by first | omega | (simp only [World.size_alloc, World.size_setCell]; omega))) | (with_reducible refine Ext.trans ?_ (by with_reducible assumption)) | (with_reducible refine Ext.only ?_ (by with_reducible assumption) (by omega))))
      rw [← hW] at b0 HCELL
      obtain ⟨pc0, pc1, pc2, pc3, pc4, pc5, pc6, pc7, pc8, pc9, pc10, pf0, pf1, pf2, pf3, pf4, pf5, pf6, pf7, pf8, pf9, pf10⟩ := Blk.cells11 b0
      clear pf0 pf1 pf2 pf3 pf4 pf5 pf6 pf7 pf8 pf9 pf10
      clear b0
      obtain ⟨R, hR⟩ : ∃ R, Is (Fr.chk (⟨id, rtr, len, d0, d1, d2, d3, d4, d5, d6, d7⟩ : Fr)) R := ⟨_, Is.refl _⟩
      rw [hR.eq] at HBAD HGOOD ⊢
      clear hR
      go_enter Try.func16, Try.ntmps16
      go_wp2_with fail
      rw [← hW]
      clear hW
      go_loopg [3] 8 (fun g u3 wr => ∃ i : Nat, i + g = 8 ∧ u3 = .int .i64 i ∧ wr = W ∧ Hid (∀ j : Nat, j < i → (rtr = true ∨ len ≤ j) → [d0, d1, d2, d3, d4, d5, d6, d7].getD j 0 = 0))
      case atStart => exact ⟨0, rfl, rfl, rfl, Go.Proofs.Ytocogmboocjjaaa.hid (fun j hj => absurd hj (by omega))⟩
      case round =>
        obtain ⟨i, hig, rfl, rfl, HJ⟩ := hrel
        by_cases h8 : i < 8
        · have e1 : decide ((i : Int) < 8) = true := by simp; omega
          have i0 : (0 : Int) ≤ (i : Int) := by omega
          have i1 : (i : Int) < 8 := by omega
          have c0 := HCELL.out i h8
          have HX : Is ([d0, d1, d2, d3, d4, d5, d6, d7].getD i 0) ([d0, d1, d2, d3, d4, d5, d6, d7].getD i 0) := Is.refl _
          generalize hx : [d0, d1, d2, d3, d4, d5, d6, d7].getD i 0 = x at c0
          have HX := Go.Proofs.Ytocogmboocjjaaa.hid hx
          clear hx
          by_cases hc : rtr = true ∨ len ≤ i
          · by_cases hx0 : x = 0
            · have HN : Hid (∀ j : Nat, j < i + 1 → (rtr = true ∨ len ≤ j) → [d0, d1, d2, d3, d4, d5, d6, d7].getD j 0 = 0) := by
                refine Go.Proofs.Ytocogmboocjjaaa.hid (fun j hj hcj => ?_)
                by_cases hji : j = i
                · subst hji; rw [HX.out, hx0]
                · exact HJ.out j (by omega) hcj
              subst hx0
              clear HJ HX
              by_cases hrt : rtr = true
              · subst hrt
                clear hc
                go_wp2_with fail
                go_roundg (gk - 1)
                case rel => exact ⟨i + 1, by omega, by go_num, rfl, HN⟩
                case measure => omega
              · have hrt' : rtr = false := by simpa using hrt
                subst hrt'
                have hle : len ≤ i := by rcases hc with h | h; exact absurd h hrt; exact h
                have e2 : decide (len ≤ (i : Int)) = true := by simpa using hle
                clear hc hrt
                go_wp2_with fail
                go_roundg (gk - 1)
                case rel => exact ⟨i + 1, by omega, by go_num, rfl, HN⟩
                case measure => omega
            · have hR := HBAD.out i h8 hc (by rw [HX.out]; exact hx0)
              subst hR
              have e3 : (x != 0) = true := by simpa using hx0
              have e4 : (x == 0) = false := by simpa using hx0
              clear HJ HX hx0
              by_cases hrt : rtr = true
              · subst hrt
                clear hc
                go_wp2_with fail
                go_ret
                exact ⟨rfl, (by repeat (first | with_reducible exact Ext.refl _ | with_reducible assumption | with_reducible apply Ext.alloc | with_reducible apply Ext.drew | with_reducible apply Ext.drewN | (with_reducible refine Ext.set' ?_ (by first | omega | (simp only [World.size_alloc, World.size_setCell]; omega))) | (with_reducible refine Ext.trans ?_ (by with_reducible assumption)) | (with_reducible refine Ext.only ?_ (by with_reducible assumption) (by omega))))⟩
              · have hrt' : rtr = false := by simpa using hrt
                subst hrt'
                have hle : len ≤ i := by rcases hc with h | h; exact absurd h hrt; exact h
                have e2 : decide (len ≤ (i : Int)) = true := by simpa using hle
                clear hc hrt
                go_wp2_with fail
                go_ret
                exact ⟨rfl, (by repeat (first | with_reducible exact Ext.refl _ | with_reducible assumption | with_reducible apply Ext.alloc | with_reducible apply Ext.drew | with_reducible apply Ext.drewN | (with_reducible refine Ext.set' ?_ (by first | omega | (simp only [World.size_alloc, World.size_setCell]; omega))) | (with_reducible refine Ext.trans ?_ (by with_reducible assumption)) | (with_reducible refine Ext.only ?_ (by with_reducible assumption) (by omega))))⟩
          · have hrt' : rtr = false := by simpa using (fun h => hc (.inl h) : ¬ rtr = true)
            have hle : ¬ len ≤ i := fun h => hc (.inr h)
            have e2 : decide (len ≤ (i : Int)) = false := by simpa using hle
            have hle' : (i : Int) < len := by omega
            have HN : Hid (∀ j : Nat, j < i + 1 → (rtr = true ∨ len ≤ j) → [d0, d1, d2, d3, d4, d5, d6, d7].getD j 0 = 0) := by
              refine Go.Proofs.Ytocogmboocjjaaa.hid (fun j hj hcj => ?_)
              by_cases hji : j = i
              · subst hji; exact absurd hcj hc
              · exact HJ.out j (by omega) hcj
            subst hrt'
            clear hc hle HJ HX
            go_wp2_with fail
            go_roundg (gk - 1)
            case rel => exact ⟨i + 1, by omega, by go_num, rfl, HN⟩
            case measure => omega
        · obtain rfl : i = 8 := by omega
          have hR := HGOOD.out HJ.out
          subst hR
          clear HJ
          go_wp2_with fail
          go_ret
          exact ⟨rfl, (by repeat (first | with_reducible exact Ext.refl _ | with_reducible assumption | with_reducible apply Ext.alloc | with_reducible apply Ext.drew | with_reducible apply Ext.drewN | (with_reducible refine Ext.set' ?_ (by first | omega | (simp only [World.size_alloc, World.size_setCell]; omega))) | (with_reducible refine Ext.trans ?_ (by with_reducible assumption)) | (with_reducible refine Ext.only ?_ (by with_reducible assumption) (by omega))))⟩

end Go.Proofs.Ytocogmboocjjaaa
