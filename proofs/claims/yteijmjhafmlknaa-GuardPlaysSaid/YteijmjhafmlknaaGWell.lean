import Derived.Test.YteijmjhafmlknaaGuard
import Derived.Test.YteijmjhafmlknaaOpen
import Derived.Deep.LoopGhost
set_option linter.unusedSimpArgs false
set_option linter.unusedVariables false
namespace Go.Proofs.Yteijmjhafmlknaa
open Go.RowKit
attribute [local go_sem] max2_max min2_min max_of_two min_of_two

theorem Gd.whole_on {s l t m n : Int} {g : Bool} (h0 : 0 ≤ n) (h1 : n ≤ 2147483647) : Gd.whole ⟨true, s, l, g, t, m⟩ n = ⟨true, n, l, false, t, m⟩ := by
  simp [Gd.whole, tickB_iff.2 ⟨h0, h1⟩]
theorem Gd.half_on {s l t m n : Int} {g : Bool} (h0 : 0 ≤ n) (h1 : n ≤ 2147483647) : Gd.half ⟨true, s, l, g, t, m⟩ n = ⟨true, s, l, true, n, m⟩ := by
  simp [Gd.half, tickB_iff.2 ⟨h0, h1⟩]
theorem Gd.check_zero {s l t m n : Int} {o g : Bool} (h0 : n - s ≤ l) (h1 : g = true → n - t ≤ m) : Gd.check ⟨o, s, l, g, t, m⟩ n = 0 := by
  have e : decide (l < n - s) = false := by simp; omega
  simp only [Gd.check, e, Bool.and_false, chk]
  cases g
  · simp
  · have := h1 rfl
    have e : decide (m < n - t) = false := by simp; omega
    simp [e]

set_option maxRecDepth 100000 in
set_option maxHeartbeats 4000000 in
theorem well_any (x y : Int) (A : Option Addr) (bl o len cap : Nat) (f : Nat → Nat → Int) (w : World) (hx0 : 0 ≤ x) (hx1 : x ≤ 255) (hy0 : 0 ≤ y) (hy1 : y ≤ 255) (hlen : len ≤ maxLen) (hA : 0 < len → A = some ⟨bl, o, none⟩ ∧ bl < w.heap.size)
    (hl : ∀ i j, i < len → j < 2 → w.cell? ⟨bl, o + i * 2 + j, none⟩ = some (.int .u8 (f i j))) (hf : ∀ i j, i < len → j < 2 → 0 ≤ f i j ∧ f i j ≤ 255) :
    Calls Try.prog 3 #[.int .u8 x, .int .u8 y, .slice A len cap] w fun e w' => e = .returned (.bool true) ∧ Below w.heap.size w w' := by
  unfold maxLen at hlen
  have HL := hid hl
  have HF := hid hf
  have HA := hid hA
  clear hl hf hA
  have ha0 : 1 ≤ 1 + x % 60 := by omega
  have ha1 : 1 + x % 60 ≤ 60 := by omega
  have hb0 : 1 ≤ 1 + y % 60 := by omega
  have hb1 : 1 + y % 60 ≤ 60 := by omega
  have ma : mayB (1 + x % 60) = true := by simp [mayB]; omega
  have mb : mayB (1 + y % 60) = true := by simp [mayB]; omega
  have MA := hid ma
  have MB := hid mb
  clear ma mb
  go_enter Try.func3, Try.ntmps3
  go_wp2_with fail
  refine (new_yes _ _ _ MA.out MB.out).mono ?_
  clear MA MB
  generalize 1 + x % 60 = a at *
  generalize 1 + y % 60 = b at *
  rintro e w1 ⟨rfl, b1, l1⟩
  have B1 := hid b1
  have L1 := hid l1
  clear b1 l1
  have OK0 := hid (Gd.Ok.mk0 (a := a) (b := b) (by simp [mayB]; omega) (by simp [mayB]; omega))
  go_wp2_with fail
  refine (wake_any _ _ 3 _ B1.out).mono ?_
  rintro e w2 ⟨rfl, b2, o2⟩
  have B2 : Hid (Blk w2 w.heap.size (Gd.cells ⟨true, 3, a, false, 0, b⟩) GT) := b2
  have L2 := hid (L1.out.trans (o2.below (Nat.le_refl _) (Nat.le_of_lt B1.out.lt)))
  clear b2 o2 B1 L1 OK0
  go_wp2_with fail
  go_loopw [11, 12] (fun v11 v12 wr => ∃ (i : Nat) (now gs : Int), i ≤ 30 ∧ v12 = .int .i64 i ∧ v11 = .int .i64 now ∧ 3 ≤ now ∧ now ≤ 3 + 60 * i ∧ 0 ≤ gs ∧ gs ≤ 2147483647 ∧ Hid (Blk wr w.heap.size (Gd.cells ⟨true, now, a, false, gs, b⟩) GT) ∧ Hid (Below w.heap.size w wr)) (fun _ v12 _ => len - (intOf v12).toNat)
  case atStart => exact ⟨0, 3, 0, by omega, rfl, rfl, by omega, by omega, by omega, by omega, B2, L2⟩
  case round =>
    clear B2 L2
    obtain ⟨i, now, gs, hi, rfl, rfl, hn0, hn1, hg0, hg1, BG, BW⟩ := hrel
    by_cases hlt : i < len
    · by_cases h30 : i < 30
      · obtain ⟨rfl, hbl⟩ := HA.out (by omega)
        have hc0 : wr.cell? ⟨bl, o + i * 2, none⟩ = some (.int .u8 (f i 0)) := (BW.out.cell (p := ⟨bl, o + i * 2 + 0, none⟩) hbl).trans (HL.out i 0 hlt (by omega))
        have hc1 : wr.cell? ⟨bl, o + i * 2 + 1, none⟩ = some (.int .u8 (f i 1)) := (BW.out.cell (p := ⟨bl, o + i * 2 + 1, none⟩) hbl).trans (HL.out i 1 hlt (by omega))
        have hf0 := HF.out i 0 hlt (by omega)
        have hf1 := HF.out i 1 hlt (by omega)
        generalize f i 0 = p at *
        generalize f i 1 = q at *
        have h30' : decide ((i : Int) < 30) = true := by simp; omega
        have hs0 := Int.emod_nonneg q (b := min a b + 1) (by omega)
        have hs1 := Int.emod_lt_of_pos q (b := min a b + 1) (by omega)
        have hp0 := Int.emod_nonneg p (b := a - q % (min a b + 1) + 1) (by omega)
        have hp1 := Int.emod_lt_of_pos p (b := a - q % (min a b + 1) + 1) (by omega)
        go_wp2_with fail
        generalize q % (min a b + 1) = sec at *
        generalize p % (a - sec + 1) = fst at *
        go_loopw [15] (fun v15 wr => ∃ (n : Nat) (gs' : Int), n ≤ fst + sec + 1 ∧ v15 = .int .i64 n ∧ 0 ≤ gs' ∧ gs' ≤ 2147483647 ∧ Hid (fst < n → gs' = now + fst) ∧ Hid (Blk wr w.heap.size (Gd.cells ⟨true, now, a, decide (fst < n), gs', b⟩) GT) ∧ Hid (Below w.heap.size w wr)) (fun v15 _ => (fst + sec + 1 - intOf v15).toNat)
        case atStart =>
          have hd : decide (fst < ((0 : Nat) : Int)) = false := by simp; omega
          exact ⟨0, gs, by omega, rfl, hg0, hg1, hid (fun h => by omega), hid (by rw [hd]; exact BG.out), BW⟩
        case round =>
          clear BG BW hc0 hc1
          obtain ⟨n, gs', hn, rfl, hg0', hg1', HGS, BG, BW⟩ := hrel
          by_cases hle : n ≤ fst + sec
          · have hle' : (n : Int) ≤ fst + sec := hle
            have OKr : Hid (Gd.Ok ⟨true, now, a, decide (fst < n), gs', b⟩) := by constructor <;> simp <;> omega
            by_cases he : (n : Int) = fst
            · have e1 : ((n : Int) == fst) = true := beq_iff_eq.2 he
              have HE := hid he
              clear he
              go_wp2_with fail
              refine (half_any _ _ _ _ BG.out).mono ?_
              rintro e w3 ⟨rfl, b3, o3⟩
              rw [Gd.half_on (by omega) (by omega)] at b3
              have B3 := hid b3
              have L3 := hid (BW.out.trans (o3.below (Nat.le_refl _) BW.out.size))
              clear b3 o3 BG BW OKr
              have OKr : Hid (Gd.Ok ⟨true, now, a, true, now + n, b⟩) := by constructor <;> simp <;> omega
              have CZ := hid (Gd.check_zero (o := true) (s := now) (n := now + n) (l := a) (g := true) (t := now + n) (m := b) (by omega) (by intro; omega))
              go_wp2_with fail
              refine (check_any _ _ _ _ B3.out OKr.out).mono ?_
              rintro e w4 ⟨rfl, l4⟩
              rw [CZ.out]
              have B4 := hid (B3.out.below l4 B3.out.lt)
              have L4 := hid (L3.out.trans (l4.mono L3.out.size))
              clear l4 B3 L3
              go_wp2_with fail
              go_roundw
              case rel =>
                have he := HE.out
                have hd : decide (fst < ((n + 1 : Nat) : Int)) = true := by simp; omega
                exact ⟨n + 1, now + n, by omega, by go_num, by omega, by omega, hid (fun _ => by omega), hid (by rw [hd]; exact B4.out), L4⟩
              case measure => simp [intOf]; omega
            · have e1 : ((n : Int) == fst) = false := beq_eq_false_iff_ne.2 he
              have CZ := hid (Gd.check_zero (o := true) (s := now) (n := now + n) (l := a) (g := decide (fst < n)) (t := gs') (m := b) (by omega) (by intro hh; have := HGS.out (by simpa using hh); omega))
              have HNE := hid he
              clear he
              go_wp2_with fail
              refine (check_any _ _ _ _ BG.out OKr.out).mono ?_
              rintro e w4 ⟨rfl, l4⟩
              rw [CZ.out]
              have B4 := hid (BG.out.below l4 BG.out.lt)
              have L4 := hid (BW.out.trans (l4.mono BW.out.size))
              clear l4 BG BW
              go_wp2_with fail
              go_roundw
              case rel =>
                have he := HNE.out
                have hd : decide (fst < ((n + 1 : Nat) : Int)) = decide (fst < (n : Int)) := by
                  by_cases h : fst < (n : Int) <;> simp [h] <;> omega
                exact ⟨n + 1, gs', by omega, by go_num, by omega, by omega, hid (fun h => HGS.out (by omega)), hid (by rw [hd]; exact B4.out), L4⟩
              case measure => simp [intOf]; omega
          · have hge : fst + sec < n := by omega
            go_wp2_with fail
            refine (whole_any _ _ _ _ BG.out).mono ?_
            rintro e w3 ⟨rfl, b3, o3⟩
            rw [Gd.whole_on (by omega) (by omega)] at b3
            have B3 := hid b3
            have L3 := hid (BW.out.trans (o3.below (Nat.le_refl _) BW.out.size))
            clear b3 o3 BG BW
            have OKr : Hid (Gd.Ok ⟨true, now + (fst + sec), a, false, gs', b⟩) := by constructor <;> simp <;> omega
            have CZ := hid (Gd.check_zero (o := true) (s := now + (fst + sec)) (n := now + (fst + sec)) (l := a) (g := false) (t := gs') (m := b) (by omega) (by simp))
            go_wp2_with fail
            refine (check_any _ _ _ _ B3.out OKr.out).mono ?_
            rintro e w4 ⟨rfl, l4⟩
            rw [CZ.out]
            have B4 := hid (B3.out.below l4 B3.out.lt)
            have L4 := hid (L3.out.trans (l4.mono L3.out.size))
            clear l4 B3 L3
            go_wp2_with fail
            go_roundw
            case rel => exact ⟨i + 1, now + (fst + sec), gs', by omega, by go_num, by go_num, by omega, by omega, hg0', hg1', B4, L4⟩
            case measure => simp [intOf]; omega
      · have h30' : decide ((i : Int) < 30) = false := by simp; omega
        go_wp2_with fail
        refine (live_any _).mono ?_
        rintro e w3 ⟨rfl, l3⟩
        have L3 := hid (BW.out.trans (l3.mono BW.out.size))
        clear l3
        go_wp2_with fail
        go_ret
        exact ⟨rfl, L3.out⟩
    · have hlt' : decide ((i : Int) < (len : Int)) = false := by simp; omega
      go_wp2_with fail
      refine (live_any _).mono ?_
      rintro e w3 ⟨rfl, l3⟩
      have L3 := hid (BW.out.trans (l3.mono BW.out.size))
      clear l3
      go_wp2_with fail
      go_ret
      exact ⟨rfl, L3.out⟩

theorem well_entry (v0 v1 v2 : Value) (W : World) {base : Nat} (h0 : Rd Try.prog W 5 v0.cells.toList) (o0 : Value.okWide Try.prog W .any base 5 v0)
    (h1 : Rd Try.prog W 5 v1.cells.toList) (o1 : Value.okWide Try.prog W .any base 5 v1)
    (h2 : Rd Try.prog W 22 v2.cells.toList) (o2 : Value.okWide Try.prog W .any base 22 v2) :
    Calls Try.prog 3 #[v0, v1, v2] W fun e w' => e = .returned (.bool true) ∧ Below W.heap.size W w' := by
  obtain ⟨x, rfl, wx⟩ := opn_int Try.underlying5 h0 o0
  obtain ⟨y, rfl, wy⟩ := opn_int Try.underlying5 h1 o1
  have hC : Try.prog.cellsOf 28 = 2 := by kernel_rfl
  obtain ⟨A, bl, o, len, cap, rfl, hl, hc, hb, hn, hA, hi⟩ := opn_row Try.underlying22 (by omega) h2 o2
  have hx := wf_u8 wx
  have hy := wf_u8 wy
  have key : ∀ i j, i < len → j < 2 → W.cell? ⟨bl, o + i * 2 + j, none⟩ = some (.int .u8 (intAt W ⟨bl, o + i * 2 + j, none⟩)) ∧ 0 ≤ intAt W ⟨bl, o + i * 2 + j, none⟩ ∧ intAt W ⟨bl, o + i * 2 + j, none⟩ ≤ 255 := by
    intro i j hil hj
    obtain ⟨es, hes, hat, hrd⟩ := hi i hil
    rw [hC] at hes hat
    obtain ⟨n, hn, wn⟩ := hrd.elemInt Try.underlying28 Try.underlying5 (by kernel_rfl) j hj
    have h := (hat j hj).trans hn
    have e : intAt W ⟨bl, o + i * 2 + j, none⟩ = n := by simp [intAt, h]
    rw [e]
    exact ⟨h, wf_u8 wn⟩
  exact well_any x y A bl o len cap (fun i j => intAt W ⟨bl, o + i * 2 + j, none⟩) W hx.1 hx.2 hy.1 hy.2 (by omega) hA (fun i j h h' => (key i j h h').1) (fun i j h h' => (key i j h h').2)

end Go.Proofs.Yteijmjhafmlknaa
