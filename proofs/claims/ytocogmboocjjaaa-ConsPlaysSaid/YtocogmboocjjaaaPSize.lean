/- How many bytes a table's objects have; whether it sends. -/
import Derived.Test.YtocogmboocjjaaaChan
import Derived.Test.YtocogmboocjjaaaOrd
import Derived.Test.YtocogmboocjjaaaFrV
set_option linter.unusedSimpArgs false
set_option linter.unusedVariables false
set_option linter.unnecessarySimpa false
namespace Go.Proofs.Ytocogmboocjjaaa
open Go.RowKit Go.Proofs.YtocogmboocjjaaaW.PrintWords
attribute [local go_sem] max2_max min2_min max_of_two min_of_two bxC_ch chguard_eq chguard_ne chbin_eq chbin_ne ldC_new ext_drew' ext_alloc gUpon gStill
attribute [local go_sem ↓] ldC_in bxC_in stC_in

def szF : Int → List Int → Int
  | acc, [] => acc
  | acc, b :: r => if b = 8 ∨ b = 16 ∨ b = 32 then szF (acc + b / 8) r else 0
def Ch.bits (c : Ch) : List Int := [c.at 8, c.at 11, c.at 14, c.at 17, c.at 20, c.at 23, c.at 26, c.at 29]
theorem Ch.bits_at (c : Ch) {i : Nat} (h : i < 8) : c.bits.getD i 0 = c.at (6 + i * 3 + 2) := by
  rcases (by omega : i = 0 ∨ i = 1 ∨ i = 2 ∨ i = 3 ∨ i = 4 ∨ i = 5 ∨ i = 6 ∨ i = 7) with rfl | rfl | rfl | rfl | rfl | rfl | rfl | rfl <;> rfl
/-- How many bytes. -/
def Ch.sz (c : Ch) : Int := if c.at 5 < 0 ∨ 8 < c.at 5 then 0 else szF 0 (c.bits.take (c.at 5).toNat)
theorem take_at {l : List Int} {n i : Nat} (h : i < n) : (l.take n).getD i 0 = l.getD i 0 := by
  rw [List.getD_eq_getElem?_getD, List.getElem?_take_of_lt h, ← List.getD_eq_getElem?_getD]
theorem szF_step {acc : Int} {l : List Int} {i : Nat} (h : i < l.length) : szF acc (l.drop i) = if l.getD i 0 = 8 ∨ l.getD i 0 = 16 ∨ l.getD i 0 = 32 then szF (acc + l.getD i 0 / 8) (l.drop (i + 1)) else 0 := by
  rw [drop_getD h]
  rfl

set_option maxRecDepth 100000 in
set_option maxHeartbeats 2000000 in
theorem pmsize_c (b : Nat) (c : Ch) (n : Nat) (w : World) (h : Blk w b c.cells CT) (hn : n ≤ 8) :
    Calls Try.prog 62 #[.slice (some ⟨b, 6, none⟩) n 8] w fun e w' => e = .returned (.int .i64 (szF 0 (c.bits.take n))) ∧ Ext w w' := by
  obtain ⟨R, hR⟩ : ∃ R, Is (szF 0 (c.bits.take n)) R := ⟨_, Is.refl _⟩
  rw [hR.eq]
  have hL : (c.bits.take n).length = n := by rw [List.length_take]; show min n 8 = n; omega
  have HC := hid (fun w' (k : Ext w w') j (hj : j < 30) => (k.blk h).chat hj)
  have K0 := Ext.refl w
  have e0 : decide (8 < (n : Int)) = false := by simp; omega
  clear h
  go_enter Try.func62, Try.ntmps62
  go_wp2_with fail
  go_loopg [3, 11] n (fun g u3 u11 wr => ∃ (i : Nat) (acc : Int), i + g = n ∧ u11 = .int .i64 i ∧ u3 = .int .i64 acc ∧ 0 ≤ acc ∧ acc ≤ 4 * i ∧ Is (szF acc ((c.bits.take n).drop i)) R ∧ Ext w wr)
  case atStart => exact ⟨0, 0, by omega, rfl, rfl, by omega, by omega, hR, K0⟩
  case round =>
    clear K0 hR
    obtain ⟨i, acc, hig, rfl, rfl, ha0, ha1, hR, K⟩ := hrel
    by_cases hlt : i < n
    · have e1 : decide ((i : Int) < (n : Int)) = true := by simp; omega
      have i0 : (0 : Int) ≤ (i : Int) := by omega
      have i1 : (i : Int) < (n : Int) := by omega
      have c0 := HC.out _ K (6 + i * 3) (by omega)
      have c1 := HC.out _ K (6 + i * 3 + 1) (by omega)
      have c2 := HC.out _ K (6 + i * 3 + 2) (by omega)
      have hs := szF_step (acc := acc) (l := c.bits.take n) (i := i) (by rw [hL]; exact hlt)
      rw [take_at hlt, c.bits_at (by omega)] at hs
      generalize c.at (6 + i * 3) = x0 at *
      generalize c.at (6 + i * 3 + 1) = x1 at *
      generalize c.at (6 + i * 3 + 2) = x2 at *
      have HS := hid hs
      clear hs
      by_cases h8 : x2 = 8
      · subst h8
        have hw : IntKind.i64.wrap (acc + 1) = acc + 1 := IntWalk.i64_in _ (by omega)
        have HR : Hid (Is (szF (acc + 1) ((c.bits.take n).drop (i + 1))) R) := hid (Is.mk (by have := HS.out; rw [if_pos (.inl rfl)] at this; rw [← hR.eq, this]; rfl))
        clear hR
        go_wp2_with fail
        go_roundg (n - i - 1)
        case rel => exact ⟨i + 1, acc + 1, by omega, by go_num, rfl, by omega, by omega, HR.out, (by repeat (first | with_reducible exact Ext.refl _ | with_reducible assumption | with_reducible apply Ext.alloc | with_reducible apply Ext.drew | with_reducible apply Ext.drewN | (with_reducible refine Ext.set' ?_ (by first | omega | (simp only [World.size_alloc, World.size_setCell]; omega))) | (with_reducible refine Ext.trans ?_ (by with_reducible assumption)) | (with_reducible refine Ext.only ?_ (by with_reducible assumption) (by omega))))⟩
        case measure => omega
      · by_cases h16 : x2 = 16
        · subst h16
          have hw : IntKind.i64.wrap (acc + 2) = acc + 2 := IntWalk.i64_in _ (by omega)
          have HR : Hid (Is (szF (acc + 2) ((c.bits.take n).drop (i + 1))) R) := hid (Is.mk (by have := HS.out; rw [if_pos (.inr (.inl rfl))] at this; rw [← hR.eq, this]; rfl))
          clear hR
          go_wp2_with fail
          go_roundg (n - i - 1)
          case rel => exact ⟨i + 1, acc + 2, by omega, by go_num, rfl, by omega, by omega, HR.out, (by repeat (first | with_reducible exact Ext.refl _ | with_reducible assumption | with_reducible apply Ext.alloc | with_reducible apply Ext.drew | with_reducible apply Ext.drewN | (with_reducible refine Ext.set' ?_ (by first | omega | (simp only [World.size_alloc, World.size_setCell]; omega))) | (with_reducible refine Ext.trans ?_ (by with_reducible assumption)) | (with_reducible refine Ext.only ?_ (by with_reducible assumption) (by omega))))⟩
          case measure => omega
        · by_cases h32 : x2 = 32
          · subst h32
            have hw : IntKind.i64.wrap (acc + 4) = acc + 4 := IntWalk.i64_in _ (by omega)
            have HR : Hid (Is (szF (acc + 4) ((c.bits.take n).drop (i + 1))) R) := hid (Is.mk (by have := HS.out; rw [if_pos (.inr (.inr rfl))] at this; rw [← hR.eq, this]; rfl))
            clear hR
            go_wp2_with fail
            go_roundg (n - i - 1)
            case rel => exact ⟨i + 1, acc + 4, by omega, by go_num, rfl, by omega, by omega, HR.out, (by repeat (first | with_reducible exact Ext.refl _ | with_reducible assumption | with_reducible apply Ext.alloc | with_reducible apply Ext.drew | with_reducible apply Ext.drewN | (with_reducible refine Ext.set' ?_ (by first | omega | (simp only [World.size_alloc, World.size_setCell]; omega))) | (with_reducible refine Ext.trans ?_ (by with_reducible assumption)) | (with_reducible refine Ext.only ?_ (by with_reducible assumption) (by omega))))⟩
            case measure => omega
          · have f8 : (x2 == 8) = false := by simpa using h8
            have f16 : (x2 == 16) = false := by simpa using h16
            have f32 : (x2 == 32) = false := by simpa using h32
            have g8 : (x2 != 8) = true := by simpa using h8
            have g16 : (x2 != 16) = true := by simpa using h16
            have g32 : (x2 != 32) = true := by simpa using h32
            obtain rfl : R = 0 := by rw [← hR.eq, HS.out, if_neg (by omega)]
            clear hR h8 h16 h32
            go_wp2_with fail
            go_ret
            exact ⟨rfl, (by repeat (first | with_reducible exact Ext.refl _ | with_reducible assumption | with_reducible apply Ext.alloc | with_reducible apply Ext.drew | with_reducible apply Ext.drewN | (with_reducible refine Ext.set' ?_ (by first | omega | (simp only [World.size_alloc, World.size_setCell]; omega))) | (with_reducible refine Ext.trans ?_ (by with_reducible assumption)) | (with_reducible refine Ext.only ?_ (by with_reducible assumption) (by omega))))⟩
    · obtain rfl : i = n := by omega
      have e1 : decide ((i : Int) < (i : Int)) = false := by simp
      obtain rfl : acc = R := by rw [← hR.eq, List.drop_of_length_le (by omega)]; rfl
      go_wp2_with fail
      go_ret
      exact ⟨rfl, (by repeat (first | with_reducible exact Ext.refl _ | with_reducible assumption | with_reducible apply Ext.alloc | with_reducible apply Ext.drew | with_reducible apply Ext.drewN | (with_reducible refine Ext.set' ?_ (by first | omega | (simp only [World.size_alloc, World.size_setCell]; omega))) | (with_reducible refine Ext.trans ?_ (by with_reducible assumption)) | (with_reducible refine Ext.only ?_ (by with_reducible assumption) (by omega))))⟩

set_option maxRecDepth 100000 in
set_option maxHeartbeats 2000000 in
theorem rsize25_c (b : Nat) (c : Ch) (n : Nat) (w : World) (h : Blk w b c.cells CT) (hn : n ≤ 8) :
    Calls Try.prog 63 #[.slice (some ⟨b, 6, none⟩) n 8] w fun e w' => e = .returned (.int .i64 (szF 0 (c.bits.take n))) ∧ Ext w w' := by
  obtain ⟨R, hR⟩ : ∃ R, Is (szF 0 (c.bits.take n)) R := ⟨_, Is.refl _⟩
  rw [hR.eq]
  have hL : (c.bits.take n).length = n := by rw [List.length_take]; show min n 8 = n; omega
  have HC := hid (fun w' (k : Ext w w') j (hj : j < 30) => (k.blk h).chat hj)
  have K0 := Ext.refl w
  have e0 : decide (8 < (n : Int)) = false := by simp; omega
  clear h
  go_enter Try.func63, Try.ntmps63
  go_wp2_with fail
  go_loopg [3, 4] n (fun g u3 u4 wr => ∃ (i : Nat) (acc : Int), i + g = n ∧ u4 = .int .i64 i ∧ u3 = .int .i64 acc ∧ 0 ≤ acc ∧ acc ≤ 4 * i ∧ Is (szF acc ((c.bits.take n).drop i)) R ∧ Ext w wr)
  case atStart => exact ⟨0, 0, by omega, rfl, rfl, by omega, by omega, hR, K0⟩
  case round =>
    clear K0 hR
    obtain ⟨i, acc, hig, rfl, rfl, ha0, ha1, hR, K⟩ := hrel
    by_cases hlt : i < n
    · have e1 : decide ((i : Int) < (n : Int)) = true := by simp; omega
      have i0 : (0 : Int) ≤ (i : Int) := by omega
      have i1 : (i : Int) < (n : Int) := by omega
      have c0 := HC.out _ K (6 + i * 3) (by omega)
      have c1 := HC.out _ K (6 + i * 3 + 1) (by omega)
      have c2 := HC.out _ K (6 + i * 3 + 2) (by omega)
      have hs := szF_step (acc := acc) (l := c.bits.take n) (i := i) (by rw [hL]; exact hlt)
      rw [take_at hlt, c.bits_at (by omega)] at hs
      generalize c.at (6 + i * 3) = x0 at *
      generalize c.at (6 + i * 3 + 1) = x1 at *
      generalize c.at (6 + i * 3 + 2) = x2 at *
      have HS := hid hs
      clear hs
      by_cases h8 : x2 = 8
      · subst h8
        have hw : IntKind.i64.wrap (acc + 1) = acc + 1 := IntWalk.i64_in _ (by omega)
        have HR : Hid (Is (szF (acc + 1) ((c.bits.take n).drop (i + 1))) R) := hid (Is.mk (by have := HS.out; rw [if_pos (.inl rfl)] at this; rw [← hR.eq, this]; rfl))
        clear hR
        go_wp2_with fail
        go_roundg (n - i - 1)
        case rel => exact ⟨i + 1, acc + 1, by omega, by go_num, rfl, by omega, by omega, HR.out, (by repeat (first | with_reducible exact Ext.refl _ | with_reducible assumption | with_reducible apply Ext.alloc | with_reducible apply Ext.drew | with_reducible apply Ext.drewN | (with_reducible refine Ext.set' ?_ (by first | omega | (simp only [World.size_alloc, World.size_setCell]; omega))) | (with_reducible refine Ext.trans ?_ (by with_reducible assumption)) | (with_reducible refine Ext.only ?_ (by with_reducible assumption) (by omega))))⟩
        case measure => omega
      · by_cases h16 : x2 = 16
        · subst h16
          have hw : IntKind.i64.wrap (acc + 2) = acc + 2 := IntWalk.i64_in _ (by omega)
          have HR : Hid (Is (szF (acc + 2) ((c.bits.take n).drop (i + 1))) R) := hid (Is.mk (by have := HS.out; rw [if_pos (.inr (.inl rfl))] at this; rw [← hR.eq, this]; rfl))
          clear hR
          go_wp2_with fail
          go_roundg (n - i - 1)
          case rel => exact ⟨i + 1, acc + 2, by omega, by go_num, rfl, by omega, by omega, HR.out, (by repeat (first | with_reducible exact Ext.refl _ | with_reducible assumption | with_reducible apply Ext.alloc | with_reducible apply Ext.drew | with_reducible apply Ext.drewN | (with_reducible refine Ext.set' ?_ (by first | omega | (simp only [World.size_alloc, World.size_setCell]; omega))) | (with_reducible refine Ext.trans ?_ (by with_reducible assumption)) | (with_reducible refine Ext.only ?_ (by with_reducible assumption) (by omega))))⟩
          case measure => omega
        · by_cases h32 : x2 = 32
          · subst h32
            have hw : IntKind.i64.wrap (acc + 4) = acc + 4 := IntWalk.i64_in _ (by omega)
            have HR : Hid (Is (szF (acc + 4) ((c.bits.take n).drop (i + 1))) R) := hid (Is.mk (by have := HS.out; rw [if_pos (.inr (.inr rfl))] at this; rw [← hR.eq, this]; rfl))
            clear hR
            go_wp2_with fail
            go_roundg (n - i - 1)
            case rel => exact ⟨i + 1, acc + 4, by omega, by go_num, rfl, by omega, by omega, HR.out, (by repeat (first | with_reducible exact Ext.refl _ | with_reducible assumption | with_reducible apply Ext.alloc | with_reducible apply Ext.drew | with_reducible apply Ext.drewN | (with_reducible refine Ext.set' ?_ (by first | omega | (simp only [World.size_alloc, World.size_setCell]; omega))) | (with_reducible refine Ext.trans ?_ (by with_reducible assumption)) | (with_reducible refine Ext.only ?_ (by with_reducible assumption) (by omega))))⟩
            case measure => omega
          · have f8 : (x2 == 8) = false := by simpa using h8
            have f16 : (x2 == 16) = false := by simpa using h16
            have f32 : (x2 == 32) = false := by simpa using h32
            have g8 : (x2 != 8) = true := by simpa using h8
            have g16 : (x2 != 16) = true := by simpa using h16
            have g32 : (x2 != 32) = true := by simpa using h32
            obtain rfl : R = 0 := by rw [← hR.eq, HS.out, if_neg (by omega)]
            clear hR h8 h16 h32
            go_wp2_with fail
            go_ret
            exact ⟨rfl, (by repeat (first | with_reducible exact Ext.refl _ | with_reducible assumption | with_reducible apply Ext.alloc | with_reducible apply Ext.drew | with_reducible apply Ext.drewN | (with_reducible refine Ext.set' ?_ (by first | omega | (simp only [World.size_alloc, World.size_setCell]; omega))) | (with_reducible refine Ext.trans ?_ (by with_reducible assumption)) | (with_reducible refine Ext.only ?_ (by with_reducible assumption) (by omega))))⟩
    · obtain rfl : i = n := by omega
      have e1 : decide ((i : Int) < (i : Int)) = false := by simp
      obtain rfl : acc = R := by rw [← hR.eq, List.drop_of_length_le (by omega)]; rfl
      go_wp2_with fail
      go_ret
      exact ⟨rfl, (by repeat (first | with_reducible exact Ext.refl _ | with_reducible assumption | with_reducible apply Ext.alloc | with_reducible apply Ext.drew | with_reducible apply Ext.drewN | (with_reducible refine Ext.set' ?_ (by first | omega | (simp only [World.size_alloc, World.size_setCell]; omega))) | (with_reducible refine Ext.trans ?_ (by with_reducible assumption)) | (with_reducible refine Ext.only ?_ (by with_reducible assumption) (by omega))))⟩

set_option maxRecDepth 100000 in
set_option maxHeartbeats 1000000 in
theorem psize_c (c : Ch) (w : World) : Calls Try.prog 39 #[c.val] w fun e w' => e = .returned (.int .i64 c.sz) ∧ Ext w w' := by
  have c5 : (w.alloc (.cells c.cells CT)).cell? ⟨w.heap.size, 5, none⟩ = some (.int .i64 (c.at 5)) := (Blk.new w c.cells CT).chat (by omega)
  have HB := hid (Blk.new w c.cells CT)
  by_cases h0 : c.at 5 < 0
  · have e1 : decide (c.at 5 < 0) = true := by simpa using h0
    have hs : c.sz = 0 := if_pos (.inl h0)
    rw [hs]
    generalize c.at 5 = n at *
    clear h0 hs
    go_enter Try.func39, Try.ntmps39
    go_wp2_with fail
    go_ret
    exact ⟨rfl, (by repeat (first | with_reducible exact Ext.refl _ | with_reducible assumption | with_reducible apply Ext.alloc | with_reducible apply Ext.drew | with_reducible apply Ext.drewN | (with_reducible refine Ext.set' ?_ (by first | omega | (simp only [World.size_alloc, World.size_setCell]; omega))) | (with_reducible refine Ext.trans ?_ (by with_reducible assumption)) | (with_reducible refine Ext.only ?_ (by with_reducible assumption) (by omega))))⟩
  · have e1 : decide (c.at 5 < 0) = false := by simpa using h0
    by_cases h8 : 8 < c.at 5
    · have e2 : decide (8 < c.at 5) = true := by simpa using h8
      have hs : c.sz = 0 := if_pos (.inr h8)
      rw [hs]
      generalize c.at 5 = n at *
      clear h0 h8 hs
      go_enter Try.func39, Try.ntmps39
      go_wp2_with fail
      go_ret
      exact ⟨rfl, (by repeat (first | with_reducible exact Ext.refl _ | with_reducible assumption | with_reducible apply Ext.alloc | with_reducible apply Ext.drew | with_reducible apply Ext.drewN | (with_reducible refine Ext.set' ?_ (by first | omega | (simp only [World.size_alloc, World.size_setCell]; omega))) | (with_reducible refine Ext.trans ?_ (by with_reducible assumption)) | (with_reducible refine Ext.only ?_ (by with_reducible assumption) (by omega))))⟩
    · have e2 : decide (8 < c.at 5) = false := by simpa using h8
      have hs : c.sz = szF 0 (c.bits.take (c.at 5).toNat) := if_neg (by omega)
      obtain ⟨n, hn⟩ := Int.eq_ofNat_of_zero_le (show 0 ≤ c.at 5 by omega)
      rw [hs]
      have HN : Hid (n ≤ 8) := hid (by omega)
      have n8 : (n : Int) ≤ 8 := by omega
      rw [hn] at c5 e1 e2 ⊢
      rw [Int.toNat_natCast]
      have n0 : (0 : Int) ≤ (n : Int) := by omega
      clear h0 h8 hs hn
      go_enter Try.func39, Try.ntmps39
      go_wp2_with fail
      (with_reducible refine (pmsize_c _ c n _ HB.out HN.out).mono ?_); rintro e w1 ⟨rfl, k1⟩
      have K1 : Ext w w1 := Ext.trans (Ext.refl w).alloc k1
      go_wp2_with fail
      go_ret
      exact ⟨rfl, K1⟩

set_option maxRecDepth 100000 in
set_option maxHeartbeats 1000000 in
theorem rsize_c (c : Ch) (w : World) : Calls Try.prog 42 #[c.val] w fun e w' => e = .returned (.int .i64 c.sz) ∧ Ext w w' := by
  have c5 : (w.alloc (.cells c.cells CT)).cell? ⟨w.heap.size, 5, none⟩ = some (.int .i64 (c.at 5)) := (Blk.new w c.cells CT).chat (by omega)
  have HB := hid (Blk.new w c.cells CT)
  by_cases h0 : c.at 5 < 0
  · have e1 : decide (c.at 5 < 0) = true := by simpa using h0
    have hs : c.sz = 0 := if_pos (.inl h0)
    rw [hs]
    generalize c.at 5 = n at *
    clear h0 hs
    go_enter Try.func42, Try.ntmps42
    go_wp2_with fail
    go_ret
    exact ⟨rfl, (by repeat (first | with_reducible exact Ext.refl _ | with_reducible assumption | with_reducible apply Ext.alloc | with_reducible apply Ext.drew | with_reducible apply Ext.drewN | (with_reducible refine Ext.set' ?_ (by first | omega | (simp only [World.size_alloc, World.size_setCell]; omega))) | (with_reducible refine Ext.trans ?_ (by with_reducible assumption)) | (with_reducible refine Ext.only ?_ (by with_reducible assumption) (by omega))))⟩
  · have e1 : decide (c.at 5 < 0) = false := by simpa using h0
    by_cases h8 : 8 < c.at 5
    · have e2 : decide (8 < c.at 5) = true := by simpa using h8
      have hs : c.sz = 0 := if_pos (.inr h8)
      rw [hs]
      generalize c.at 5 = n at *
      clear h0 h8 hs
      go_enter Try.func42, Try.ntmps42
      go_wp2_with fail
      go_ret
      exact ⟨rfl, (by repeat (first | with_reducible exact Ext.refl _ | with_reducible assumption | with_reducible apply Ext.alloc | with_reducible apply Ext.drew | with_reducible apply Ext.drewN | (with_reducible refine Ext.set' ?_ (by first | omega | (simp only [World.size_alloc, World.size_setCell]; omega))) | (with_reducible refine Ext.trans ?_ (by with_reducible assumption)) | (with_reducible refine Ext.only ?_ (by with_reducible assumption) (by omega))))⟩
    · have e2 : decide (8 < c.at 5) = false := by simpa using h8
      have hs : c.sz = szF 0 (c.bits.take (c.at 5).toNat) := if_neg (by omega)
      obtain ⟨n, hn⟩ := Int.eq_ofNat_of_zero_le (show 0 ≤ c.at 5 by omega)
      rw [hs]
      have HN : Hid (n ≤ 8) := hid (by omega)
      have n8 : (n : Int) ≤ 8 := by omega
      rw [hn] at c5 e1 e2 ⊢
      rw [Int.toNat_natCast]
      have n0 : (0 : Int) ≤ (n : Int) := by omega
      clear h0 h8 hs hn
      go_enter Try.func42, Try.ntmps42
      go_wp2_with fail
      (with_reducible refine (rsize25_c _ c n _ HB.out HN.out).mono ?_); rintro e w1 ⟨rfl, k1⟩
      have K1 : Ext w w1 := Ext.trans (Ext.refl w).alloc k1
      go_wp2_with fail
      go_ret
      exact ⟨rfl, K1⟩

end Go.Proofs.Ytocogmboocjjaaa
