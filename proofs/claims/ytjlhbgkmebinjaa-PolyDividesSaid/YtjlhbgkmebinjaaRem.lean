import Derived.Test.YtjlhbgkmebinjaaPoly
set_option linter.unusedSimpArgs false
set_option linter.unusedVariables false
set_option linter.unnecessarySimpa false
namespace Go.Proofs.Ytjlhbgkmebinjaa
open Go.RowKit Go.Proofs.YtjlhbgkmebinjaaW.PrintWords
open Go.Proofs.Ytjlhbgkmebinjaa.Pure (foldO nat fd ps)
attribute [local go_sem] max2_max min2_min max_of_two min_of_two

abbrev PT : TypeId := 25

/-- What is known of a divisor in memory, at each world on the way. -/
theorem keepP {N : Nat} {wc : World} {b : Nat} {W L : Int} (hb : b < N) (c0 : wc.cell? ⟨b, 0, none⟩ = some (.int .i64 W)) (c1 : wc.cell? ⟨b, 1, none⟩ = some (.int .u32 L)) {w' : World} (h : Hid (Below N wc w')) :
    Hid (Below N wc w') ∧ w'.cell? ⟨b, 0, none⟩ = some (.int .i64 W) ∧ w'.cell? ⟨b, 1, none⟩ = some (.int .u32 L) :=
  ⟨h, (h.out.cell (p := ⟨b, 0, none⟩) hb).trans c0, (h.out.cell (p := ⟨b, 1, none⟩) hb).trans c1⟩

def mayB (W L : Int) : Bool := decide (1 ≤ W ∧ W ≤ 31 ∧ L.toNat < 2 ^ W.toNat)
theorem may_any (W L : Int) (w : World) (h0 : 0 ≤ L) (h1 : L ≤ 4294967295) :
    Calls Try.prog 16 #[.agg #[.int .i64 W, .int .u32 L]] w fun e w' => e = .returned (.bool (mayB W L)) ∧ Below w.heap.size w w' := by
  obtain ⟨n, rfl⟩ := Int.eq_ofNat_of_zero_le h0
  exact PPolyPieces.poly_Poly_May.calls W n (mayB W n) w (by rw [Pure.may_f W n (by omega)]; simp [mayB])

theorem rem_no (W L s : Int) (A : Option Addr) (c : Nat) (l : List Int) (w : World) (h0 : 0 ≤ L) (h1 : L ≤ 4294967295) (hm : mayB W L = false) :
    Calls Try.prog 9 #[.agg #[.int .i64 W, .int .u32 L], .int .u32 s, .slice A l.length c] w fun e w' => e = .returned (.int .u32 0) ∧ Below w.heap.size w w' := by
  have HM := hid hm
  clear hm
  go_enter Try.func9, Try.ntmps9
  go_wp2_with fail
  refine (may_any W L _ h0 h1).mono ?_
  rintro e w1 ⟨rfl, k1⟩
  rw [HM.out]
  have K1 := hid (((Below.refl w.heap.size w).alloc (Nat.le_refl _) _).trans (k1.mono (by simp)))
  clear k1
  go_wp2_with fail
  go_ret
  exact ⟨rfl, K1.out⟩

set_option maxHeartbeats 1000000 in
theorem rem_yes (W L s : Nat) (A : Option Addr) (bl o c : Nat) (l : List Int) (w : World) (h1 : 1 ≤ W) (h2 : W ≤ 31) (hL : L < 2 ^ W) (hs : s < 4294967296) (hl : Row8 w A bl o l) (hb : ∀ x ∈ l, 0 ≤ x ∧ x ≤ 255) :
    Calls Try.prog 9 #[.agg #[.int .i64 (W : Int), .int .u32 (L : Int)], .int .u32 (s : Int), .slice A l.length c] w fun e w' => e = .returned (.int .u32 (((nat l).foldl (fd W L) (s % 2 ^ W) : Nat) : Int)) ∧ Below w.heap.size w w' := by
  have hp := Pure.pow31 h2
  have h4 := Nat.two_pow_pos W
  have hm : mayB (W : Int) (L : Int) = true := by simp [mayB, h1, h2, hL]; omega
  have hf := Pure.foldO_feed W L h1 h2 hL l (s % 2 ^ W) (Nat.mod_lt _ h4) hb
  have hmask := Pure.mask_f W L h2
  have hand : Go.bits .and .u32 (s : Int) ((2 ^ W - 1 : Nat) : Int) = ((s % 2 ^ W : Nat) : Int) := by
    have := u32_and_nat s (2 ^ W - 1) hs (by omega)
    rw [Pure.and_mask] at this
    exact this
  generalize (((nat l).foldl (fd W L) (s % 2 ^ W) : Nat) : Int) = R at *
  generalize ((2 ^ W - 1 : Nat) : Int) = m at *
  generalize ((s % 2 ^ W : Nat) : Int) = q at *
  have hL0 : 0 ≤ (L : Int) := by omega
  have hL1 : (L : Int) ≤ 4294967295 := by omega
  generalize (W : Int) = W' at *
  generalize (L : Int) = L' at *
  generalize (s : Int) = s' at *
  clear h1 h2 hL hs hb hp h4
  have HM := hid hm
  have HF := hid hf
  have HK := hid hmask
  have HL := hid hl
  clear hm hf hmask hl
  go_enter Try.func9, Try.ntmps9
  go_wp2_with fail
  refine (may_any _ _ _ hL0 hL1).mono ?_
  rintro e w1 ⟨rfl, k1⟩
  rw [HM.out]
  have bk : Blk (w.alloc (.cells #[.int .i64 W', .int .u32 L'] PT)) w.heap.size #[.int .i64 W', .int .u32 L'] PT := Blk.new _ _ _
  have bk1 := bk.below k1 (by simp)
  have c0 := bk1.cell 0 (.int .i64 W') rfl
  have c1 := bk1.cell 1 (.int .u32 L') rfl
  have K1 := hid (((Below.refl w.heap.size w).alloc (Nat.le_refl _) (.cells #[.int .i64 W', .int .u32 L'] PT)).trans (k1.mono (by simp)))
  have hlt : w.heap.size < w1.heap.size := by have := bk1.lt; exact this
  have KS := hid (fun w' => keepP (N := w1.heap.size) (w' := w') hlt c0 c1)
  have R0 := hid (Below.refl w1.heap.size w1)
  have HL1 := hid (HL.out.below K1.out)
  clear k1 bk bk1
  go_wp2_with fail
  go_region_held3 (fun w' => Hid (Below w1.heap.size w1 w') ∧ w'.cell? ⟨w.heap.size, 0, none⟩ = some (.int .i64 W') ∧ w'.cell? ⟨w.heap.size, 1, none⟩ = some (.int .u32 L')) (first | exact KS.out _ (by assumption) | exact KS.out _ (ext_drew (by assumption)))
    (first | (go_at_call 25; refine (PPolyPieces.poly_Poly_mask.calls _ _ m _ HK.out).mono ?_; rintro e w2 ⟨rfl, k2⟩; have hq := ext_next (by assumption) (Nat.le_refl _) k2; clear k2) | (go_at_call 23; refine (fold_feed _ _ _ bl o _ l _ R _ (row_ext HL1 (by assumption)) HF.out).mono ?_; rintro e w2 ⟨rfl, k2⟩; have hq := ext_next (by assumption) (Nat.le_refl _) k2; clear k2))
  all_goals
    go_wp2_with fail
    go_ret
    exact ⟨rfl, ext_end K1 K1.out.size (by assumption)⟩

theorem whole_no (W L : Int) (A : Option Addr) (c : Nat) (l : List Int) (w : World) (h0 : 0 ≤ L) (h1 : L ≤ 4294967295) (hm : mayB W L = false) :
    Calls Try.prog 14 #[.agg #[.int .i64 W, .int .u32 L], .slice A l.length c] w fun e w' => e = .returned (.int .u32 0) ∧ Below w.heap.size w w' := by
  have HM := hid hm
  clear hm
  go_enter Try.func14, Try.ntmps14
  go_wp2_with fail
  refine (may_any W L _ h0 h1).mono ?_
  rintro e w1 ⟨rfl, k1⟩
  rw [HM.out]
  have K1 := hid (((Below.refl w.heap.size w).alloc (Nat.le_refl _) _).trans (k1.mono (by simp)))
  clear k1
  go_wp2_with fail
  go_ret
  exact ⟨rfl, K1.out⟩

set_option maxHeartbeats 1000000 in
theorem whole_yes (W L : Nat) (A : Option Addr) (bl o c : Nat) (l : List Int) (w : World) (h1 : 1 ≤ W) (h2 : W ≤ 31) (hL : L < 2 ^ W) (hl : Row8 w A bl o l) (hb : ∀ x ∈ l, 0 ≤ x ∧ x ≤ 255) :
    Calls Try.prog 14 #[.agg #[.int .i64 (W : Int), .int .u32 (L : Int)], .slice A l.length c] w fun e w' => e = .returned (.int .u32 (((nat l).foldl (ps W L) 0 : Nat) : Int)) ∧ Below w.heap.size w w' := by
  have hp := Pure.pow31 h2
  have hm : mayB (W : Int) (L : Int) = true := by simp [mayB, h1, h2, hL]; omega
  have hf : foldO (Ppush.poly_Poly_push.f (W : Int) (L : Int)) 0 l = _ := Pure.foldO_push W L h1 h2 hL l 0 (Nat.two_pow_pos W) hb
  generalize (((nat l).foldl (ps W L) 0 : Nat) : Int) = R at *
  have hL0 : 0 ≤ (L : Int) := by omega
  have hL1 : (L : Int) ≤ 4294967295 := by omega
  generalize (W : Int) = W' at *
  generalize (L : Int) = L' at *
  clear h1 h2 hL hb hp
  have HM := hid hm
  have HF := hid hf
  have HL := hid hl
  clear hm hf hl
  go_enter Try.func14, Try.ntmps14
  go_wp2_with fail
  refine (may_any _ _ _ hL0 hL1).mono ?_
  rintro e w1 ⟨rfl, k1⟩
  rw [HM.out]
  have bk : Blk (w.alloc (.cells #[.int .i64 W', .int .u32 L'] PT)) w.heap.size #[.int .i64 W', .int .u32 L'] PT := Blk.new _ _ _
  have bk1 := bk.below k1 (by simp)
  have c0 := bk1.cell 0 (.int .i64 W') rfl
  have c1 := bk1.cell 1 (.int .u32 L') rfl
  have K1 := hid (((Below.refl w.heap.size w).alloc (Nat.le_refl _) (.cells #[.int .i64 W', .int .u32 L'] PT)).trans (k1.mono (by simp)))
  have HL1 := hid (HL.out.below K1.out)
  clear k1 bk bk1
  go_wp2_with fail
  refine (fold_push _ _ _ bl o _ l _ R _ HL1.out HF.out).mono ?_
  rintro e w2 ⟨rfl, k2⟩
  have K2 := hid (K1.out.trans (k2.mono K1.out.size))
  clear k2
  go_wp2_with fail
  go_ret
  exact ⟨rfl, K2.out⟩

end Go.Proofs.Ytjlhbgkmebinjaa
