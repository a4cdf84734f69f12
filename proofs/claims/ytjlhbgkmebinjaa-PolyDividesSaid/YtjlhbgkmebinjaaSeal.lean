import Derived.Test.YtjlhbgkmebinjaaAdds
import Derived.Test.YtjlhbgkmebinjaaTurn
import Derived.Test.YtjlhbgkmebinjaaPMayx1
set_option linter.unusedSimpArgs false
set_option linter.unusedVariables false
set_option linter.unnecessarySimpa false
namespace Go.Proofs.Ytjlhbgkmebinjaa
open Go.RowKit Go.Proofs.YtjlhbgkmebinjaaW.PrintWords
open Go.Proofs.Ytjlhbgkmebinjaa.Pure (foldO nat fd ps remV wholeV ofV crc16V crc15V sumR)
attribute [local go_sem] max2_max min2_min max_of_two min_of_two

theorem seal_no (W L : Int) (A : Option Addr) (c : Nat) (l : List Int) (w : World) (h0 : 0 ≤ L) (h1 : L ≤ 4294967295) (hm : Pure.mayP W L = false) :
    Calls Try.prog 17 #[.agg #[.int .i64 W, .int .u32 L], .slice A l.length c] w fun e w' => e = .returned (.slice none 0 0) ∧ Below w.heap.size w w' := by
  have HM : Hid (mayB W L = false) := hm
  clear hm
  go_enter Try.func17, Try.ntmps17
  go_wp2_with fail
  refine (may_any W L _ h0 h1).mono ?_
  rintro e w1 ⟨rfl, k1⟩
  rw [HM.out]
  have K1 := hid (((Below.refl w.heap.size w).alloc (Nat.le_refl _) _).trans (k1.mono (by simp)))
  clear k1
  go_wp2_with fail
  go_ret
  exact ⟨rfl, K1.out⟩

set_option maxHeartbeats 2000000 in
theorem seal_yes (W L R : Int) (A : Option Addr) (bl o c : Nat) (l : List Int) (w : World) (h0 : 0 ≤ L) (h1 : L ≤ 4294967295) (hm : Pure.mayP W L = true) (hl : Row8 w A bl o l) (hb : ∀ x ∈ l, 0 ≤ x ∧ x ≤ 255) (hsz : l.length ≤ 140737488351232) (hR : remV W L 0 l = R) :
    Calls Try.prog 17 #[.agg #[.int .i64 W, .int .u32 L], .slice A l.length c] w fun e w' => ∃ v, e = .returned v ∧ Own8 w' w.heap.size v (plain l ++ ofV R.toNat W) ∧ Below w.heap.size w w' := by
  have HM : Hid (mayB W L = true) := hm
  obtain ⟨hW0, hW1, _⟩ := Pure.mayP_iff.1 hm
  have hRr := Pure.remV_range W L 0 l
  rw [hR] at hRr
  obtain ⟨hR0, hR1⟩ := hRr
  have hof : (ofV R.toNat W).length = W.toNat := by simp [ofV, Pure.ints_length, Pure.bitsW_len]; omega
  have hpl : (plain l).length = l.length := plain_len l
  have htv : turnV l [] = plain l := rfl
  have HTV := hid htv
  have HPL := hid hpl
  have HOF := hid hof
  have HB := hid hb
  have HL := hid hl
  have HR := hid hR
  have HF0 : 0 < (ofV R.toNat W).length := by omega
  have HLN : (turnV l []).length + (ofV R.toNat W).length ≤ 140737488355328 := by rw [htv, hpl, hof]; omega
  clear hm hof hpl htv hb hl hR
  go_enter Try.func17, Try.ntmps17
  go_wp2_with fail
  refine (may_any W L _ h0 h1).mono ?_
  rintro e w1 ⟨rfl, k1⟩
  rw [HM.out]
  have bk : Blk (w.alloc (.cells #[.int .i64 W, .int .u32 L] PT)) w.heap.size #[.int .i64 W, .int .u32 L] PT := Blk.new _ _ _
  have bk1 := bk.below k1 (by simp)
  have c0 := bk1.cell 0 (.int .i64 W) rfl
  have c1 := bk1.cell 1 (.int .u32 L) rfl
  have K1 := hid (((Below.refl w.heap.size w).alloc (Nat.le_refl _) (.cells #[.int .i64 W, .int .u32 L] PT)).trans (k1.mono (by simp)))
  have hlt : w.heap.size < w1.heap.size := bk1.lt
  have KS := hid (fun w' => keepP (N := w1.heap.size) (w' := w') hlt c0 c1)
  have R0 := hid (Below.refl w1.heap.size w1)
  have HL1 := hid (HL.out.below K1.out)
  clear k1 bk bk1
  go_wp2_with fail
  go_region_held3 (fun w' => Hid (Below w1.heap.size w1 w') ∧ w'.cell? ⟨w.heap.size, 0, none⟩ = some (.int .i64 W) ∧ w'.cell? ⟨w.heap.size, 1, none⟩ = some (.int .u32 L)) (first | exact KS.out _ (by assumption) | exact KS.out _ (ext_drew (by assumption)))
    (first | (go_at_call 29; refine (turn_any A bl o _ l none 0 0 0 [] _ (row_ext HL1 (by assumption)) Row64.nil (by omega)).mono ?_; rintro e w2 ⟨v2, rfl, o2, k2⟩; have hq := ext_next (by assumption) (Nat.le_refl _) k2; have HT := own_ext (by assumption) (Nat.le_refl _) o2; (try replace HF := hid (HF.out.below k2)); clear k2 o2) | (go_at_call 9; refine (rem_len W L 0 R _ bl o _ l.length l _ h0 h1 (by omega) (by omega) (row_ext HL1 (by assumption)) HB (hid rfl) HR).mono ?_; rintro e w3 ⟨rfl, k3⟩; have hq := ext_next (by assumption) (Nat.le_refl _) k3; (try replace HT := hid (HT.out.below k3)); clear k3) | (go_at_call 26; refine (of_any R W _ hR0 hR1).mono ?_; rintro e w4 ⟨v4, rfl, o4, k4⟩; have hq := ext_next (by assumption) (Nat.le_refl _) k4; (try replace HT := hid (HT.out.below k4)); obtain ⟨A4, bl4, o4', c4, rfl, _, r4, _⟩ := o4.row; have HF := hid r4; clear o4 k4 r4) | (refine step_app8 rfl (.tmp 9) (.tmp 15) rfl w1.heap.size rfl rfl HT.out HF.out HF0 HLN (ext_size (by assumption) (Nat.le_refl _)) ?_; intro v5 w5 h5 k5; have hq := ext_next' (by assumption) k5; have H5 := hid h5; clear h5 k5))
  all_goals
    rw [HTV.out] at H5
    go_wp2_with fail
    go_ret
    exact ⟨_, rfl, H5.out.lower K1.out.size, ext_end K1 K1.out.size (by assumption)⟩

end Go.Proofs.Ytjlhbgkmebinjaa
