/- What must be whatever is asked. -/
import Derived.Test.YtpdomjinhbnmfaaSd3
set_option linter.unusedSimpArgs false
set_option linter.unusedVariables false
set_option linter.unnecessarySimpa false
set_option maxRecDepth 100000
namespace Go.Proofs.Ytpdomjinhbnmfaa
open Go.RowKit Go.Proofs.YtpdomjinhbnmfaaW.PrintWords
attribute [local go_sem] max2_max min2_min max_of_two min_of_two alL_v bdL_none bdL_one bxL_ln lnguard_eq lnguard_ne lnbin_eq lnbin_ne
attribute [local go_sem ↓] ldL_in bxL_in stL_in alL_in bdL_in cvS_in
attribute [local go_sem] bsL_one bsL_none
attribute [local go_sem ↓] bsL_in

def digits : List Int := [48, 49, 50, 51, 52, 53, 54, 55, 56, 57]
theorem digits_bs (w : World) : Bs (w.alloc (.cells #[.int .u8 48, .int .u8 49, .int .u8 50, .int .u8 51, .int .u8 52, .int .u8 53, .int .u8 54, .int .u8 55, .int .u8 56, .int .u8 57] U8)) (.slice (some ⟨w.heap.size, 0, none⟩) 10 10) digits := by
  have hb := Blk.new w #[.int .u8 48, .int .u8 49, .int .u8 50, .int .u8 51, .int .u8 52, .int .u8 53, .int .u8 54, .int .u8 55, .int .u8 56, .int .u8 57] U8
  refine Bs.of_row (bl := w.heap.size) (o := 0) rfl (Nat.le_refl _) ⟨by decide, fun _ => ⟨rfl, hb.lt⟩, fun i hi => ?_⟩ (by decide)
  have hi' : i < 10 := hi
  rcases (by omega : i = 0 ∨ i = 1 ∨ i = 2 ∨ i = 3 ∨ i = 4 ∨ i = 5 ∨ i = 6 ∨ i = 7 ∨ i = 8 ∨ i = 9) with rfl | rfl | rfl | rfl | rfl | rfl | rfl | rfl | rfl | rfl <;> exact hb.cell _ _ rfl
def ln1 : Ln := ⟨[1, 48, 49, 50, 51, 52, 53, 54], rfl⟩
def ln2 : Ln := ⟨[130, 55, 56, 57, 0, 0, 0, 0], rfl⟩
theorem digits_segs : segLs digits 0 2 = [ln1, ln2] := by
  have : (segLs digits 0 2).map Ln.l = [ln1, ln2].map Ln.l := by decide
  rcases h : segLs digits 0 2 with _ | ⟨a, _ | ⟨b, _ | ⟨c, q⟩⟩⟩ <;> rw [h] at this <;> simp only [List.map_cons, List.map_nil] at this
  · cases this
  · injection this with _ h2; cases h2
  · injection this with h1 h2
    injection h2 with h2 _
    rw [Ln.ext h1, Ln.ext h2]
  · injection this with _ h2; injection h2 with _ h3; cases h3
set_option maxHeartbeats 2000000 in
theorem clive_c (w : World) : Calls Try.prog 7 #[] w fun e w' => e = .returned (.bool true) ∧ Ext w w' := by
  have K0 : Ext w (w.alloc (.cells #[.int .u8 48, .int .u8 49, .int .u8 50, .int .u8 51, .int .u8 52, .int .u8 53, .int .u8 54, .int .u8 55, .int .u8 56, .int .u8 57] U8)) := (by repeat (first | with_reducible exact Ext.refl _ | with_reducible assumption | with_reducible apply Ext.alloc | with_reducible apply Ext.drew | with_reducible apply Ext.drewN | (with_reducible refine Ext.set' ?_ (by first | omega | (simp only [World.size_alloc, World.size_setCell]; omega))) | (with_reducible refine Ext.trans ?_ (by with_reducible assumption)) | (with_reducible refine Ext.only ?_ (by with_reducible assumption) (by omega))))
  have hrun := run_conv8 _ _ 10 10 _ (Blk.new w #[.int .u8 48, .int .u8 49, .int .u8 50, .int .u8 51, .int .u8 52, .int .u8 53, .int .u8 54, .int .u8 55, .int .u8 56, .int .u8 57] U8)
  have hbs := digits_bs w
  have HK0 := hid (below_freeze K0 ⟨w.heap.size, 10, none⟩ 1 (Nat.le_refl _))
  have hbs' : Bs ((w.alloc (.cells #[.int .u8 48, .int .u8 49, .int .u8 50, .int .u8 51, .int .u8 52, .int .u8 53, .int .u8 54, .int .u8 55, .int .u8 56, .int .u8 57] U8)).freeze ⟨w.heap.size, 10, none⟩ 1) (.slice (some ⟨w.heap.size, 0, none⟩) 10 10) digits := by
    obtain ⟨A, bl, o, c, he, hc, hr, hb⟩ := hbs
    exact ⟨A, bl, o, c, he, hc, ⟨hr.1, fun h => ⟨(hr.2.1 h).1, by rw [size_freeze]; exact (hr.2.1 h).2⟩, fun i hi => by rw [cell_freeze]; exact hr.2.2 i hi⟩, hb⟩
  have NS := hid (newsend_c _ digits 4 _ hbs' (by decide) (by decide))
  clear K0 hbs hbs'
  go_enter Try.func7, Try.ntmps7
  go_wp2_with fail
  (with_reducible refine (NS.out).mono ?_); rintro e w1 ⟨g, u, rfl, hs, hg, k1⟩
  have HS := hid hs
  have K1 := hid (Ext.trans (a := w) HK0.out k1)
  have hgw : w.heap.size ≤ g := Nat.le_trans HK0.out.size hg
  clear NS hs hg k1 hrun HK0
  go_wp2_with fail
  (with_reducible refine (sblock_c g u ⟨4, 0, digits, 0⟩ 0 2 w1 HS.out rfl (by decide) (by decide) (by decide)).mono ?_); rintro e w2 ⟨v, rfl, ho, hs2, o2⟩
  rw [digits_segs] at ho
  obtain ⟨A, bl, c, hv, hc2, hrow⟩ := ho.rows (by decide)
  subst hv
  obtain ⟨rfl, hbl⟩ := hrow.2.1 (by decide)
  have HS2 := hid hs2
  have K2 := hid (Ext.only K1.out o2 hgw)
  have HR := hid hrow
  clear ho hs2 o2 hrow K1 HS hc2
  go_wp2_with fail
  (with_reducible refine (send_c g u _ w2 HS2.out).mono ?_); rintro e w3 ⟨rfl, k3⟩
  have K3 := hid (K2.out.trans k3)
  have c0 : w3.cell? ⟨bl, 0, none⟩ = some (.int .u8 1) := k3.cell (HR.out.2.2 0 ln1 rfl 0 _ rfl)
  have c8 : w3.cell? ⟨bl, 8, none⟩ = some (.int .u8 130) := k3.cell (HR.out.2.2 1 ln2 rfl 0 _ rfl)
  have c11 : w3.cell? ⟨bl, 11, none⟩ = some (.int .u8 57) := k3.cell (HR.out.2.2 1 ln2 rfl 3 _ rfl)
  have c12 : w3.cell? ⟨bl, 12, none⟩ = some (.int .u8 0) := k3.cell (HR.out.2.2 1 ln2 rfl 4 _ rfl)
  have hn : ((nseg (Sd.b ⟨4, (2 : Nat), digits, (0 : Nat)⟩) : Int) * 7 - ((Sd.b ⟨4, (2 : Nat), digits, (0 : Nat)⟩).length : Int)) = 4 := by decide
  rw [hn]
  clear k3
  go_wp2_with fail
  go_ret
  exact ⟨rfl, K3.out⟩

end Go.Proofs.Ytpdomjinhbnmfaa
