/- The reference's Seg, Segs. -/
import Derived.Test.YtpdomjinhbnmfaaSd3
set_option linter.unusedSimpArgs false
set_option linter.unusedVariables false
set_option linter.unnecessarySimpa false
set_option maxRecDepth 100000
namespace Go.Proofs.Ytpdomjinhbnmfaa
open Go.RowKit Go.Proofs.YtpdomjinhbnmfaaW.PrintWords
attribute [local go_sem] max2_max min2_min max_of_two min_of_two alL_v bdL_none bdL_one bxL_ln lnguard_eq lnguard_ne lnbin_eq lnbin_ne
attribute [local go_sem ↓] ldL_in bxL_in stL_in alL_in bdL_in cvS_in

theorem lnM {d : List Int} {i j : Nat} (hi : i ≤ d.length) (hj : j < 7) : ((d.take i ++ List.replicate 7 0).take 7)[j]? = some (if j < i then d.getD j 0 else 0) := by
  rw [List.getElem?_take, if_pos hj, List.getElem?_append, List.length_take, Nat.min_eq_left hi]
  by_cases h : j < i
  · rw [if_pos h, if_pos h, List.getElem?_take, if_pos h, List.getD_eq_getElem?_getD, List.getElem?_eq_getElem (by omega)]
    rfl
  · rw [if_neg h, if_neg h, List.getElem?_replicate, if_pos (by omega)]
theorem lnOf_set {k : Int} {d : List Int} {i : Nat} (hi : i < d.length) (hd : d.length ≤ 7) : (lnOf k (d.take i)).cells.setIfInBounds (i + 1) (.int .u8 (d.getD i 0)) = (lnOf k (d.take (i + 1))).cells := by
  have e : ((d.take i ++ List.replicate 7 0).take 7).set i (d.getD i 0) = (d.take (i + 1) ++ List.replicate 7 0).take 7 := by
    apply List.ext_getElem?
    intro j
    by_cases hj : j < 7
    · rw [lnM (by omega) hj, List.getElem?_set]
      by_cases hij : i = j
      · subst hij
        rw [if_pos rfl, if_pos (by simp; omega), if_pos (by omega)]
      · rw [if_neg hij, lnM (by omega) hj]
        by_cases h2 : j < i
        · rw [if_pos h2, if_pos (by omega)]
        · rw [if_neg h2, if_neg (by omega)]
    · rw [List.getElem?_eq_none (by simp; omega), List.getElem?_eq_none (by simp; omega)]
  show (List.map (Value.int .u8) (k :: (d.take i ++ List.replicate 7 0).take 7)).toArray.setIfInBounds (i + 1) (.int .u8 (d.getD i 0)) = (List.map (Value.int .u8) (k :: (d.take (i + 1) ++ List.replicate 7 0).take 7)).toArray
  rw [← e]
  simp only [List.setIfInBounds_toArray, List.map_cons, List.set_cons_succ, List.map_set]
set_option maxHeartbeats 2000000 in
theorem rseg_c (seq : Int) (q : Bool) (u : Value) (d : List Int) (w : World) (h0 : 1 ≤ seq) (h1 : seq ≤ 127) (hu : Bs w u d) (hd : d.length ≤ 7) :
    Calls Try.prog 32 #[.int .i64 seq, .bool q, u] w fun e w' => e = .returned (.tuple #[(lnOf (segK seq q) d).val, .int .i64 0]) ∧ Ext w w' := by
  obtain ⟨A, bl, o, c, rfl, hlc, hrow, hb⟩ := hu
  have e1 : decide (seq < 1) = false := by simp; omega
  have e2 : decide (127 < seq) = false := by simp; omega
  have e3 : decide (7 < (d.length : Int)) = false := by simp; omega
  have v1 : IntKind.u8.wrap seq = seq := by rw [IntKind.wrap_u8']; omega
  have v2 : IntKind.u8.wrap (seq + 128) = seq + 128 := by rw [IntKind.wrap_u8']; omega
  obtain ⟨K, hK⟩ : ∃ K, Is (segK seq q) K := ⟨_, Is.refl _⟩
  rw [hK.eq]
  have K0 : Ext w ((w.alloc (.cells Ln.zero.cells LT)).alloc (.cells Ln.zero.cells LT)) := (by repeat (first | with_reducible exact Ext.refl _ | with_reducible assumption | with_reducible apply Ext.alloc | with_reducible apply Ext.drew | with_reducible apply Ext.drewN | (with_reducible refine Ext.set' ?_ (by first | omega | (simp only [World.size_alloc, World.size_setCell]; omega))) | (with_reducible refine Ext.trans ?_ (by with_reducible assumption)) | (with_reducible refine Ext.only ?_ (by with_reducible assumption) (by omega))))
  have HB := Blk.new (w.alloc (.cells Ln.zero.cells LT)) Ln.zero.cells LT
  rw [World.size_alloc] at HB
  have HA := (Blk.new w Ln.zero.cells LT).alloc (.cells Ln.zero.cells LT)
  have HROW := hid hrow
  generalize hw1 : ((w.alloc (.cells Ln.zero.cells LT)).alloc (.cells Ln.zero.cells LT)) = w1 at *
  obtain ⟨w2, hw2⟩ : ∃ w2, Is (w1.setCell ⟨w.heap.size + 1, 0, none⟩ (.int .u8 seq)) w2 := ⟨_, Is.refl _⟩
  have hne : w.heap.size ≠ w.heap.size + 1 := by omega
  have B1 := HB.set 0 (.int .u8 seq)
  have o1 := (Only.refl (w.heap.size + 1) w1).set 0 (.int .u8 seq)
  have B2 := B1.set 0 (.int .u8 (seq + 128))
  have o2 := o1.set 0 (.int .u8 (seq + 128))
  have c0 := HB.lnat (j := 0) (by omega)
  have z0 := HB.free 0
  have c1 : (w1.setCell ⟨w.heap.size + 1, 0, none⟩ (.int .u8 seq)).cell? ⟨w.heap.size + 1, 0, none⟩ = some (.int .u8 seq) := B1.cell 0 _ rfl
  have z1 := B1.free 0
  have HW : Hid (∀ wf, (wf = w1.setCell ⟨w.heap.size + 1, 0, none⟩ (.int .u8 seq) ∧ q = false) ∨ (wf = (w1.setCell ⟨w.heap.size + 1, 0, none⟩ (.int .u8 seq)).setCell ⟨w.heap.size + 1, 0, none⟩ (.int .u8 (seq + 128)) ∧ q = true) → Blk wf (w.heap.size + 1) (lnOf K (d.take 0)).cells LT ∧ Blk wf w.heap.size Ln.zero.cells LT ∧ Ext w wf) := hid (fun wf h => by
    rcases h with ⟨rfl, rfl⟩ | ⟨rfl, rfl⟩
    · refine ⟨?_, HA.kept o1 hne, Ext.only K0 o1 (by omega)⟩
      have : K = seq := by rw [← hK.eq]; unfold segK; simp
      rw [this]
      exact B1
    · refine ⟨?_, HA.kept o2 hne, Ext.only K0 o2 (by omega)⟩
      have : K = seq + 128 := by rw [← hK.eq]; unfold segK; simp
      rw [this]
      exact B2)
  clear hw2 hK B1 o1 B2 o2 K0 HA HB hrow
  cases q
  · go_enter Try.func32, Try.ntmps32
    go_wp2_with fail
    obtain ⟨b1, b2, k1⟩ := HW.out _ (.inl ⟨rfl, by simp⟩)
    have H1 := hid b1
    have H2 := hid b2
    have H3 := hid k1
    clear b1 b2 k1 HW c0 z0 c1 z1
    go_loopg [9] d.length (fun g u9 wr => ∃ i : Nat, i + g = d.length ∧ u9 = .int .i64 (i : Int) ∧ Hid (Blk wr (w.heap.size + 1) (lnOf K (d.take i)).cells LT) ∧ Hid (Blk wr w.heap.size Ln.zero.cells LT) ∧ Hid (Ext w wr))
    case atStart => exact ⟨0, by omega, rfl, H1, H2, H3⟩
    case round =>
      clear H1 H2 H3
      obtain ⟨i, hig, rfl, H1, H2, H3⟩ := hrel
      by_cases hlt : i < d.length
      · have e4 : decide ((i : Int) < (d.length : Int)) = true := by simpa using hlt
        have i0 : (0 : Int) ≤ (i : Int) := by omega
        have i1 : (i : Int) < (d.length : Int) := by omega
        obtain ⟨rfl, _⟩ := HROW.out.2.1 (by omega)
        have cd := (HROW.out.ext H3.out).2.2 i hlt
        obtain ⟨J, hJ⟩ : ∃ J, Is (i + 1) J := ⟨_, Is.refl _⟩
        have w5 : IntKind.i64.wrap ((i : Int) + 1) = (J : Int) := (IntWalk.i64_in _ (by omega)).trans (by have := hJ.eq; omega)
        have j0 : (0 : Int) ≤ (J : Int) := by omega
        have j1 : (J : Int) < 8 := by have := hJ.eq; omega
        have cj := H1.out.lnat (j := J) (by omega)
        have zj := H1.out.free J
        have S1 := hid (show Blk (wr.setCell ⟨w.heap.size + 1, J, none⟩ (.int .u8 (d.getD i 0))) (w.heap.size + 1) (lnOf K (d.take (i + 1))).cells LT from by
          have := H1.out.set J (.int .u8 (d.getD i 0))
          rw [← hJ.eq, lnOf_set hlt hd] at this
          rw [← hJ.eq]
          exact this)
        have oj := (Only.refl (w.heap.size + 1) wr).set J (.int .u8 (d.getD i 0))
        have S2 := hid (H2.out.kept oj hne)
        have S3 := hid (Ext.only H3.out oj (Nat.le_succ _))
        generalize d.getD i 0 = x at *
        clear oj
        go_wp2_with fail
        go_roundg (gk - 1)
        case rel => exact ⟨i + 1, by omega, by have := hJ.eq; first | rw [this] | (subst this; rfl), S1, S2, S3⟩
        case measure => omega
      · obtain rfl : i = d.length := by omega
        have e4 : decide ((d.length : Int) < (d.length : Int)) = false := by simp
        have hb1 := H1.out
        rw [List.take_of_length_le (Nat.le_refl _)] at hb1
        have lf := ldL_blk hb1
        have st := stL_put wr w.heap.size (lnOf K d) ⟨_, H2.out⟩
        have HP := hid (putL_blk (lnOf K d) ⟨_, H2.out⟩)
        have KP := hid (putL_only wr w.heap.size (lnOf K d))
        clear hb1
        go_wp2_with fail
        exact bodyPost_ret (res_ln2 (Try.results32) rfl rfl HP.out) rfl ⟨rfl, Ext.only H3.out KP.out (Nat.le_refl _)⟩
  · go_enter Try.func32, Try.ntmps32
    go_wp2_with fail
    obtain ⟨b1, b2, k1⟩ := HW.out _ (.inr ⟨rfl, by simp⟩)
    have H1 := hid b1
    have H2 := hid b2
    have H3 := hid k1
    clear b1 b2 k1 HW c0 z0 c1 z1
    go_loopg [9] d.length (fun g u9 wr => ∃ i : Nat, i + g = d.length ∧ u9 = .int .i64 (i : Int) ∧ Hid (Blk wr (w.heap.size + 1) (lnOf K (d.take i)).cells LT) ∧ Hid (Blk wr w.heap.size Ln.zero.cells LT) ∧ Hid (Ext w wr))
    case atStart => exact ⟨0, by omega, rfl, H1, H2, H3⟩
    case round =>
      clear H1 H2 H3
      obtain ⟨i, hig, rfl, H1, H2, H3⟩ := hrel
      by_cases hlt : i < d.length
      · have e4 : decide ((i : Int) < (d.length : Int)) = true := by simpa using hlt
        have i0 : (0 : Int) ≤ (i : Int) := by omega
        have i1 : (i : Int) < (d.length : Int) := by omega
        obtain ⟨rfl, _⟩ := HROW.out.2.1 (by omega)
        have cd := (HROW.out.ext H3.out).2.2 i hlt
        obtain ⟨J, hJ⟩ : ∃ J, Is (i + 1) J := ⟨_, Is.refl _⟩
        have w5 : IntKind.i64.wrap ((i : Int) + 1) = (J : Int) := (IntWalk.i64_in _ (by omega)).trans (by have := hJ.eq; omega)
        have j0 : (0 : Int) ≤ (J : Int) := by omega
        have j1 : (J : Int) < 8 := by have := hJ.eq; omega
        have cj := H1.out.lnat (j := J) (by omega)
        have zj := H1.out.free J
        have S1 := hid (show Blk (wr.setCell ⟨w.heap.size + 1, J, none⟩ (.int .u8 (d.getD i 0))) (w.heap.size + 1) (lnOf K (d.take (i + 1))).cells LT from by
          have := H1.out.set J (.int .u8 (d.getD i 0))
          rw [← hJ.eq, lnOf_set hlt hd] at this
          rw [← hJ.eq]
          exact this)
        have oj := (Only.refl (w.heap.size + 1) wr).set J (.int .u8 (d.getD i 0))
        have S2 := hid (H2.out.kept oj hne)
        have S3 := hid (Ext.only H3.out oj (Nat.le_succ _))
        generalize d.getD i 0 = x at *
        clear oj
        go_wp2_with fail
        go_roundg (gk - 1)
        case rel => exact ⟨i + 1, by omega, by have := hJ.eq; first | rw [this] | (subst this; rfl), S1, S2, S3⟩
        case measure => omega
      · obtain rfl : i = d.length := by omega
        have e4 : decide ((d.length : Int) < (d.length : Int)) = false := by simp
        have hb1 := H1.out
        rw [List.take_of_length_le (Nat.le_refl _)] at hb1
        have lf := ldL_blk hb1
        have st := stL_put wr w.heap.size (lnOf K d) ⟨_, H2.out⟩
        have HP := hid (putL_blk (lnOf K d) ⟨_, H2.out⟩)
        have KP := hid (putL_only wr w.heap.size (lnOf K d))
        clear hb1
        go_wp2_with fail
        exact bodyPost_ret (res_ln2 (Try.results32) rfl rfl HP.out) rfl ⟨rfl, Ext.only H3.out KP.out (Nat.le_refl _)⟩

end Go.Proofs.Ytpdomjinhbnmfaa
