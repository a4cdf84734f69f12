/- Package pair: count, Unlike. -/
import Derived.Test.YtfjmflkfnccohaaPair5
set_option linter.unusedSimpArgs false
set_option linter.unusedVariables false
set_option linter.unnecessarySimpa false
namespace Go.Proofs.Ytfjmflkfnccohaa
open Go.RowKit Go.Proofs.YtfjmflkfnccohaaW.PrintWords
attribute [local go_sem] max2_max min2_min max_of_two min_of_two bxF_fr stF_fr stF_fr2 stF_put ldF_put ldV_put ldF_new guard_eq guard_ne bin_eq bin_ne alF_fr bdF_none bdF_ask bdF_len bdF_dat ext_drew' ext_alloc
attribute [local go_sem ↓] ldF_in ldV_in bxF_in stF_in cvS_in alF_in bdF_in ixS_in
attribute [local go_sem] gUpon

theorem unlF_step {acc : Int} {a b : List Int} {i : Nat} (ha : i < a.length) (hb : i < b.length) : unlF acc (a.drop i) (b.drop i) = unlF (acc + unl (a.getD i 0) (b.getD i 0)) (a.drop (i + 1)) (b.drop (i + 1)) := by
  rw [drop_getD ha, drop_getD hb]
  rfl
theorem unlF_end {acc : Int} {a b : List Int} {i : Nat} (h : a.length ≤ i ∨ b.length ≤ i) : unlF acc (a.drop i) (b.drop i) = acc := by
  rcases h with h | h
  · rw [List.drop_eq_nil_of_le h]; cases b.drop i <;> rfl
  · rw [List.drop_eq_nil_of_le h]; cases a.drop i <;> rfl

set_option maxRecDepth 100000 in
set_option maxHeartbeats 1000000 in
theorem count_c (va vb : Value) (a b : List Int) (w : World) (ha : Bs w va a) (hb : Bs w vb b) (hn : a.length ≤ 1000000) (hm : b.length ≤ 1000000) :
    Calls Try.prog 31 #[va, vb, .func (.func 32) #[] #[]] w fun e w' => e = .returned (.int .i64 (unlF 0 a b)) ∧ Ext w w' := by
  obtain ⟨A, bl, o, c, rfl, hlc, hra, hya⟩ := ha
  obtain ⟨B, bm, om, cm, rfl, hlm, hrb, hyb⟩ := hb
  obtain ⟨R, hR⟩ : ∃ R, Is (unlF 0 a b) R := ⟨_, Is.refl _⟩
  rw [hR.eq]
  obtain ⟨n, hn'⟩ : ∃ n : Nat, min a.length b.length = n := ⟨_, rfl⟩
  have hmn : min (a.length : Int) (b.length : Int) = (n : Int) := by omega
  have K0 := Ext.refl w
  go_enter Try.func31, Try.ntmps31
  go_wp2_with fail
  go_loopg [7, 14] n (fun g u7 u14 wr => ∃ (i : Nat) (acc : Int), i + g = n ∧ u14 = .int .i64 i ∧ u7 = .int .i64 acc ∧ 0 ≤ acc ∧ acc ≤ 8 * i ∧ Is (unlF acc (a.drop i) (b.drop i)) R ∧ Ext w wr)
  case atStart => exact ⟨0, 0, by omega, rfl, rfl, by omega, by omega, hR, K0⟩
  case round =>
    clear K0 hR
    obtain ⟨i, acc, hig, rfl, rfl, ha0, ha1, hR, K⟩ := hrel
    by_cases hlt : i < n
    · have e1 : decide ((i : Int) < (n : Int)) = true := by simpa using hlt
      have i0 : (0 : Int) ≤ (i : Int) := by omega
      have i1 : (i : Int) < (a.length : Int) := by omega
      have i2 : (i : Int) < (b.length : Int) := by omega
      obtain ⟨rfl, ca⟩ := hra.cell K (i := i) (by omega)
      obtain ⟨rfl, cb⟩ := hrb.cell K (i := i) (by omega)
      have hR2 : Is (unlF (acc + unl (a.getD i 0) (b.getD i 0)) (a.drop (i + 1)) (b.drop (i + 1))) R := Is.mk (by rw [← unlF_step (by omega) (by omega)]; exact hR.eq)
      obtain ⟨x0, x1⟩ := hya.at (i := i) (by omega)
      obtain ⟨y0, y1⟩ := hyb.at (i := i) (by omega)
      generalize a.getD i 0 = x at *
      generalize b.getD i 0 = y at *
      have UC := hid (fun w => unl1_c x y w x0 x1 y0 y1)
      obtain ⟨u0, u1⟩ := unl_le x0 x1 y0 y1
      have hw : IntKind.i64.wrap (acc + unl x y) = acc + unl x y := IntWalk.i64_in _ (by omega)
      have A0 : ∀ z : After wr, z.wd.cell? ⟨bl, o + i, none⟩ = some (.int .u8 x) := After.cell ca
      have B0 : ∀ z : After wr, z.wd.cell? ⟨bm, om + i, none⟩ = some (.int .u8 y) := After.cell cb
      clear ca cb hR
      generalize unl x y = q at *
      go_wp2_with fail
      refine wp_region_go (sp := spOf (R := Ext) [(10, Told.val (R := Ext) (.int .i64 q))]) (C := fun w' => ∃ n : After wr, w' = n.wd) (R := Ext) (by kernel_rfl) (by kernel_rfl) (spOf_mono _) (After.drew _) ?_
      repeat (first | (first | ((with_reducible refine go_nil ?_)) | (refine go_skip' (by rfl) ?_; (try simp only [Act.put, List.setIfInBounds_toArray, List.set_cons_zero, List.set_cons_succ])) | (refine go_quiet' (by rfl) (by rfl) (by rfl) ?_; intro K hK; go_big_quiet_op; go_big_quiet_on) | (refine go_nilcheck _ _ rfl rfl (by rfl) (by rfl) ?_; (try simp only [Act.put, List.setIfInBounds_toArray, List.set_cons_zero, List.set_cons_succ]))) | (refine go_act (by rfl) (by rfl) ?_ ?_; (focus (intro w' hC hM; obtain ⟨x, rfl⟩ := hC; go_simp; (with_reducible refine Calls.told (UC.out _)); done)); intro v hv; obtain ⟨_, _, hv, _⟩ := hv; obtain rfl := hv; (try simp only [Act.put, List.setIfInBounds_toArray, List.set_cons_zero, List.set_cons_succ])))
      intro w1 hC hall
      obtain ⟨z, rfl⟩ := hC
      have KX := Ext.trans K z.ext
      generalize z.wd = wx at *
      clear hall A0 B0
      go_wp2_with fail
      go_roundg (gk - 1)
      case rel => exact ⟨i + 1, acc + q, by omega, by go_num, rfl, by omega, by omega, hR2, KX⟩
      case measure => omega
    · obtain rfl : i = n := by omega
      have e1 : decide ((i : Int) < (i : Int)) = false := by simp
      have hE : acc = R := by rw [← hR.eq, unlF_end (by omega)]
      subst hE
      clear hR
      go_wp2_with fail
      go_ret
      exact ⟨rfl, K⟩

theorem unlike_c (va vb : Value) (a b : List Int) (w : World) (ha : Bs w va a) (hb : Bs w vb b) (hn : a.length ≤ 1000000) (hm : b.length ≤ 1000000) :
    Calls Try.prog 23 #[va, vb] w fun e w' => e = .returned (.int .i64 (unlF 0 a b)) ∧ Ext w w' := by
  have C := hid (count_c va vb a b w ha hb hn hm)
  clear ha hb
  go_enter Try.func23, Try.ntmps23
  go_wp2_with fail
  (with_reducible refine (C.out).mono ?_); rintro e w1 ⟨rfl, k1⟩
  go_wp2_with fail
  go_ret
  exact ⟨rfl, k1⟩

end Go.Proofs.Ytfjmflkfnccohaa
