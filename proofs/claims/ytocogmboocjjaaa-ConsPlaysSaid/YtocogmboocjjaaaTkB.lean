/- Package cons: Begin, Value. -/
import Derived.Test.YtocogmboocjjaaaTkM
set_option linter.unusedSimpArgs false
set_option linter.unusedVariables false
set_option linter.unnecessarySimpa false
namespace Go.Proofs.Ytocogmboocjjaaa
open Go.RowKit Go.Proofs.YtocogmboocjjaaaW.PrintWords
attribute [local go_sem] max2_max min2_min max_of_two min_of_two bxF_fr stF_fr stF_fr2 stF_put ldF_put ldV_put ldF_new guard_eq guard_ne bin_eq bin_ne alF_fr bdF_none bdF_ask bdF_len bdF_dat ext_drew' ext_alloc
attribute [local go_sem ↓] ldF_in ldV_in bxF_in stF_in cvS_in alF_in bdF_in ixS_in
attribute [local go_sem] bxC_ch chguard_eq chguard_ne chbin_eq chbin_ne ldC_new bxT_v alT_v stT_put stT_new bdT_none bdT_failed bdT_v bdW_v gUpon gStill
attribute [local go_sem ↓] ldC_in bxC_in stC_in ldT_in bxT_in stT_in alT_in bdT_in bdW_in

/-- The blocks behind a doing: as they were, gone, or new. -/
def Nx (w : World) (b c c' : Nat) : Prop := c' = c ∨ c' = b ∨ w.heap.size ≤ c'
def Ts.begin (t : Ts) (now : Int) (on : Bool) (x : Ch) : Ts × Int :=
  if tkB now = false ∨ t.failed ≠ 0 then (t, 0)
  else if on = false ∨ x.tks = false then (Ts.rest 0, 0)
  else if t.works = false ∨ chEq t.x x = false then (Ts.start now x, 0)
  else if t.gd.check now = 0 then (t, 0) else (Ts.rest (t.gd.check now), t.gd.check now)

set_option maxRecDepth 100000 in
set_option maxHeartbeats 4000000 in
theorem begin_c (b cb gb : Nat) (t : Ts) (now : Int) (on : Bool) (x : Ch) (w : World) (h : TkAt w b cb gb t) :
    Calls Try.prog 9 #[.pointer (some ⟨b, 0, none⟩), .int .i64 now, .bool on, x.val] w fun e w' => e = .returned (.int .i64 (t.begin now on x).2) ∧ ∃ cb' gb', TkAt w' b cb' gb' (t.begin now on x).1 ∧ O3 b cb gb w w' ∧ Nx w b cb cb' ∧ Nx w b gb gb' := by
  have K0 : Ext w (w.alloc (.cells x.cells CT)) := (by repeat (first | with_reducible exact Ext.refl _ | with_reducible assumption | with_reducible apply Ext.alloc | with_reducible apply Ext.drew | with_reducible apply Ext.drewN | (with_reducible refine Ext.set' ?_ (by first | omega | (simp only [World.size_alloc, World.size_setCell]; omega))) | (with_reducible refine Ext.trans ?_ (by with_reducible assumption)) | (with_reducible refine Ext.only ?_ (by with_reducible assumption) (by omega))))
  have HX := hid (Blk.new w x.cells CT)
  have H1 := hid (h.ext K0)
  obtain ⟨R, hR⟩ : ∃ R, Is (t.begin now on x) R := ⟨_, Is.refl _⟩
  rw [hR.eq]
  have hsz : w.heap.size ≤ (w.alloc (.cells x.cells CT)).heap.size := K0.le
  have lx := ldC_blk HX.out
  clear h
  go_enter Try.func9, Try.ntmps9
  go_wp2_with fail
  generalize (w.alloc (.cells x.cells CT)) = w1 at *
  have hbw : b < w1.heap.size := hb_lt H1.out.tb
  obtain ⟨xb, hxb⟩ : ∃ q, Is w.heap.size q := ⟨_, Is.refl _⟩
  rw [hxb.eq] at HX lx hsz ⊢
  (with_reducible refine (ctick_c now _).mono ?_); rintro e w2 ⟨rfl, rfl⟩
  obtain ⟨q1, hq1⟩ : ∃ q, Is (tkB now) q := ⟨_, Is.refl _⟩
  rw [hq1.eq]
  have cf := H1.out.cf
  have cw := H1.out.cw
  obtain ⟨fl, hfl⟩ : ∃ q, Is t.failed q := ⟨_, Is.refl _⟩
  rw [hfl.eq] at cf
  have hxb' : xb < w1.heap.size := HX.out.lt
  have KE : Hid (O3 b cb gb w w1) := hid (.of_ext K0)
  have FIN : Hid (∀ w', O3 b cb gb w1 w' → O3 b cb gb w w') := hid (fun w' o => KE.out.trans o)
  cases q1
  · obtain rfl : R = (t, 0) := by rw [← hR.eq]; unfold Ts.begin; rw [if_pos (.inl hq1.eq)]
    clear hR hq1 lx
    go_wp2_with fail
    go_ret
    exact ⟨rfl, cb, gb, H1.out, KE.out, .inl rfl, .inl rfl⟩
  by_cases hf0 : fl = 0
  case neg =>
    have e1 : (fl != 0) = true := by simpa using hf0
    obtain rfl : R = (t, 0) := by rw [← hR.eq]; unfold Ts.begin; rw [if_pos (.inr (by rw [hfl.eq]; exact hf0))]
    clear hR hq1 lx hf0
    go_wp2_with fail
    go_ret
    exact ⟨rfl, cb, gb, H1.out, KE.out, .inl rfl, .inl rfl⟩
  subst hf0
  have hB0 : ¬ (tkB now = false ∨ t.failed ≠ 0) := by
    rw [hq1.eq, hfl.eq]; simp
  have TK := hid (fun w => ptakes_c x w)
  obtain ⟨tk, htk⟩ : ∃ q, Is x.tks q := ⟨_, Is.refl _⟩
  rw [htk.eq] at TK
  by_cases hon : on = true
  case neg =>
    obtain rfl : on = false := by simpa using hon
    obtain rfl : R = (Ts.rest 0, 0) := by rw [← hR.eq]; unfold Ts.begin; rw [if_neg hB0, if_pos (.inl rfl)]
    have HT := hid H1.out.tb
    clear hR hq1 hon TK htk hB0
    go_wp2_with fail
    (with_reducible refine (reset_c b _ HT.out).mono ?_); rintro e w3 ⟨rfl, hr, k3⟩
    go_wp2_with fail
    go_ret
    exact ⟨rfl, b, b, hr, FIN.out _ (.of1 k3), .inr (.inl rfl), .inr (.inl rfl)⟩
  subst hon
  cases tk
  · obtain rfl : R = (Ts.rest 0, 0) := by rw [← hR.eq]; unfold Ts.begin; rw [if_neg hB0, if_pos (.inr htk.eq)]
    clear hR hq1 htk hB0
    go_wp2_with fail
    (with_reducible refine (TK.out _).mono ?_); rintro e w3 ⟨rfl, k3⟩
    have HT := hid (H1.out.tb.ext k3)
    have K3 := hid k3
    clear k3
    go_wp2_with fail
    (with_reducible refine (reset_c b _ HT.out).mono ?_); rintro e w4 ⟨rfl, hr, k4⟩
    go_wp2_with fail
    go_ret
    exact ⟨rfl, b, b, hr, FIN.out _ ((O3.of_ext K3.out).trans (.of1 k4)), .inr (.inl rfl), .inr (.inl rfl)⟩
  have hC0 : ¬ (true = false ∨ x.tks = false) := by rw [htk.eq]; simp
  go_wp2_with fail
  (with_reducible refine (TK.out _).mono ?_); rintro e w3 ⟨rfl, k3⟩
  have H3 := hid (H1.out.ext k3)
  have HX3 := hid (k3.blk HX.out)
  have lx3 : (ldC (.pointer (some ⟨xb, 0, none⟩))).run Try.prog w3.drew = .ok x.val w3.drew := ldC_blk HX3.out.drew
  have lx3' : (ldC (.pointer (some ⟨xb, 0, none⟩))).run Try.prog w3 = .ok x.val w3 := ldC_blk HX3.out
  have cw3 := H3.out.cw
  have D : ∀ p : Addr, w3.drew.cell? p = w3.cell? p := fun p => rfl
  have HS3 : Hid (w.heap.size ≤ w3.heap.size) := hid (Nat.le_trans K0.le k3.le)
  have F3 : Hid (∀ w', O3 b cb gb w3 w' → O3 b cb gb w w') := hid (fun w' o => FIN.out w' ((O3.of_ext k3).trans o))
  have SD : Hid (∀ w', O3 b cb gb w3.drew w' → O3 b cb gb w w') := hid (fun w' o => F3.out w' ((O3.of_ext ((Ext.refl w3).drew)).trans o))
  obtain ⟨wk, hwk⟩ : ∃ q, Is t.works q := ⟨_, Is.refl _⟩
  rw [hwk.eq] at cw3
  have HTB := hid (H3.out.tb.ext ((Ext.refl w3).drew))
  have HSD : Hid (w.heap.size ≤ w3.drew.heap.size) := HS3
  clear k3 lx HX cw cf H1 KE FIN TK hsz hxb' hbw
  have STC : Hid (∀ w4 cb' gb', TkAt w4 b cb' gb' (Ts.start now x) → Only b w3.drew w4 → w3.drew.heap.size ≤ cb' → w3.drew.heap.size ≤ gb' → O3 b cb gb w w4 ∧ Nx w b cb cb' ∧ Nx w b gb gb') := hid (fun w4 cb' gb' h k h1 h2 =>
    ⟨SD.out w4 (.of1 k), .inr (.inr (Nat.le_trans HSD.out h1)), .inr (.inr (Nat.le_trans HSD.out h2))⟩)
  have ST := hid (start_c b now x w3.drew htk.eq HTB.out)
  cases wk
  · obtain rfl : R = (Ts.start now x, 0) := by rw [← hR.eq]; unfold Ts.begin; rw [if_neg hB0, if_neg hC0, if_pos (.inl hwk.eq)]
    clear hR hq1 hB0 hC0 hwk htk
    go_wp2_with fail
    go_region
    go_wp2_with fail
    (with_reducible refine (ST.out).mono ?_); rintro e w4 ⟨cb', gb', rfl, ht, k4, hc, hg⟩
    have HF := hid (And.intro ht (STC.out w4 cb' gb' ht k4 hc hg))
    clear ht k4 hc hg
    go_wp2_with fail
    go_ret
    exact ⟨rfl, cb', gb', HF.out⟩
  have lt3 : (ldC (.pointer (some ⟨b, 2, none⟩))).run Try.prog w3.drew = .ok t.x.val w3.drew := by
    rcases H3.out with ⟨_, h2, _⟩ | ⟨h1, _⟩
    · exact ldC_tr h2.drew
    · rw [hwk.eq] at h1; cases h1
  obtain ⟨eq, heq⟩ : ∃ q, Is (chEq t.x x) q := ⟨_, Is.refl _⟩
  have he := heq.eq
  cases eq
  · obtain rfl : R = (Ts.start now x, 0) := by rw [← hR.eq]; unfold Ts.begin; rw [if_neg hB0, if_neg hC0, if_pos (.inr heq.eq)]
    clear hR hq1 hB0 hC0 hwk htk heq
    go_wp2_with fail
    go_region
    go_wp2_with fail
    (with_reducible refine (ST.out).mono ?_); rintro e w4 ⟨cb', gb', rfl, ht, k4, hc, hg⟩
    have HF := hid (And.intro ht (STC.out w4 cb' gb' ht k4 hc hg))
    clear ht k4 hc hg
    go_wp2_with fail
    go_ret
    exact ⟨rfl, cb', gb', HF.out⟩
  have hD0 : ¬ (t.works = false ∨ chEq t.x x = false) := by rw [hwk.eq, heq.eq]; simp
  obtain ⟨h1, h2, h3, h4, h5, h6, h7⟩ : t.works = true ∧ Blk w3 b (Tr.cells ⟨some ⟨cb, 0, none⟩, some ⟨gb, 0, none⟩, t.x, true, 0⟩) TT ∧ CkAt w3 cb t.ck ∧ Blk w3 gb t.gd.cells GT ∧ t.failed = 0 ∧ t.gd.Ok ∧ t.ck.b.length ≤ 8 ∧ t.ck.value.length ≤ 8 := by
    rcases H3.out with h | ⟨h1, _⟩
    · exact h
    · rw [hwk.eq] at h1; cases h1
  have cg : w3.cell? ⟨b, 1, none⟩ = some (.pointer (some ⟨gb, 0, none⟩)) := h2.cell 1 _ rfl
  have CH := hid (check_any gb t.gd now w3.drew h4.drew h6)
  have H3D := hid (H3.out.ext ((Ext.refl w3).drew))
  have HEF : Hid (∀ w4, Ext w3.drew w4 → O3 b cb gb w w4) := hid (fun w4 k => SD.out w4 (.of_ext k))
  by_cases hc0 : t.gd.check now = 0
  · obtain rfl : R = (t, 0) := by rw [← hR.eq]; unfold Ts.begin; rw [if_neg hB0, if_neg hC0, if_neg hD0, if_pos hc0]
    rw [hc0] at CH
    clear hR hq1 hB0 hC0 hwk htk heq hD0 h1 h2 h3 h4 h5 h6 h7 hc0
    go_wp2_with fail
    go_region
    go_wp2_with fail
    (with_reducible refine (CH.out).mono ?_); rintro e w4 ⟨rfl, k4⟩
    have K4 : Ext w3.drew w4 := k4
    have HF := hid (And.intro (H3D.out.ext K4) (HEF.out w4 K4))
    clear k4 K4
    go_wp2_with fail
    (with_reducible refine (fail0_c b _).mono ?_); rintro e w5 ⟨rfl, rfl⟩
    go_wp2_with fail
    go_ret
    exact ⟨rfl, cb, gb, HF.out.1, HF.out.2, .inl rfl, .inl rfl⟩
  · obtain rfl : R = (Ts.rest (t.gd.check now), t.gd.check now) := by rw [← hR.eq]; unfold Ts.begin; rw [if_neg hB0, if_neg hC0, if_neg hD0, if_neg hc0]
    have HC := hid hc0
    clear hR hq1 hB0 hC0 hwk htk heq hD0 h1 h2 h3 h4 h5 h6 h7 hc0
    go_wp2_with fail
    go_region
    go_wp2_with fail
    (with_reducible refine (CH.out).mono ?_); rintro e w4 ⟨rfl, k4⟩
    have K4 : Ext w3.drew w4 := k4
    have HF := hid (And.intro (H3D.out.ext K4).tb (HEF.out w4 K4))
    clear k4 K4
    go_wp2_with fail
    (with_reducible refine (fail1_c b _ _ HC.out HF.out.1).mono ?_); rintro e w5 ⟨rfl, hr, k5⟩
    go_wp2_with fail
    go_ret
    exact ⟨rfl, b, b, hr, HF.out.2.trans (.of1 k5), .inr (.inl rfl), .inr (.inl rfl)⟩

theorem value_nil' (w : World) : Calls Try.prog 18 #[.pointer none] w fun e w' => e = .returned (.tuple #[.slice none 0 0, .bool false]) ∧ w = w' := by
  go_enter Try.func18, Try.ntmps18
  go_wp2_with fail
  (with_reducible refine (works_nil _).mono ?_); rintro e w1 ⟨rfl, rfl⟩
  go_wp2_with fail
  go_ret2
  exact ⟨rfl, rfl⟩
/-- What it answers of its value. -/
def Ts.val (t : Ts) : List Int := if t.works = true then t.ck.value else []
theorem value_c (b cb gb : Nat) (t : Ts) (w : World) (h : TkAt w b cb gb t) :
    Calls Try.prog 18 #[.pointer (some ⟨b, 0, none⟩)] w fun e w' => ∃ u, e = .returned (.tuple #[u, .bool (!decide (t.val = []))]) ∧ Bt w' u t.val ∧ Ext w w' := by
  have cw := h.cw
  have WK := hid (works_c b t.works w cw)
  rcases h with ⟨h1, h2, h3, h4, h5, h6, h7, h8⟩ | ⟨h1, h2, h3⟩
  · have hv : t.val = t.ck.value := if_pos h1
    rw [hv]
    rw [h1] at WK cw
    have c0 : w.cell? ⟨b, 0, none⟩ = some (.pointer (some ⟨cb, 0, none⟩)) := h2.cell 0 _ rfl
    have VL := hid (value_k cb t.ck w h3 (by omega))
    have HB : Hid (Byt t.ck.value) := hid (by obtain ⟨_, _, _, _, q⟩ := h3; exact q.2)
    generalize t.ck.value = l at *
    clear h1 h2 h3 h4 h5 h6 h7 h8 hv
    have hd : decide ((0 : Int) < (l.length : Int)) = !decide (l = []) := by
      rcases l with _ | ⟨a, t⟩
      · rfl
      · simp
    have hd2 : decide (0 < l.length) = !decide (l = []) := by
      rcases l with _ | ⟨a, t⟩
      · rfl
      · simp
    go_enter Try.func18, Try.ntmps18
    go_wp2_with fail
    (with_reducible refine (WK.out).mono ?_); rintro e w1 ⟨rfl, rfl⟩
    go_wp2_with fail
    (with_reducible refine (VL.out).mono ?_); rintro e w2 ⟨u, rfl, ho, k2⟩
    have hb := Bt.own ho HB.out
    obtain ⟨A, c, rfl⟩ := hb.form
    clear ho
    go_wp2_with fail
    go_ret2
    exact ⟨_, rfl, hb, k2⟩
  · have hv : t.val = [] := if_neg (by rw [h1]; simp)
    rw [hv]
    rw [h1] at WK cw
    clear h1 h2 h3 hv
    go_enter Try.func18, Try.ntmps18
    go_wp2_with fail
    (with_reducible refine (WK.out).mono ?_); rintro e w1 ⟨rfl, rfl⟩
    go_wp2_with fail
    go_ret2
    exact ⟨_, rfl, Bt.nil _, Ext.refl _⟩

end Go.Proofs.Ytocogmboocjjaaa
