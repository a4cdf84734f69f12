/- A receiver of blocks: Ack, End. -/
import Derived.Test.YtpdomjinhbnmfaaTkr
set_option linter.unusedSimpArgs false
set_option linter.unusedVariables false
set_option linter.unnecessarySimpa false
set_option maxRecDepth 100000
namespace Go.Proofs.Ytpdomjinhbnmfaa
open Go.RowKit Go.Proofs.YtpdomjinhbnmfaaW.PrintWords
attribute [local go_sem] max2_max min2_min max_of_two min_of_two alL_v bdL_none bdL_one bxL_ln lnguard_eq lnguard_ne lnbin_eq lnbin_ne
attribute [local go_sem ↓] ldL_in bxL_in stL_in alL_in bdL_in cvS_in
attribute [local go_sem] gUpon gStill
attribute [local go_sem ↓] ap8_in

theorem nextT_c (g : Nat) (t : Td) (u : Value) (n : Int) (w : World) (h : Blk w g (t.cells u) MT) :
    Calls Try.prog 30 #[.pointer (some ⟨g, 0, none⟩), .int .i64 n] w fun e w' => e = .returned (.tuple #[]) ∧ Blk w' g (Td.cells ⟨n, 0, t.b, t.last⟩ u) MT ∧ Only g w w' := by
  have c0 := h.cell 0 _ rfl
  have c1 := h.cell 1 _ rfl
  have z0 := h.free 0
  have z1 := h.free 1
  have HP := hid ((h.set 0 (.int .i64 n)).set 1 (.int .i64 0))
  have KP := hid (((Only.refl g w).set 0 (.int .i64 n)).set 1 (.int .i64 0))
  clear h
  go_enter Try.func30, Try.ntmps30
  go_wp2_with fail
  go_end0
  exact ⟨rfl, HP.out, KP.out⟩
theorem TdAt.size {w : World} {B g : Nat} {t : Td} (h : TdAt w B g t) : g < w.heap.size := by
  obtain ⟨u, h1, _⟩ := h
  exact h1.lt
set_option maxHeartbeats 1000000 in
theorem tack_c (B g : Nat) (t : Td) (w : World) (h : TdAt w B g t) (hB : B ≤ g) (hBw : B ≤ w.heap.size) :
    Calls Try.prog 22 #[.pointer (some ⟨g, 0, none⟩)] w fun e w' => e = .returned (.tuple #[.int .i64 t.n, .int .i64 t.size]) ∧ TdAt w' B g ⟨t.size, 0, t.b, t.last⟩ ∧ O8 B g w w' := by
  obtain ⟨u, hb, ho, hbt⟩ := h
  have c1 : w.cell? ⟨g, 1, none⟩ = some (.int .i64 t.n) := hb.cell 1 _ rfl
  have c0 : w.drew.cell? ⟨g, 0, none⟩ = some (.int .i64 t.size) := hb.cell 0 _ rfl
  have NX := hid (nextT_c g t u t.size w.drew hb.drew)
  have FN : Hid (∀ w', Blk w' g (Td.cells ⟨t.size, 0, t.b, t.last⟩ u) MT → Only g w.drew w' → TdAt w' B g ⟨t.size, 0, t.b, t.last⟩ ∧ O8 B g w w') := hid (fun w' h1 o1 => by
    have o2 : Only g w w' := (Only.of_ext ((Ext.refl w).drew)).trans o1
    refine ⟨⟨u, h1, ?_, hbt⟩, O8.of_only o2 hBw hB⟩
    obtain ⟨h0, hh⟩ := ho
    refine ⟨h0, ?_⟩
    rcases hh with hh | ⟨k, cap, cur, hv, hkB, hk, r⟩
    · exact .inl hh
    · refine .inr ⟨k, cap, cur, hv, hkB, ?_, r⟩
      exact Blk.kept (b := k) (cs := cur) (t := U8) hk o2 (fun e => by
        subst e
        unfold Blk at hb
        rw [hb] at hk
        injection hk with hk
        injection hk with _ hk _
        exact absurd hk (by decide)))
  clear hb ho hbt
  go_enter Try.func22, Try.ntmps22
  go_wp2_with fail
  go_region_with (go_at_call 30; (with_reducible refine (NX.out).mono ?_); rintro e w2 ⟨rfl, hb2, k2⟩; have HB2 := hid hb2; have K2 := hid k2; clear hb2 k2)
  all_goals
    have HF := hid (FN.out _ HB2.out K2.out)
    have c20 : w2.drew.cell? ⟨g, 0, none⟩ = some (.int .i64 t.size) := HB2.out.cell 0 _ rfl
    have hdr := HF.out.2.trans (O8.of_ext (B := B) (g := g) ((Ext.refl w2).drew) (by have := K2.out.size; exact Nat.le_trans hBw this))
    have HDR := hid (And.intro (HF.out.1.ext ((Ext.refl w2).drew)) hdr)
    clear hdr c1 c0
    go_wp2_with fail
    go_region
    go_wp2_with fail
    go_ret2
    exact ⟨rfl, HDR.out⟩

theorem bs_head {w : World} {A : Option Addr} {c T : Nat} {l : List Int} (h : Bs w (.slice A l.length c) l) (hT : T ≤ l.length) : Bs w (.slice A T c) (l.take T) := by
  obtain ⟨A', bl, o, c', he, hlc, hr, hb⟩ := h
  injection he with h1 _ h2
  subst h1 h2
  exact Bs.of_row (by rw [List.length_take]; omega) (by omega) (hr.take T) (fun x hx => hb x (List.mem_of_mem_take hx))
theorem tend_no (g : Nat) (q : Bool) (n : Int) (w : World) (h : w.cell? ⟨g, 3, none⟩ = some (.bool q)) (hq : q = false ∨ n < 0 ∨ 7 < n) :
    Calls Try.prog 21 #[.pointer (some ⟨g, 0, none⟩), .int .i64 n] w fun e w' => e = .returned (.tuple #[.slice none 0 0, .int .i64 (if q = false then 134217762 else 101122064)]) ∧ w = w' := by
  have WC := hid (whole_c g q w h)
  cases q
  · clear h hq
    go_enter Try.func21, Try.ntmps21
    go_wp2_with fail
    (with_reducible refine (WC.out).mono ?_); rintro e w1 ⟨rfl, rfl⟩
    go_wp2_with fail
    go_ret2
    exact ⟨rfl, rfl⟩
  · have hq' : n < 0 ∨ 7 < n := by rcases hq with h | h; cases h; exact h
    by_cases h0 : n < 0
    · have e1 : decide (n < 0) = true := by simpa using h0
      clear h hq hq' h0
      go_enter Try.func21, Try.ntmps21
      go_wp2_with fail
      (with_reducible refine (WC.out).mono ?_); rintro e w1 ⟨rfl, rfl⟩
      go_wp2_with fail
      go_ret2
      exact ⟨rfl, rfl⟩
    · have e1 : decide (n < 0) = false := by simpa using h0
      have e2 : decide (7 < n) = true := by simp; omega
      clear h hq hq' h0
      go_enter Try.func21, Try.ntmps21
      go_wp2_with fail
      (with_reducible refine (WC.out).mono ?_); rintro e w1 ⟨rfl, rfl⟩
      go_wp2_with fail
      go_ret2
      exact ⟨rfl, rfl⟩
set_option maxHeartbeats 1000000 in
theorem tend_c (B g : Nat) (t : Td) (n : Nat) (w : World) (h : TdAt w B g t) (hl : t.last = true) (hn : n ≤ 7) (hb7 : n ≤ t.b.length) :
    Calls Try.prog 21 #[.pointer (some ⟨g, 0, none⟩), .int .i64 n] w fun e w' => ∃ u, e = .returned (.tuple #[u, .int .i64 0]) ∧ Own8 w' w.heap.size u (t.b.take (t.b.length - n)) ∧ Ext w w' := by
  obtain ⟨u, hb, ho, hbt, hlen⟩ := h
  obtain ⟨A, c, rfl⟩ := own8_form ho
  have hcl : t.b.length ≤ c := by
    obtain ⟨A', bl, o, c', he, hc, _⟩ := ho.row
    injection he with _ _ h2
    omega
  have WC := hid (whole_c g t.last w (hb.cell 3 _ rfl))
  rw [hl] at WC
  obtain ⟨T, hT⟩ : ∃ T, t.b.length - n = T := ⟨_, rfl⟩
  have e1 : decide ((n : Int) < 0) = false := by simp
  have e2 : decide (7 < (n : Int)) = false := by simp; omega
  have c2 : ∀ x : After w, x.wd.cell? ⟨g, 2, none⟩ = some (.slice A t.b.length c) := After.cell (hb.cell 2 _ rfl)
  have w1 : IntKind.i64.wrap ((t.b.length : Int) - (n : Int)) = (T : Int) := (IntWalk.i64_in _ (by omega)).trans (by omega)
  have f1 : (T : Int) ≤ (c : Int) := by omega
  have f0 : (0 : Int) ≤ (T : Int) := by omega
  rw [hT]
  have BS := hid (fun x : After w => bs_head (T := T) (Bs.own (ho.below x.ext) hbt) (by omega))
  have HL := hid (show (List.length ([] : List Int)) + (t.b.take T).length ≤ 1000000 by rw [List.length_take]; simp; omega)
  generalize t.b.take T = d at *
  generalize t.b.length = L at *
  clear hb ho hbt hlen hcl hT hl hn hb7
  go_enter Try.func21, Try.ntmps21
  go_wp2_with fail
  (with_reducible refine (WC.out).mono ?_); rintro e w1 ⟨rfl, rfl⟩
  go_wp2_with fail
  refine wp_region_go (sp := spOf (R := Ext) [(12, Told.o8 w.heap.size d)]) (C := fun w' => ∃ n : After w, w' = n.wd) (R := Ext) (by kernel_rfl) (by kernel_rfl) (spOf_mono _) (After.drew _) ?_
  repeat (first | ((with_reducible refine go_nil ?_)) | (refine go_skip' (by rfl) ?_; (try simp only [Act.put, List.setIfInBounds_toArray, List.set_cons_zero, List.set_cons_succ])) | (refine go_quiet' (by rfl) (by rfl) (by rfl) ?_; intro K hK; go_big_quiet_op; go_big_quiet_on) | (refine go_nilcheck _ _ rfl rfl (by rfl) (by rfl) ?_; (try simp only [Act.put, List.setIfInBounds_toArray, List.set_cons_zero, List.set_cons_succ])))
  (refine go_act (by rfl) (by rfl) ?_ ?_; (focus (intro w' hC hM; obtain ⟨x, rfl⟩ := hC; ((obtain ⟨u, w', hrun, ho, kb, _, ke⟩ := app8_run (Own8.nil x.wd w.heap.size) (BS.out x) HL.out (x.ext.le); clear hM c2; go_simp; first | exact ⟨⟨⟨w', x.ext.trans (ke rfl)⟩, rfl⟩, ke rfl, ho⟩ | exact ⟨⟨⟨w', x.ext.trans (ke rfl)⟩, rfl⟩, ho⟩ | exact ⟨⟨w', x.ext.trans (ke rfl)⟩, rfl⟩ | exact (5 : Nat))))); intro v hv; obtain ⟨_, _, hv, _⟩ := hv; ((revert hv; revert v; intro u1 hv)); (try simp only [Act.put, List.setIfInBounds_toArray, List.set_cons_zero, List.set_cons_succ]))
  repeat (first | ((with_reducible refine go_nil ?_)) | (refine go_skip' (by rfl) ?_; (try simp only [Act.put, List.setIfInBounds_toArray, List.set_cons_zero, List.set_cons_succ])) | (refine go_quiet' (by rfl) (by rfl) (by rfl) ?_; intro K hK; go_big_quiet_op; go_big_quiet_on) | (refine go_nilcheck _ _ rfl rfl (by rfl) (by rfl) ?_; (try simp only [Act.put, List.setIfInBounds_toArray, List.set_cons_zero, List.set_cons_succ])))
  intro w2 hC hall
  obtain ⟨x, rfl⟩ := hC
  have hO := hid (hall _ (.inl rfl) : Own8 x.wd w.heap.size u1 d)
  have hK := hid x.ext
  clear hall c2
  go_wp2_with fail
  go_ret2
  exact ⟨_, rfl, hO.out, hK.out⟩

end Go.Proofs.Ytpdomjinhbnmfaa
