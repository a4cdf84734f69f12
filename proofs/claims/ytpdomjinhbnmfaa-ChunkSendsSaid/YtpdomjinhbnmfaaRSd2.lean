/- The reference's sender: Ack, End. -/
import Derived.Test.YtpdomjinhbnmfaaRSd
import Derived.Test.YtpdomjinhbnmfaaPol
set_option linter.unusedSimpArgs false
set_option linter.unusedVariables false
set_option linter.unnecessarySimpa false
set_option maxRecDepth 100000
namespace Go.Proofs.Ytpdomjinhbnmfaa
open Go.RowKit Go.Proofs.YtpdomjinhbnmfaaW.PrintWords
open Go.Proofs.Ytpdomjinhbnmfaa.Pure (crc16V)
attribute [local go_sem] max2_max min2_min max_of_two min_of_two alL_v bdL_none bdL_one bxL_ln lnguard_eq lnguard_ne lnbin_eq lnbin_ne
attribute [local go_sem ↓] ldL_in bxL_in stL_in alL_in bdL_in cvS_in
attribute [local go_sem] gUpon gStill alQ_v bxQ_v bdQ_ack bdQ_new
attribute [local go_sem ↓] ldQ_in bxQ_in stQ_in alQ_in bdQ_in

def Qs.ack (u : Value) (N : Int) (d y k seq size : Int) : Qs × Int :=
  if d = N then (⟨u, d, y, k⟩, 134217762) else if seq < 0 ∨ y < seq then (⟨u, d, y, k⟩, 84148227) else if size < 1 ∨ 127 < size then (⟨u, d, y, k⟩, 84148226) else (⟨u, d + seq, 0, size⟩, 0)
theorem ack_fin {w w2 : World} {z : Nat} (A : Option Addr) (n c : Nat) (d y k : Int) (K : Ext w w2) (hz : Blk w2 z Qs.zero.cells QT) (hzz : w.heap.size ≤ z) :
    (stQ (.pointer (some ⟨z, 0, none⟩)) (Qs.val ⟨.slice A n c, d, y, k⟩)).run Try.prog w2 = .ok () (w2.setRow z (Qs.cells ⟨.slice A n c, d, y, k⟩)) ∧ Blk (w2.setRow z (Qs.cells ⟨.slice A n c, d, y, k⟩)) z (Qs.cells ⟨.slice A n c, d, y, k⟩) QT ∧ Ext w (w2.setRow z (Qs.cells ⟨.slice A n c, d, y, k⟩)) :=
  ⟨stQ_put w2 z ⟨.slice A n c, d, y, k⟩ Qs.zero A n c rfl hz, putQ_blk ⟨.slice A n c, d, y, k⟩ hz, Ext.only K (putQ_only _ _ _) hzz⟩
set_option maxHeartbeats 2000000 in
theorem rack_c (u : Value) (b : List Int) (d y k seq size : Int) (w : World) (hu : Bs w u b) (hl : b.length ≤ 64) (hd : 0 ≤ d ∧ d ≤ 1000) (hy : y ≤ 1000) :
    Calls Try.prog 13 #[Qs.val ⟨u, d, y, k⟩, .int .i64 seq, .int .i64 size] w fun e w' => e = .returned (.tuple #[(Qs.ack u (nseg b : Int) d y k seq size).1.val, .int .i64 (Qs.ack u (nseg b : Int) d y k seq size).2]) ∧ Ext w w' := by
  have K0 : Ext w ((w.alloc (.cells (Qs.cells ⟨u, d, y, k⟩) QT)).alloc (.cells Qs.zero.cells QT)) := (by repeat (first | with_reducible exact Ext.refl _ | with_reducible assumption | with_reducible apply Ext.alloc | with_reducible apply Ext.drew | with_reducible apply Ext.drewN | (with_reducible refine Ext.set' ?_ (by first | omega | (simp only [World.size_alloc, World.size_setCell]; omega))) | (with_reducible refine Ext.trans ?_ (by with_reducible assumption)) | (with_reducible refine Ext.only ?_ (by with_reducible assumption) (by omega))))
  have bk := (Blk.new w (Qs.cells ⟨u, d, y, k⟩) QT).alloc (.cells Qs.zero.cells QT)
  have bz := Blk.new (w.alloc (.cells (Qs.cells ⟨u, d, y, k⟩) QT)) Qs.zero.cells QT
  rw [World.size_alloc] at bz
  generalize hw1 : ((w.alloc (.cells (Qs.cells ⟨u, d, y, k⟩) QT)).alloc (.cells Qs.zero.cells QT)) = w1 at *
  have RD := hid (rdone_c u b d y k w1 (hu.ext K0) hl)
  obtain ⟨A, c, rfl⟩ := hu.form
  have lq := ldQ_blk bk
  have LQ := hid (fun w' (q : Ext w1 w') => ldQ_blk (q.blk bk))
  have CQ := hid (fun w' (q : Ext w1 w') => q.blk bk)
  have FN := hid (fun w' (q : Ext w1 w') (d y k : Int) => ack_fin A b.length c d y k (K0.trans q) (q.blk bz) (Nat.le_succ _))
  obtain ⟨P, hP⟩ : ∃ P, Is (Qs.ack (.slice A b.length c) (nseg b : Int) d y k seq size) P := ⟨_, Is.refl _⟩
  rw [hP.eq]
  have hPE := hP.eq
  unfold Qs.ack at hPE
  clear hu bk bz K0 hP
  by_cases q1 : d = (nseg b : Int)
  · rw [if_pos q1] at hPE
    subst hPE
    have e1 : (d == (nseg b : Int)) = true := by simpa using q1
    rw [e1] at RD
    clear q1 e1
    go_enter Try.func13, Try.ntmps13
    go_wp2_with fail
    (with_reducible refine (RD.out).mono ?_); rintro e w2 ⟨rfl, k2⟩
    have lq2 := LQ.out w2 k2
    obtain ⟨st, hp, hk⟩ := FN.out w2 k2 d y k
    have HP := hid hp
    have HK := hid hk
    clear k2 hp hk lq
    go_wp2_with fail
    exact bodyPost_ret (res_q2 (Try.results13) rfl rfl HP.out) rfl ⟨rfl, HK.out⟩
  have e1 : (d == (nseg b : Int)) = false := by simpa using q1
  rw [if_neg q1] at hPE
  rw [e1] at RD
  clear q1 e1
  by_cases q2 : seq < 0 ∨ y < seq
  · rw [if_pos q2] at hPE
    subst hPE
    have hs : decide (seq < 0) = true ∨ (decide (seq < 0) = false ∧ decide (y < seq) = true) := by
      by_cases h : seq < 0
      · exact .inl (by simpa using h)
      · exact .inr ⟨by simpa using h, decide_eq_true (q2.resolve_left h)⟩
    clear q2
    rcases hs with e2 | ⟨e2, e3⟩
    all_goals
      go_enter Try.func13, Try.ntmps13
      go_wp2_with fail
      (with_reducible refine (RD.out).mono ?_); rintro e w2 ⟨rfl, k2⟩
      have lq2 := LQ.out w2 k2
      have cy : w2.cell? ⟨w.heap.size, 2, none⟩ = some (.int .i64 y) := (CQ.out w2 k2).cell 2 _ rfl
      obtain ⟨st, hp, hk⟩ := FN.out w2 k2 d y k
      have HP := hid hp
      have HK := hid hk
      clear k2 hp hk lq
      go_wp2_with fail
      exact bodyPost_ret (res_q2 (Try.results13) rfl rfl HP.out) rfl ⟨rfl, HK.out⟩
  rw [if_neg q2] at hPE
  simp only [not_or] at q2
  have e2 : decide (seq < 0) = false := by simpa using q2.1
  have e3 : decide (y < seq) = false := by simpa using q2.2
  by_cases q3 : size < 1 ∨ 127 < size
  · rw [if_pos q3] at hPE
    subst hPE
    have hs : decide (size < 1) = true ∨ (decide (size < 1) = false ∧ decide (127 < size) = true) := by
      by_cases h : size < 1
      · exact .inl (by simpa using h)
      · exact .inr ⟨by simpa using h, decide_eq_true (q3.resolve_left h)⟩
    clear q2 q3
    rcases hs with e4 | ⟨e4, e5⟩
    all_goals
      go_enter Try.func13, Try.ntmps13
      go_wp2_with fail
      (with_reducible refine (RD.out).mono ?_); rintro e w2 ⟨rfl, k2⟩
      have lq2 := LQ.out w2 k2
      have cy : w2.cell? ⟨w.heap.size, 2, none⟩ = some (.int .i64 y) := (CQ.out w2 k2).cell 2 _ rfl
      obtain ⟨st, hp, hk⟩ := FN.out w2 k2 d y k
      have HP := hid hp
      have HK := hid hk
      clear k2 hp hk lq
      go_wp2_with fail
      exact bodyPost_ret (res_q2 (Try.results13) rfl rfl HP.out) rfl ⟨rfl, HK.out⟩
  rw [if_neg q3] at hPE
  subst hPE
  simp only [not_or] at q3
  have e4 : decide (size < 1) = false := by simpa using q3.1
  have e5 : decide (127 < size) = false := by simpa using q3.2
  have wd : IntKind.i64.wrap (d + seq) = d + seq := IntWalk.i64_in _ (by omega)
  clear q2 q3
  go_enter Try.func13, Try.ntmps13
  go_wp2_with fail
  (with_reducible refine (RD.out).mono ?_); rintro e w2 ⟨rfl, k2⟩
  have cy : w2.cell? ⟨w.heap.size, 2, none⟩ = some (.int .i64 y) := (CQ.out w2 k2).cell 2 _ rfl
  have c1 : w2.cell? ⟨w.heap.size, 1, none⟩ = some (.int .i64 d) := (CQ.out w2 k2).cell 1 _ rfl
  have c0 : w2.cell? ⟨w.heap.size, 0, none⟩ = some (.slice A b.length c) := (CQ.out w2 k2).cell 0 _ rfl
  obtain ⟨st, hp, hk⟩ := FN.out w2 k2 (d + seq) 0 size
  have HP := hid hp
  have HK := hid hk
  clear k2 hp hk lq
  go_wp2_with fail
  exact bodyPost_ret (res_q2 (Try.results13) rfl rfl HP.out) rfl ⟨rfl, HK.out⟩

set_option maxHeartbeats 2000000 in
theorem rend_c (u : Value) (b : List Int) (d y k : Int) (w : World) (hu : Bs w u b) (hl : b.length ≤ 64) :
    Calls Try.prog 16 #[Qs.val ⟨u, d, y, k⟩] w fun e w' => e = .returned (.tuple #[.int .i64 ((nseg b : Int) * 7 - b.length), .int .i64 (crc16V b)]) ∧ Ext w w' := by
  have K0 : Ext w (w.alloc (.cells (Qs.cells ⟨u, d, y, k⟩) QT)) := (by repeat (first | with_reducible exact Ext.refl _ | with_reducible assumption | with_reducible apply Ext.alloc | with_reducible apply Ext.drew | with_reducible apply Ext.drewN | (with_reducible refine Ext.set' ?_ (by first | omega | (simp only [World.size_alloc, World.size_setCell]; omega))) | (with_reducible refine Ext.trans ?_ (by with_reducible assumption)) | (with_reducible refine Ext.only ?_ (by with_reducible assumption) (by omega))))
  have bk := Blk.new w (Qs.cells ⟨u, d, y, k⟩) QT
  generalize hw1 : (w.alloc (.cells (Qs.cells ⟨u, d, y, k⟩) QT)) = w1 at *
  have SG := hid (segs_c u b w1 (hu.ext K0) hl)
  obtain ⟨A, bl, o, c, rfl, hlc, hr, hb⟩ := hu
  have c0 : w1.cell? ⟨w.heap.size, 0, none⟩ = some (.slice A b.length c) := bk.cell 0 _ rfl
  have C0 := hid (fun w' (q : Ext w1 w') => (show w'.cell? ⟨w.heap.size, 0, none⟩ = some (.slice A b.length c) from q.cell c0))
  obtain ⟨R, hR⟩ : ∃ R, Is (crc16V b) R := ⟨_, Is.refl _⟩
  have RC := hid (fun w' (q : Ext w w') => (rcrc16_any A bl o c b.length b w' (hid (hr.ext q)) (hid rfl) hlc (by omega) (hid hb) R (hid hR.eq)).mono (fun e w'' h => (⟨h.1, h.2⟩ : e = .returned (.int .i64 R) ∧ Ext w' w'')))
  rw [hR.eq]
  have HK := hid K0
  have hN : 1 ≤ nseg b ∧ nseg b ≤ 10 := by unfold nseg; omega
  have hend : (7 : Int) - ((segB b (nseg b - 1)).length : Int) = (nseg b : Int) * 7 - b.length := by
    have : (segB b (nseg b - 1)).length = min 7 (b.drop (7 * (nseg b - 1))).length := List.length_take
    rw [this, List.length_drop]
    unfold nseg
    omega
  have hsl : (segB b (nseg b - 1)).length ≤ 7 := segB_len b _
  obtain ⟨X, hX⟩ : ∃ X : Int, Is ((nseg b : Int) * 7 - b.length) X := ⟨_, Is.refl _⟩
  rw [hX.eq]
  clear bk K0 hr hb hlc hR
  go_enter Try.func16, Try.ntmps16
  go_wp2_with fail
  (with_reducible refine (SG.out).mono ?_); rintro e w2 ⟨v, S, rfl, ho, hS, hB, k2⟩
  obtain ⟨A2, bl2, c2, hv2, hc2, hrow2⟩ := ho.rows (by omega)
  subst hv2
  obtain ⟨rfl, _⟩ := hrow2.2.1 (by omega)
  have hlt : nseg b - 1 < S.length := by omega
  have hlast := hrow2.2.2 (nseg b - 1) S[nseg b - 1] (List.getElem?_eq_getElem hlt) 0 (.slice (S[nseg b - 1]).A (S[nseg b - 1]).n (S[nseg b - 1]).c) rfl
  have hlastB := hB (nseg b - 1) hlt
  generalize S[nseg b - 1] = x3 at hlast hlastB
  obtain ⟨A3, n3, c3⟩ := x3
  obtain ⟨A4, c4, he⟩ := hlastB.form
  injection he with e1 e2 e3
  subst e2
  obtain ⟨N, hNN⟩ : ∃ N, Is (nseg b) N := ⟨_, Is.refl _⟩
  obtain ⟨M, hM⟩ : ∃ M, Is (nseg b - 1) M := ⟨_, Is.refl _⟩
  rw [hM.eq] at hlast hend hsl
  rw [hS, hNN.eq]
  have hlastA : w2.cell? ⟨bl2, M, none⟩ = some (.slice A3 (segB b M).length c3) := by
    have e : 0 + M * slLay.k + 0 = M := by show 0 + M * 1 + 0 = M; omega
    rw [e] at hlast
    rw [← hM.eq]
    rw [← hM.eq] at hlast
    exact hlast
  have CL : ∀ x : After w2, x.wd.cell? ⟨bl2, M, none⟩ = some (.slice A3 (segB b M).length c3) := After.cell hlastA
  have CZ : ∀ x : After w2, x.wd.cell? ⟨w.heap.size, 0, none⟩ = some (.slice A b.length c) := After.cell (C0.out w2 k2)
  have RCX := hid (fun x : After w2 => RC.out x.wd ((HK.out.trans k2).trans x.ext))
  have w5 : IntKind.i64.wrap ((N : Int) - 1) = (M : Int) := (IntWalk.i64_in _ (by have := hNN.eq; omega)).trans (by have := hNN.eq; have := hM.eq; omega)
  have w6 : IntKind.i64.wrap ((7 : Int) - ((segB b M).length : Int)) = X := (IntWalk.i64_in _ (by omega)).trans (hend.trans hX.eq)
  have j0 : (0 : Int) ≤ (M : Int) := by omega
  have j1 : (M : Int) < (N : Int) := by have := hNN.eq; have := hM.eq; omega
  have KX := hid (HK.out.trans k2)
  generalize (segB b M).length = L3 at *
  clear ho hS hB hrow2 hlast hlastB hlastA hend c0 k2 SG
  go_wp2_with fail
  refine wp_region_go (sp := spOf (R := Ext) [(10, Told.val (R := Ext) (.int .i64 R))]) (C := fun w' => ∃ n : After w2, w' = n.wd) (R := Ext) (by kernel_rfl) (by kernel_rfl) (spOf_mono _) (After.drew _) ?_
  repeat (first | ((with_reducible refine go_nil ?_)) | (refine go_skip' (by rfl) ?_; (try simp only [Act.put, List.setIfInBounds_toArray, List.set_cons_zero, List.set_cons_succ])) | (refine go_quiet' (by rfl) (by rfl) (by rfl) ?_; intro K hK; go_big_quiet_op; go_big_quiet_on) | (refine go_nilcheck _ _ rfl rfl (by rfl) (by rfl) ?_; (try simp only [Act.put, List.setIfInBounds_toArray, List.set_cons_zero, List.set_cons_succ])))
  (refine go_act (by rfl) (by rfl) ?_ ?_; (focus (intro w' hC hM; obtain ⟨x, rfl⟩ := hC; go_simp; (with_reducible refine Calls.told (RCX.out x)); done)); intro v hv; obtain ⟨_, _, hv, _⟩ := hv; obtain rfl := hv; (try simp only [Act.put, List.setIfInBounds_toArray, List.set_cons_zero, List.set_cons_succ]))
  repeat (first | ((with_reducible refine go_nil ?_)) | (refine go_skip' (by rfl) ?_; (try simp only [Act.put, List.setIfInBounds_toArray, List.set_cons_zero, List.set_cons_succ])) | (refine go_quiet' (by rfl) (by rfl) (by rfl) ?_; intro K hK; go_big_quiet_op; go_big_quiet_on) | (refine go_nilcheck _ _ rfl rfl (by rfl) (by rfl) ?_; (try simp only [Act.put, List.setIfInBounds_toArray, List.set_cons_zero, List.set_cons_succ])))
  intro w3 hC hall
  obtain ⟨x, rfl⟩ := hC
  have KF := hid (KX.out.trans x.ext)
  clear hall CL CZ RCX
  go_wp2_with fail
  go_ret2
  exact ⟨rfl, KF.out⟩

end Go.Proofs.Ytpdomjinhbnmfaa
