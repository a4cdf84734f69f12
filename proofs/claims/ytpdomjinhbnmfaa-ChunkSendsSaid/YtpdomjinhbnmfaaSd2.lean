/- A sender of blocks: Done, piece, Ack, End. -/
import Derived.Test.YtpdomjinhbnmfaaSd
set_option linter.unusedSimpArgs false
set_option linter.unusedVariables false
set_option linter.unnecessarySimpa false
set_option maxRecDepth 100000
namespace Go.Proofs.Ytpdomjinhbnmfaa
open Go.RowKit Go.Proofs.YtpdomjinhbnmfaaW.PrintWords
open Go.Proofs.Ytpdomjinhbnmfaa.Pure (crc16V)
attribute [local go_sem] max2_max min2_min max_of_two min_of_two alL_v bdL_none bdL_one bxL_ln lnguard_eq lnguard_ne lnbin_eq lnbin_ne
attribute [local go_sem ↓] ldL_in bxL_in stL_in alL_in bdL_in cvS_in
attribute [local go_sem ↓] ap8_in
attribute [local go_sem] gUpon gStill

/-- No byte lies in these cells. -/
def No8 (cs : Array Value) : Prop := ∀ (j : Nat) (x : Int), cs[j]? ≠ some (.int .u8 x)
theorem Bs.only {w w' : World} {g : Nat} {cs : Array Value} {t : TypeId} {v : Value} {l : List Int} (h : Bs w v l) (hb : Blk w g cs t) (hn : No8 cs) (k : Only g w w') : Bs w' v l := by
  obtain ⟨A, bl, o, c, rfl, hlc, hr, hB⟩ := h
  have hne : 0 < l.length → bl ≠ g := fun hl e => by
    subst e
    have h1 := hr.2.2 0 hl
    unfold Blk at hb
    simp only [World.cell?, hb] at h1
    exact hn _ _ h1
  refine ⟨A, bl, o, c, rfl, hlc, ⟨hr.1, fun hl => ⟨(hr.2.1 hl).1, Nat.lt_of_lt_of_le (hr.2.1 hl).2 k.size⟩, fun i hi => ?_⟩, hB⟩
  have hl : 0 < l.length := by omega
  rw [← hr.2.2 i hi]
  have e := k.block bl (hr.2.1 hl).2 (hne hl)
  simp only [World.cell?, e]
theorem Bs.noI {w : World} {v : Value} {l : List Int} (h : Bs w v l) (x : Int) : v ≠ .int .u8 x := by
  obtain ⟨A, c, rfl⟩ := h.form
  exact fun e => by cases e
theorem Sd.no8 {w : World} {s : Sd} {u : Value} (h : Bs w u s.b) : No8 (s.cells u) := by
  intro j x hj
  rcases j with _ | _ | _ | _ | j
  · cases hj
  · cases hj
  · exact h.noI x (Option.some.inj hj)
  · cases hj
  · simp [Sd.cells] at hj
theorem all_x {W : World} {g : Nat} {u : Value} {s : Sd} (h : SdAt W g u s) (w : World) (k : Ext W w) : Calls Try.prog 27 #[.pointer (some ⟨g, 0, none⟩)] w fun e w' => e = .returned (.int .i64 (nseg s.b : Int)) ∧ Ext w w' := by
  obtain ⟨A, c, hu⟩ := h.2.1.form
  have hc := k.cell (h.1.cell 2 u rfl)
  rw [hu] at hc
  exact (all_c g A s.b.length c w hc h.2.2).mono (fun e w' q => ⟨q.1, q.2 ▸ Ext.refl _⟩)
theorem done_nil (w : World) : Calls Try.prog 8 #[.pointer none] w fun e w' => e = .returned (.bool true) ∧ Ext w w' := by
  go_enter Try.func8, Try.ntmps8
  go_wp2_with fail
  have EE := Ext.refl w
  go_region
  go_wp2_with fail
  go_ret
  exact ⟨rfl, EE.drew⟩
set_option maxHeartbeats 1000000 in
theorem done_c (g : Nat) (u : Value) (s : Sd) (w : World) (h : SdAt w g u s) :
    Calls Try.prog 8 #[.pointer (some ⟨g, 0, none⟩)] w fun e w' => e = .returned (.bool (s.done == (nseg s.b : Int))) ∧ Ext w w' := by
  have c3 : ∀ x : After w, x.wd.cell? ⟨g, 3, none⟩ = some (.int .i64 s.done) := After.cell (h.1.cell 3 _ rfl)
  have AL := hid (fun x : After w => all_x h x.wd x.ext)
  clear h
  generalize (nseg s.b : Int) = N at *
  generalize s.done = D at *
  go_enter Try.func8, Try.ntmps8
  go_wp2_with fail
  refine wp_region_go (sp := spOf (R := Ext) [(8, Told.val (R := Ext) (.int .i64 N))]) (C := fun w' => ∃ n : After w, w' = n.wd) (R := Ext) (by kernel_rfl) (by kernel_rfl) (spOf_mono _) (After.drew _) ?_
  repeat (first | ((with_reducible refine go_nil ?_)) | (refine go_skip' (by rfl) ?_; (try simp only [Act.put, List.setIfInBounds_toArray, List.set_cons_zero, List.set_cons_succ])) | (refine go_quiet' (by rfl) (by rfl) (by rfl) ?_; intro K hK; go_big_quiet_op; go_big_quiet_on) | (refine go_nilcheck _ _ rfl rfl (by rfl) (by rfl) ?_; (try simp only [Act.put, List.setIfInBounds_toArray, List.set_cons_zero, List.set_cons_succ])))
  (refine go_act (by rfl) (by rfl) ?_ ?_; (focus (intro w' hC hM; obtain ⟨x, rfl⟩ := hC; go_simp; (with_reducible refine Calls.told (AL.out x)); done)); intro v hv; obtain ⟨_, _, hv, _⟩ := hv; obtain rfl := hv; (try simp only [Act.put, List.setIfInBounds_toArray, List.set_cons_zero, List.set_cons_succ]))
  repeat (first | ((with_reducible refine go_nil ?_)) | (refine go_skip' (by rfl) ?_; (try simp only [Act.put, List.setIfInBounds_toArray, List.set_cons_zero, List.set_cons_succ])) | (refine go_quiet' (by rfl) (by rfl) (by rfl) ?_; intro K hK; go_big_quiet_op; go_big_quiet_on) | (refine go_nilcheck _ _ rfl rfl (by rfl) (by rfl) ?_; (try simp only [Act.put, List.setIfInBounds_toArray, List.set_cons_zero, List.set_cons_succ])))
  intro w1 hC hall
  obtain ⟨x, rfl⟩ := hC
  have K := x.ext
  clear hall c3 AL
  go_wp2_with fail
  go_ret
  exact ⟨rfl, K⟩

theorem bs_cut {w : World} {A : Option Addr} {bl o c F T : Nat} {l : List Int} (hr : Row8 w A bl o l) (hb : Byt l) (hlc : l.length ≤ c) (hFT : F ≤ T) (hT : T ≤ l.length) :
    Bs w (.slice (if c = F then A else Option.map (fun x => x.add F) A) (T - F) (c - F)) ((l.drop F).take (T - F)) := by
  have hbt : Byt ((l.drop F).take (T - F)) := fun x hx => hb x (List.mem_of_mem_drop (List.mem_of_mem_take hx))
  have hln : ((l.drop F).take (T - F)).length = T - F := by rw [List.length_take, List.length_drop]; omega
  by_cases h0 : T - F = 0
  · refine Bs.of_row (bl := bl) (o := o) hln (by omega) ?_ hbt
    rw [h0, List.take_zero]
    exact Row8.nil
  · obtain ⟨rfl, _⟩ := hr.2.1 (by omega)
    have hne : ¬ c = F := by omega
    rw [if_neg hne]
    have := (hr.drop F).take (T - F)
    refine Bs.of_row (bl := bl) (o := o + F) hln (by omega) ?_ hbt
    rw [Option.map_some, Go.Proofs.Ytpdomjinhbnmfaa.add_plain]
    exact this
/-- A segment's bytes. -/
def segB (b : List Int) (i : Nat) : List Int := (b.drop (7 * i)).take 7
set_option maxHeartbeats 1000000 in
theorem piece_c (g : Nat) (u : Value) (s : Sd) (i : Nat) (w : World) (h : SdAt w g u s) (hi : i < nseg s.b) :
    Calls Try.prog 29 #[.pointer (some ⟨g, 0, none⟩), .int .i64 i] w fun e w' => ∃ v, e = .returned v ∧ Bs w' v (segB s.b i) ∧ Ext w w' := by
  obtain ⟨hb, hu, hl⟩ := h
  obtain ⟨A, bl, o, c, rfl, hlc, hr, hB⟩ := hu
  have hi7 : 7 * i ≤ s.b.length := by unfold nseg at hi; omega
  obtain ⟨F, hF⟩ : ∃ F, 7 * i = F := ⟨_, rfl⟩
  obtain ⟨T, hT⟩ : ∃ T, min (F + 7) s.b.length = T := ⟨_, rfl⟩
  have w1 : IntKind.i64.wrap ((i : Int) * 7) = (F : Int) := (IntWalk.i64_in _ (by omega)).trans (by omega)
  have w2 : IntKind.i64.wrap ((F : Int) + 7) = ((F + 7 : Nat) : Int) := (IntWalk.i64_in _ (by omega)).trans (by omega)
  have w3 : min ((F + 7 : Nat) : Int) (s.b.length : Int) = (T : Int) := by omega
  have hFT : F ≤ T := by omega
  have hTl : T ≤ s.b.length := by omega
  have CUT := hid (fun w' (k : Ext w w') => (by
    have h := bs_cut (F := F) (T := T) (hr.ext k) hB hlc hFT hTl
    have e : (s.b.drop F).take (T - F) = segB s.b i := by
      unfold segB
      rw [hF]
      by_cases h7 : F + 7 ≤ s.b.length
      · rw [show T - F = 7 by omega]
      · rw [List.take_of_length_le (by rw [List.length_drop]; omega), List.take_of_length_le (by rw [List.length_drop]; omega)]
    rw [e] at h
    have e2 : T - F = (min ((F : Int) + 7) (s.b.length : Int)).toNat - F := by omega
    rw [e2] at h
    exact h :
    Bs w' (.slice (if c = F then A else Option.map (fun x => x.add F) A) ((min ((F : Int) + 7) (s.b.length : Int)).toNat - F) (c - F)) (segB s.b i)))
  have hTc : T ≤ c := by omega
  have c2 : ∀ x : After w, x.wd.cell? ⟨g, 2, none⟩ = some (.slice A s.b.length c) := After.cell (hb.cell 2 _ rfl)
  have f1 : (0 : Int) ≤ (F : Int) := by omega
  have f2 : (F : Int) ≤ (T : Int) := by omega
  have f3 : (T : Int) ≤ (c : Int) := by omega
  go_enter Try.func29, Try.ntmps29
  go_wp2_with fail
  refine wp_region_go (sp := spOf (R := Ext) []) (C := fun w' => ∃ n : After w, w' = n.wd) (R := Ext) (by kernel_rfl) (by kernel_rfl) (spOf_mono _) (After.drew _) ?_
  repeat (first | ((with_reducible refine go_nil ?_)) | (refine go_skip' (by rfl) ?_; (try simp only [Act.put, List.setIfInBounds_toArray, List.set_cons_zero, List.set_cons_succ])) | (refine go_quiet' (by rfl) (by rfl) (by rfl) ?_; intro K hK; go_big_quiet_op; go_big_quiet_on) | (refine go_nilcheck _ _ rfl rfl (by rfl) (by rfl) ?_; (try simp only [Act.put, List.setIfInBounds_toArray, List.set_cons_zero, List.set_cons_succ])))
  intro w4 hC hall
  obtain ⟨x, rfl⟩ := hC
  have K := hid x.ext
  have HC := hid (CUT.out _ K.out)
  clear hall c2 CUT
  generalize (Value.slice (if c = F then A else Option.map (fun x => x.add F) A) ((min ((F : Int) + 7) (s.b.length : Int)).toNat - F) (c - F)) = V at *
  go_wp2_with fail
  go_ret
  exact ⟨_, rfl, HC.out, K.out⟩

set_option maxHeartbeats 1000000 in
theorem send_c (g : Nat) (u : Value) (s : Sd) (w : World) (h : SdAt w g u s) :
    Calls Try.prog 15 #[.pointer (some ⟨g, 0, none⟩)] w fun e w' => e = .returned (.tuple #[.int .i64 ((nseg s.b : Int) * 7 - s.b.length), .int .i64 (crc16V s.b)]) ∧ Ext w w' := by
  obtain ⟨A, c, rfl⟩ := h.2.1.form
  have c2 : ∀ x : After w, x.wd.cell? ⟨g, 2, none⟩ = some (.slice A s.b.length c) := After.cell (h.1.cell 2 _ rfl)
  have AL := hid (fun x : After w => all_x h x.wd x.ext)
  have CR := hid (fun x : After w => crc_c _ s.b x.wd (h.2.1.ext x.ext))
  have hN : nseg s.b ≤ 10 := by have := h.2.2; unfold nseg; omega
  have hl := h.2.2
  have w1 : IntKind.i64.wrap ((nseg s.b : Int) * 7) = (nseg s.b : Int) * 7 := IntWalk.i64_in _ (by omega)
  have w2 : IntKind.i64.wrap ((nseg s.b : Int) * 7 - (s.b.length : Int)) = (nseg s.b : Int) * 7 - s.b.length := IntWalk.i64_in _ (by omega)
  clear h
  generalize (nseg s.b : Int) = N at *
  generalize crc16V s.b = R at *
  go_enter Try.func15, Try.ntmps15
  go_wp2_with fail
  refine wp_region_go (sp := spOf (R := Ext) [(1, Told.val (R := Ext) (.int .i64 N)), (13, Told.val (R := Ext) (.int .i64 R))]) (C := fun w' => ∃ n : After w, w' = n.wd) (R := Ext) (by kernel_rfl) (by kernel_rfl) (spOf_mono _) (After.drew _) ?_
  repeat (first | ((with_reducible refine go_nil ?_)) | (refine go_skip' (by rfl) ?_; (try simp only [Act.put, List.setIfInBounds_toArray, List.set_cons_zero, List.set_cons_succ])) | (refine go_quiet' (by rfl) (by rfl) (by rfl) ?_; intro K hK; go_big_quiet_op; go_big_quiet_on) | (refine go_nilcheck _ _ rfl rfl (by rfl) (by rfl) ?_; (try simp only [Act.put, List.setIfInBounds_toArray, List.set_cons_zero, List.set_cons_succ])))
  (refine go_act (by rfl) (by rfl) ?_ ?_; (focus (intro w' hC hM; obtain ⟨x, rfl⟩ := hC; go_simp; (with_reducible refine Calls.told (AL.out x)); done)); intro v hv; obtain ⟨_, _, hv, _⟩ := hv; obtain rfl := hv; (try simp only [Act.put, List.setIfInBounds_toArray, List.set_cons_zero, List.set_cons_succ]))
  repeat (first | ((with_reducible refine go_nil ?_)) | (refine go_skip' (by rfl) ?_; (try simp only [Act.put, List.setIfInBounds_toArray, List.set_cons_zero, List.set_cons_succ])) | (refine go_quiet' (by rfl) (by rfl) (by rfl) ?_; intro K hK; go_big_quiet_op; go_big_quiet_on) | (refine go_nilcheck _ _ rfl rfl (by rfl) (by rfl) ?_; (try simp only [Act.put, List.setIfInBounds_toArray, List.set_cons_zero, List.set_cons_succ])))
  (refine go_act (by rfl) (by rfl) ?_ ?_; (focus (intro w' hC hM; obtain ⟨x, rfl⟩ := hC; go_simp; (with_reducible refine Calls.told (CR.out x)); done)); intro v hv; obtain ⟨_, _, hv, _⟩ := hv; obtain rfl := hv; (try simp only [Act.put, List.setIfInBounds_toArray, List.set_cons_zero, List.set_cons_succ]))
  repeat (first | ((with_reducible refine go_nil ?_)) | (refine go_skip' (by rfl) ?_; (try simp only [Act.put, List.setIfInBounds_toArray, List.set_cons_zero, List.set_cons_succ])) | (refine go_quiet' (by rfl) (by rfl) (by rfl) ?_; intro K hK; go_big_quiet_op; go_big_quiet_on) | (refine go_nilcheck _ _ rfl rfl (by rfl) (by rfl) ?_; (try simp only [Act.put, List.setIfInBounds_toArray, List.set_cons_zero, List.set_cons_succ])))
  intro w4 hC hall
  obtain ⟨x, rfl⟩ := hC
  have K := hid x.ext
  clear hall c2
  go_wp2_with fail
  go_ret2
  exact ⟨rfl, K.out⟩
def Sd.ack (s : Sd) (seq size : Int) : Sd × Int :=
  if s.done = (nseg s.b : Int) then (s, 134217762) else if seq < 0 ∨ s.n < seq then (s, 84148227) else if mayN size = false then (s, 84148226) else (⟨size, 0, s.b, s.done + seq⟩, 0)
set_option maxHeartbeats 1000000 in
theorem sack_c (g : Nat) (u : Value) (s : Sd) (seq size : Int) (w : World) (h : SdAt w g u s) (hn : s.n ≤ 1000) (hd : 0 ≤ s.done ∧ s.done ≤ 1000) :
    Calls Try.prog 10 #[.pointer (some ⟨g, 0, none⟩), .int .i64 seq, .int .i64 size] w fun e w' => e = .returned (.int .i64 (s.ack seq size).2) ∧ SdAt w' g u (s.ack seq size).1 ∧ Only g w w' := by
  have DN := hid (done_c g u s w h)
  have H := hid h
  have OE : Hid (∀ w', Ext w w' → Only g w w') := hid (fun w' k => Only.of_ext k)
  by_cases h1 : s.done = (nseg s.b : Int)
  · have e : s.ack seq size = (s, 134217762) := by unfold Sd.ack; rw [if_pos h1]
    have e1 : (s.done == (nseg s.b : Int)) = true := by simpa using h1
    rw [e]
    rw [e1] at DN
    clear h h1 e e1
    go_enter Try.func10, Try.ntmps10
    go_wp2_with fail
    (with_reducible refine (DN.out).mono ?_); rintro e w1 ⟨rfl, k1⟩
    have HH := hid (And.intro (H.out.ext k1) (OE.out _ k1))
    clear k1
    go_wp2_with fail
    go_ret
    exact ⟨rfl, HH.out⟩
  have e1 : (s.done == (nseg s.b : Int)) = false := by simpa using h1
  rw [e1] at DN
  by_cases h2 : seq < 0 ∨ s.n < seq
  · have e : s.ack seq size = (s, 84148227) := by unfold Sd.ack; rw [if_neg h1, if_pos h2]
    have c1 := hid (fun w' (k : Ext w w') => (show w'.cell? ⟨g, 1, none⟩ = some (.int .i64 s.n) from k.cell (h.1.cell 1 _ rfl)))
    rw [e]
    clear h h1 e e1
    by_cases h3 : seq < 0
    · have e2 : decide (seq < 0) = true := by simpa using h3
      clear h2 h3
      go_enter Try.func10, Try.ntmps10
      go_wp2_with fail
      (with_reducible refine (DN.out).mono ?_); rintro e w1 ⟨rfl, k1⟩
      have HH := hid (And.intro (H.out.ext k1) (OE.out _ k1))
      have cc := c1.out _ k1
      clear k1
      go_wp2_with fail
      go_ret
      exact ⟨rfl, HH.out⟩
    · have e2 : decide (seq < 0) = false := by simpa using h3
      have e3 : decide (s.n < seq) = true := decide_eq_true (h2.resolve_left h3)
      clear h2 h3
      go_enter Try.func10, Try.ntmps10
      go_wp2_with fail
      (with_reducible refine (DN.out).mono ?_); rintro e w1 ⟨rfl, k1⟩
      have HH := hid (And.intro (H.out.ext k1) (OE.out _ k1))
      have cc := c1.out _ k1
      clear k1
      go_wp2_with fail
      go_ret
      exact ⟨rfl, HH.out⟩
  have c1 := hid (fun w' (k : Ext w w') => (show w'.cell? ⟨g, 1, none⟩ = some (.int .i64 s.n) from k.cell (h.1.cell 1 _ rfl)))
  simp only [not_or] at h2
  have e2 : decide (seq < 0) = false := by simpa using h2.1
  have e3 : decide (s.n < seq) = false := by simpa using h2.2
  have MC := hid (fun w => may_c size w)
  by_cases h3 : mayN size = true
  · have e : s.ack seq size = (⟨size, 0, s.b, s.done + seq⟩, 0) := by unfold Sd.ack; rw [if_neg h1, if_neg (by simpa using h2), if_neg (by rw [h3]; simp)]
    have w1 : IntKind.i64.wrap (s.done + seq) = s.done + seq := IntWalk.i64_in _ (by omega)
    have C3 := hid (fun w' (k : Ext w w') => (show w'.cell? ⟨g, 3, none⟩ = some (.int .i64 s.done) ∧ w'.frozen? ⟨g, 3, none⟩ = false from ⟨k.cell (h.1.cell 3 _ rfl), (k.blk h.1).free 3⟩))
    have NX : Hid (∀ w', Ext w w' → Blk (w'.setCell ⟨g, 3, none⟩ (.int .i64 (s.done + seq))) g (Sd.cells ⟨s.size, s.n, s.b, s.done + seq⟩ u) ST ∧ Only g w (w'.setCell ⟨g, 3, none⟩ (.int .i64 (s.done + seq)))) := hid (fun w' k => ⟨(k.blk h.1).set 3 _, (Only.of_ext k).set 3 _⟩)
    have BU := hid (fun w' (o : Only g w w') => h.2.1.only h.1 (Sd.no8 h.2.1) o)
    have HL := hid h.2.2
    rw [e]
    rw [h3] at MC
    clear h h1 h2 h3 e e1
    go_enter Try.func10, Try.ntmps10
    go_wp2_with fail
    (with_reducible refine (DN.out).mono ?_); rintro e w3 ⟨rfl, k1⟩
    have cc := c1.out _ k1
    obtain ⟨c3, z3⟩ := C3.out _ k1
    obtain ⟨n1, n2⟩ := NX.out _ k1
    have N1 := hid n1
    have N2 := hid n2
    clear k1 n1 n2
    go_wp2_with fail
    (with_reducible refine (MC.out _).mono ?_); rintro e w4 ⟨rfl, rfl⟩
    go_wp2_with fail
    (with_reducible refine (next_c g ⟨s.size, s.n, s.b, s.done + seq⟩ u size _ N1.out).mono ?_); rintro e w5 ⟨rfl, hb5, k5⟩
    have HB5 := hid hb5
    have K5 := hid (N2.out.trans k5)
    clear hb5 k5
    go_wp2_with fail
    go_ret
    exact ⟨rfl, ⟨HB5.out, BU.out _ K5.out, HL.out⟩, K5.out⟩
  · have h3' : mayN size = false := by simpa using h3
    have e : s.ack seq size = (s, 84148226) := by unfold Sd.ack; rw [if_neg h1, if_neg (by simpa using h2), if_pos h3']
    rw [e]
    rw [h3'] at MC
    clear h h1 h2 h3 h3' e e1
    go_enter Try.func10, Try.ntmps10
    go_wp2_with fail
    (with_reducible refine (DN.out).mono ?_); rintro e w3 ⟨rfl, k1⟩
    have HH := hid (And.intro (H.out.ext k1) (OE.out _ k1))
    have cc := c1.out _ k1
    clear k1
    go_wp2_with fail
    (with_reducible refine (MC.out _).mono ?_); rintro e w4 ⟨rfl, rfl⟩
    go_wp2_with fail
    go_ret
    exact ⟨rfl, HH.out⟩
theorem sack_nil (seq size : Int) (w : World) : Calls Try.prog 10 #[.pointer none, .int .i64 seq, .int .i64 size] w fun e w' => e = .returned (.int .i64 134217762) ∧ Ext w w' := by
  go_enter Try.func10, Try.ntmps10
  go_wp2_with fail
  (with_reducible refine (done_nil _).mono ?_); rintro e w1 ⟨rfl, k1⟩
  go_wp2_with fail
  go_ret
  exact ⟨rfl, k1⟩

end Go.Proofs.Ytpdomjinhbnmfaa
