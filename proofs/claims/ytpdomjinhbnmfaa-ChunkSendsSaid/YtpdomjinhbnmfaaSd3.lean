/- A sender of blocks: Block. -/
import Derived.Test.YtpdomjinhbnmfaaSd2
import Derived.Laws.MakeOwn
set_option linter.unusedSimpArgs false
set_option linter.unusedVariables false
set_option linter.unnecessarySimpa false
set_option maxRecDepth 100000
namespace Go.Proofs.Ytpdomjinhbnmfaa
open Go.RowKit Go.Proofs.YtpdomjinhbnmfaaW.PrintWords
attribute [local go_sem] max2_max min2_min max_of_two min_of_two alL_v bdL_none bdL_one bxL_ln lnguard_eq lnguard_ne lnbin_eq lnbin_ne
attribute [local go_sem ↓] ldL_in bxL_in stL_in alL_in bdL_in cvS_in
attribute [local go_sem] gUpon gStill

theorem mkLn_run (w : World) (n : Nat) (hn : n ≤ 100000) : ∃ w', (Instr.makeSlice LR (.int .i64 0) (.int .i64 (n : Int))).run Try.prog w = .ok (.slice (some ⟨w.heap.size, 0, none⟩) 0 n) w' ∧ OwnR lnLay w' w.heap.size (.slice (some ⟨w.heap.size, 0, none⟩) 0 n) [] ∧ Ext w w' := by
  obtain ⟨i0, hi, hz0, hz1, hz2⟩ := info_parts lnLay.info
  obtain ⟨w', h1, h2, h3⟩ := run_make_own (P := Try.prog) w w.heap.size LR LT i0 Ln.zero.val 8 Try.underlying29 hi hz0 hz1 .i64 .i64 n (by rw [hz2]; show 8 * n ≤ _; omega) (by unfold maxLen; omega) (Nat.le_refl _)
  exact ⟨w', h1, h2, (Below.refl _ _).grown h3 (Nat.le_refl _) (fun k hk => by cases hk)⟩
theorem set_row_last (w : World) (c c' : Array Value) (t : TypeId) : (w.alloc (.cells c t)).setRow w.heap.size c' = w.alloc (.cells c' t) := by
  simp only [World.setRow, World.alloc]
  congr 1
  apply Array.ext_getElem?
  intro i
  rw [Array.getElem?_modify]
  by_cases h : w.heap.size = i
  · subst h
    simp
  · have h' : ¬ i = w.heap.size := fun e => h e.symm
    simp [h, h', Array.getElem?_push]
theorem stL_new (w : World) (m g : Ln) : (stL (.pointer (some ⟨w.heap.size, 0, none⟩)) m.val).run Try.prog (w.alloc (.cells g.cells LT)) = .ok () (w.alloc (.cells m.cells LT)) := by
  rw [stL_put _ _ _ ⟨g, Blk.new w g.cells LT⟩]
  unfold putL
  rw [set_row_last]
theorem OwnR.lower {α : Type} {L : Lay α} {w : World} {base b : Nat} {v : Value} {l : List α} (h : OwnR L w base v l) (hb : b ≤ base) : OwnR L w b v l := by
  obtain ⟨h0, h⟩ := h
  refine ⟨h0, ?_⟩
  rcases h with h | ⟨g, cap, cur, hv, hg, r⟩
  · exact .inl h
  · exact .inr ⟨g, cap, cur, hv, Nat.le_trans hb hg, r⟩
noncomputable def bsL (n : Nat) (l : Array (Nat × Value)) : Sem Value := Instr.buildSlice LR n l
theorem bsL_in (n : Nat) (l : Array (Nat × Value)) : Instr.buildSlice LR n l = bsL n l := rfl
theorem bsL_v8 (x0 x1 x2 x3 x4 x5 x6 x7 : Int) (w : World) : (bsL 1 #[(0, .agg #[.int .u8 x0, .int .u8 x1, .int .u8 x2, .int .u8 x3, .int .u8 x4, .int .u8 x5, .int .u8 x6, .int .u8 x7])]).run Try.prog w = .ok (.slice (some ⟨w.heap.size, 0, none⟩) 1 1) (w.alloc (.cells #[.int .u8 x0, .int .u8 x1, .int .u8 x2, .int .u8 x3, .int .u8 x4, .int .u8 x5, .int .u8 x6, .int .u8 x7] LT)) := by kernel_rfl
theorem bsL_one (f : Ln) (w : World) : (bsL 1 #[(0, f.val)]).run Try.prog w = .ok (.slice (some ⟨w.heap.size, 0, none⟩) 1 1) (w.alloc (.cells f.cells LT)) := by
  have h := bsL_v8 (f.l.getD 0 0) (f.l.getD 1 0) (f.l.getD 2 0) (f.l.getD 3 0) (f.l.getD 4 0) (f.l.getD 5 0) (f.l.getD 6 0) (f.l.getD 7 0) w
  have e : f.cells = #[.int .u8 (f.l.getD 0 0), .int .u8 (f.l.getD 1 0), .int .u8 (f.l.getD 2 0), .int .u8 (f.l.getD 3 0), .int .u8 (f.l.getD 4 0), .int .u8 (f.l.getD 5 0), .int .u8 (f.l.getD 6 0), .int .u8 (f.l.getD 7 0)] := by
    have := f.val_spell
    unfold Ln.val at this
    injection this
  rw [← e] at h
  exact h
theorem bsL_none (w : World) : (bsL 0 #[]).run Try.prog w = .ok (.slice (some ⟨w.heap.size, 0, none⟩) 0 0) (w.alloc (.cells #[] LT)) := by kernel_rfl
attribute [local go_sem] bsL_one bsL_none
attribute [local go_sem ↓] bsL_in
theorem appLn {ops : Array Oper} {rest : List Oper} {o : Oper} {a : Act} {Q : Exit → Act → World → Prop} {W : World} (hgd : o.guard = none) (s x : Operand)
    (ho : o.op = .call { callee := .builtin .append, args := #[s, x], argTypes := #[LR, LR] }) (base : Nat) {v : Value} {l : List Ln} {f : Ln} (hs : a.eval s = v) {B : Nat} (hx : a.eval x = .slice (some ⟨B, 0, none⟩) 1 1) (hB : B = W.heap.size)
    (hown : OwnR lnLay W base v l) (hlen : l.length + 1 ≤ 1000000) (hbase : base ≤ W.heap.size)
    (h : ∀ v' w', OwnR lnLay w' base v' (l ++ [f]) → Below base W w' → KeepR LT W w' → wpList Try.prog ops Q rest (a.put o.dst v') w') : wpList Try.prog ops Q (o :: rest) a (W.alloc (.cells f.cells LT)) :=
  appR lnLay hgd s x ho base hs hx hB hown hlen hbase h
def segLs (b : List Int) (d n : Nat) : List Ln := (List.range n).map fun (i : Nat) => lnOf (segK ((i : Int) + 1) (decide (d + i = nseg b - 1))) (segB b (d + i))
theorem segLs_len (b : List Int) (d n : Nat) : (segLs b d n).length = n := by simp [segLs]
theorem segLs_take (b : List Int) (d n i : Nat) (h : i < n) : (segLs b d n).take (i + 1) = (segLs b d n).take i ++ [lnOf (segK ((i : Int) + 1) (decide (d + i = nseg b - 1))) (segB b (d + i))] := by
  rw [List.take_add_one]
  congr 1
  simp [segLs, h]
theorem segB_len (b : List Int) (i : Nat) : (segB b i).length ≤ 7 := by unfold segB; rw [List.length_take]; omega
theorem sblock_end (g : Nat) (u : Value) (s : Sd) (w : World) (h : SdAt w g u s) (hd : s.done = (nseg s.b : Int)) :
    Calls Try.prog 9 #[.pointer (some ⟨g, 0, none⟩)] w fun e w' => e = .returned (.slice none 0 0) ∧ Ext w w' := by
  have DN := hid (done_c g u s w h)
  have e1 : (s.done == (nseg s.b : Int)) = true := by simpa using hd
  rw [e1] at DN
  clear h hd e1
  go_enter Try.func9, Try.ntmps9
  go_wp2_with fail
  (with_reducible refine (DN.out).mono ?_); rintro e w1 ⟨rfl, k1⟩
  go_wp2_with fail
  go_ret
  exact ⟨rfl, k1⟩
theorem sblock_nil (w : World) :
    Calls Try.prog 9 #[.pointer none] w fun e w' => e = .returned (.slice none 0 0) ∧ Ext w w' := by
  go_enter Try.func9, Try.ntmps9
  go_wp2_with fail
  (with_reducible refine (done_nil _).mono ?_); rintro e w1 ⟨rfl, k1⟩
  go_wp2_with fail
  go_ret
  exact ⟨rfl, k1⟩
set_option maxHeartbeats 2000000 in
theorem sblock_c (g : Nat) (u : Value) (s : Sd) (d n : Nat) (w : World) (h : SdAt w g u s) (hd : s.done = (d : Int)) (hdn : d < nseg s.b) (hs : 1 ≤ s.size ∧ s.size ≤ 127) (hn : min s.size ((nseg s.b : Int) - d) = (n : Int)) :
    Calls Try.prog 9 #[.pointer (some ⟨g, 0, none⟩)] w fun e w' => ∃ v, e = .returned v ∧ OwnR lnLay w' w.heap.size v (segLs s.b d n) ∧ SdAt w' g u ⟨s.size, n, s.b, d⟩ ∧ Only g w w' := by
  have DN := hid (done_c g u s w h)
  have e1 : (s.done == (nseg s.b : Int)) = false := by
    rw [hd, beq_eq_false_iff_ne]
    omega
  rw [e1] at DN
  have hN : nseg s.b ≤ 10 := by have := h.2.2; unfold nseg; omega
  have H := hid h
  have hsub : IntKind.i64.wrap ((nseg s.b : Int) - (d : Int)) = (nseg s.b : Int) - d := IntWalk.i64_in _ (by omega)
  have HND := hid (And.intro hdn (And.intro hN hn))
  clear h e1
  go_enter Try.func9, Try.ntmps9
  go_wp2_with fail
  (with_reducible refine (DN.out).mono ?_); rintro e w1 ⟨rfl, k1⟩
  have H1 := hid (H.out.ext k1)
  obtain ⟨A, c, hu⟩ := H1.out.2.1.form
  have hb1 : Blk w1 g #[.int .i64 s.size, .int .i64 s.n, u, .int .i64 (d : Int)] ST := by have := H1.out.1; unfold Sd.cells at this; rwa [hd] at this
  have O1 := hid (Only.of_ext (g := g) k1)
  have c0 : ∀ x : St w1 g #[.int .i64 s.size, .int .i64 s.n, u, .int .i64 (d : Int)] #[.int .i64 s.size, .int .i64 (n : Int), u, .int .i64 (d : Int)] ST, x.wd.cell? ⟨g, 0, none⟩ = some (.int .i64 s.size) := fun x => x.here.elim (fun h => h.cell 0 _ rfl) (fun h => h.cell 0 _ rfl)
  have c3 : ∀ x : St w1 g #[.int .i64 s.size, .int .i64 s.n, u, .int .i64 (d : Int)] #[.int .i64 s.size, .int .i64 (n : Int), u, .int .i64 (d : Int)] ST, x.wd.cell? ⟨g, 3, none⟩ = some (.int .i64 (d : Int)) := fun x => x.here.elim (fun h => h.cell 3 _ rfl) (fun h => h.cell 3 _ rfl)
  have AL := hid (fun x : St w1 g #[.int .i64 s.size, .int .i64 s.n, u, .int .i64 (d : Int)] #[.int .i64 s.size, .int .i64 (n : Int), u, .int .i64 (d : Int)] ST => ((all_c g A s.b.length c x.wd (by rw [← hu]; exact x.here.elim (fun h => h.cell 2 _ rfl) (fun h => h.cell 2 _ rfl)) H.out.2.2).mono (fun e w' q => ⟨q.1, q.2 ▸ Ext.refl _⟩) : Calls Try.prog 27 #[.pointer (some ⟨g, 0, none⟩)] x.wd fun e w' => e = .returned (.int .i64 (nseg s.b : Int)) ∧ Ext x.wd w'))
  obtain ⟨N, hNN⟩ : ∃ N, Is (nseg s.b) N := ⟨_, Is.refl _⟩
  rw [hNN.eq] at AL hsub hn
  clear k1 DN hu
  go_wp2_with fail
  have hne_ : Nonempty (St w1 g #[.int .i64 s.size, .int .i64 s.n, u, .int .i64 (d : Int)] #[.int .i64 s.size, .int .i64 (n : Int), u, .int .i64 (d : Int)] ST) := ⟨⟨_, Only.refl _ _, .inl hb1⟩⟩; refine wp_region_go (sp := spOf (R := Rst g #[.int .i64 s.size, .int .i64 (n : Int), u, .int .i64 (d : Int)] ST) [(7, Told.val (.int .i64 (N : Int))), (17, Told.blk)]) (C := fun w' => ∃ n : St w1 g #[.int .i64 s.size, .int .i64 s.n, u, .int .i64 (d : Int)] #[.int .i64 s.size, .int .i64 (n : Int), u, .int .i64 (d : Int)] ST, w' = n.wd) (R := Rst g #[.int .i64 s.size, .int .i64 (n : Int), u, .int .i64 (d : Int)] ST) (by kernel_rfl) (by kernel_rfl) (spOf_mono _) (St.drew hb1) ?_
  repeat (first | ((with_reducible refine go_nil ?_)) | (refine go_skip' (by rfl) ?_; (try simp only [Act.put, List.setIfInBounds_toArray, List.set_cons_zero, List.set_cons_succ])) | (refine go_quiet' (by rfl) (by rfl) (by rfl) ?_; intro K hK; go_big_quiet_op; go_big_quiet_on) | (refine go_nilcheck _ _ rfl rfl (by rfl) (by rfl) ?_; (try simp only [Act.put, List.setIfInBounds_toArray, List.set_cons_zero, List.set_cons_succ])))
  (refine go_act (by rfl) (by rfl) ?_ ?_; (focus (intro w' hC hM; obtain ⟨x, rfl⟩ := hC; go_simp; (with_reducible refine Calls.st (AL.out _)); done)); intro v hv; obtain ⟨_, _, hv, _⟩ := hv; obtain rfl := hv; (try simp only [Act.put, List.setIfInBounds_toArray, List.set_cons_zero, List.set_cons_succ]))
  repeat (first | ((with_reducible refine go_nil ?_)) | (refine go_skip' (by rfl) ?_; (try simp only [Act.put, List.setIfInBounds_toArray, List.set_cons_zero, List.set_cons_succ])) | (refine go_quiet' (by rfl) (by rfl) (by rfl) ?_; intro K hK; go_big_quiet_op; go_big_quiet_on) | (refine go_nilcheck _ _ rfl rfl (by rfl) (by rfl) ?_; (try simp only [Act.put, List.setIfInBounds_toArray, List.set_cons_zero, List.set_cons_succ])))
  refine go_act (by rfl) (by rfl) ?_ ?_
  · intro w' hC hM
    obtain ⟨x, rfl⟩ := hC
    obtain ⟨u', hcell, hfz⟩ := x.has (i := 1) (u := .int .i64 s.n) (v := .int .i64 (n : Int)) rfl rfl
    have hput := x.put (i := 1) (v := .int .i64 (n : Int)) rfl rfl
    clear hM
    go_simp
    first | exact hput | exact hput.2 | exact hput.2.2 | exact ⟨hput.1, hput.2.2⟩
  intro v hv
  clear hv
  (try simp only [Act.put])
  refine go_nil ?_
  intro wA hCA hall
  obtain ⟨yA, rfl⟩ := hCA
  have hF : Blk yA.wd g #[.int .i64 s.size, .int .i64 (n : Int), u, .int .i64 (d : Int)] ST := hall _ (.inl rfl)
  have OA := hid (O1.out.trans yA.only)
  have HSA := hid (show SdAt yA.wd g u ⟨s.size, n, s.b, d⟩ from ⟨hF, H1.out.2.1.only hb1 (Sd.no8 (s := ⟨s.size, s.n, s.b, d⟩) H1.out.2.1) yA.only, H.out.2.2⟩)
  generalize yA.wd = wA at *
  have c1 : wA.cell? ⟨g, 1, none⟩ = some (.int .i64 (n : Int)) := hF.cell 1 _ rfl
  have i0 : (0 : Int) ≤ (n : Int) := by omega
  obtain ⟨wB, hmk, hown, hkB⟩ := mkLn_run wA n (by omega)
  have HOB := hid hown
  have HKB := hid hkB
  have hWA := hid (show w.heap.size ≤ wA.heap.size from OA.out.size)
  have c1B : wB.cell? ⟨g, 1, none⟩ = some (.int .i64 (n : Int)) := hkB.cell c1
  clear hall hF c0 c3 AL hne_ hb1 H1 O1 hsub hown hkB
  obtain ⟨B0, hB0⟩ : ∃ q, Is wA.heap.size q := ⟨_, Is.refl _⟩
  rw [hB0.eq] at hmk
  rw [hB0.eq] at HOB
  go_wp2_with fail
  go_loopg [3, 38] n (fun k u3 u38 wr => ∃ i : Nat, i + k = n ∧ u38 = .int .i64 (i : Int) ∧ Hid (OwnR lnLay wr B0 u3 ((segLs s.b d n).take i)) ∧ Hid (Ext wA wr))
  case atStart => exact ⟨0, by omega, rfl, HOB, HKB⟩
  case round =>
    clear HOB HKB c1B hmk
    obtain ⟨i, hik, rfl, HO, HK⟩ := hrel
    by_cases hlt : i < n
    · have e1 : decide ((i : Int) < (n : Int)) = true := by simpa using hlt
      have i1 : (i : Int) < (n : Int) := by omega
      have hnN : n + d ≤ N := by have := HND.out; have := hNN.eq; omega
      have hN10 : N ≤ 10 := by have := HND.out; have := hNN.eq; omega
      obtain ⟨m, hm⟩ : ∃ m, Is (d + i) m := ⟨_, Is.refl _⟩
      have hm' := hm.eq
      have w1 : IntKind.i64.wrap ((d : Int) + (i : Int)) = (m : Int) := (IntWalk.i64_in _ (by omega)).trans (by omega)
      have w2 : IntKind.i64.wrap ((i : Int) + 1) = (i : Int) + 1 := IntWalk.i64_in _ (by omega)
      have w3 : IntKind.i64.wrap ((N : Int) - 1) = (N : Int) - 1 := IntWalk.i64_in _ (by omega)
      have c3 : wr.cell? ⟨g, 3, none⟩ = some (.int .i64 (d : Int)) := (HSA.out.ext HK.out).1.cell 3 _ rfl
      have ALL := hid (fun w' (k : Ext wA w') => (by have := all_x HSA.out w' k; rw [hNN.eq] at this; exact this :
        Calls Try.prog 27 #[.pointer (some ⟨g, 0, none⟩)] w' fun e w'' => e = .returned (.int .i64 (N : Int)) ∧ Ext w' w''))
      have PC := hid (fun w' (k : Ext wA w') => piece_c g u ⟨s.size, n, s.b, d⟩ m w' (HSA.out.ext k) (by show m < nseg s.b; rw [hNN.eq]; omega))
      obtain ⟨q, hq⟩ : ∃ q, ((m : Int) == (N : Int) - 1) = q := ⟨_, rfl⟩
      have hq2 : decide (d + i = nseg s.b - 1) = q := by
        rw [hm', hNN.eq, ← hq, Bool.eq_iff_iff]
        simp
        omega
      have SG := hid (fun (w' : World) v (hv : Bs w' v (segB s.b m)) => seg_c ((i : Int) + 1) q v _ w' (by omega) (by omega) hv (segB_len s.b m))
      have TK := hid (segLs_take s.b d n i hlt)
      rw [hq2, hm'] at TK
      obtain ⟨X, hX⟩ : ∃ X, Is (lnOf (segK ((i : Int) + 1) q) (segB s.b m)) X := ⟨_, Is.refl _⟩
      rw [hX.eq] at TK
      have hlen : ((segLs s.b d n).take i).length + 1 ≤ 1000000 := by rw [List.length_take, segLs_len]; omega
      clear hq2 hm'
      go_wp2_with fail
      (with_reducible refine (ALL.out _ HK.out).mono ?_); rintro e w3 ⟨rfl, k3⟩
      have K3 := hid (HK.out.trans k3)
      go_wp2_with fail
      (with_reducible refine (PC.out _ K3.out).mono ?_); rintro e w4 ⟨v4, rfl, hv4, k4⟩
      have K4 := hid (K3.out.trans k4)
      have E4 := hid (k3.trans k4)
      have SG4 := hid (SG.out w4 v4 hv4)
      rw [hX.eq] at SG4
      clear k3 k4 hv4
      go_wp2_with fail
      (with_reducible refine (SG4.out).mono ?_); rintro e w5 ⟨rfl, k5⟩
      have K5 := hid (K4.out.trans k5)
      have HO5 := hid (HO.out.below (E4.out.trans k5))
      have hB5 : B0 ≤ w5.heap.size := by rw [← hB0.eq]; exact K5.out.le
      clear k5 E4 SG ALL PC
      have E5 : Ext w5 (w5.alloc (.cells X.cells LT)) := (by repeat (first | with_reducible exact Ext.refl _ | with_reducible assumption | with_reducible apply Ext.alloc | with_reducible apply Ext.drew | with_reducible apply Ext.drewN | (with_reducible refine Ext.set' ?_ (by first | omega | (simp only [World.size_alloc, World.size_setCell]; omega))) | (with_reducible refine Ext.trans ?_ (by with_reducible assumption)) | (with_reducible refine Ext.only ?_ (by with_reducible assumption) (by omega))))
      have st5 := stL_new w5 X Ln.zero
      have ld5 := ldL_blk (Blk.new w5 X.cells LT)
      have HOC := hid (HO5.out.below E5)
      have K6 := hid (K5.out.trans E5)
      clear HO5
      have hB6 : B0 ≤ (w5.alloc (.cells X.cells LT)).heap.size := Nat.le_trans hB5 E5.le
      go_wp2_with (at_builtin; go_must (refine appLn (v := u3) (l := (segLs s.b d n).take i) (f := X) rfl (.tmp 61) (.tmp 63) rfl B0 rfl rfl (by first | with_reducible rfl | simp only [World.size_alloc] | rfl) HOC.out hlen hB6 ?_); intro v7 w7 o7 k7 kk7; rw [← TK.out] at o7; have HO7 := hid o7; have K7 := hid (show Ext wA w7 from by have := Below.trans K6.out (k7.mono (by rw [hB0.eq]; exact Nat.le_refl _)); exact this); clear o7 k7 kk7)
      go_roundg (gk - 1)
      case rel => exact ⟨i + 1, by omega, by go_num, HO7, K7⟩
      case measure => omega
    · obtain rfl : i = n := by omega
      have e1 : decide ((i : Int) < (i : Int)) = false := by simp
      have HFIN := hid (HSA.out.ext HK.out)
      have ho := HO.out
      rw [List.take_of_length_le (by rw [segLs_len]; exact Nat.le_refl _)] at ho
      have HO2 := hid (show OwnR lnLay wr w.heap.size u3 (segLs s.b d i) from ho.lower (by rw [← hB0.eq]; exact hWA.out))
      have OF := hid (OA.out.trans (Only.of_ext HK.out))
      clear ho HO
      go_wp2_with fail
      go_ret
      exact ⟨_, rfl, HO2.out, HFIN.out, OF.out⟩

end Go.Proofs.Ytpdomjinhbnmfaa
