/- Package cons: Fork; the two takers are alike. -/
import Derived.Test.YtocogmboocjjaaaRHear
import Derived.Deep.RegionWith
set_option linter.unusedSimpArgs false
set_option linter.unusedVariables false
set_option linter.unnecessarySimpa false
namespace Go.Proofs.Ytocogmboocjjaaa
open Go.RowKit Go.Proofs.YtocogmboocjjaaaW.PrintWords
attribute [local go_sem] max2_max min2_min max_of_two min_of_two bxF_fr stF_fr stF_fr2 stF_put ldF_put ldV_put ldF_new guard_eq guard_ne bin_eq bin_ne alF_fr bdF_none bdF_ask bdF_len bdF_dat ext_drew' ext_alloc
attribute [local go_sem ↓] ldF_in ldV_in bxF_in stF_in cvS_in alF_in bdF_in ixS_in
attribute [local go_sem] bxC_ch chguard_eq chguard_ne chbin_eq chbin_ne ldC_new bxT_v alT_v stT_put stT_new bdT_none bdT_failed bdT_v bdW_v gUpon gStill
attribute [local go_sem ↓] ldC_in bxC_in stC_in ldT_in bxT_in stT_in alT_in bdT_in bdW_in

theorem gfork_nil (w : World) : Calls Try.prog 50 #[.pointer none] w fun e w' => e = .returned (.pointer none) ∧ w = w' := by
  go_enter Try.func50, Try.ntmps50
  go_wp2_with fail
  go_ret
  exact ⟨rfl, rfl⟩
theorem tfork_nil (w : World) : Calls Try.prog 24 #[.pointer none] w fun e w' => e = .returned (.pointer none) ∧ w = w' := by
  go_enter Try.func24, Try.ntmps24
  go_wp2_with fail
  go_ret
  exact ⟨rfl, rfl⟩
theorem begin_nil (now : Int) (on : Bool) (x : Ch) (w : World) : Calls Try.prog 9 #[.pointer none, .int .i64 now, .bool on, x.val] w fun e w' => e = .returned (.int .i64 0) ∧ Ext w w' := by
  have K0 : Ext w (w.alloc (.cells x.cells CT)) := (by repeat (first | with_reducible exact Ext.refl _ | with_reducible assumption | with_reducible apply Ext.alloc | with_reducible apply Ext.drew | with_reducible apply Ext.drewN | (with_reducible refine Ext.set' ?_ (by first | omega | (simp only [World.size_alloc, World.size_setCell]; omega))) | (with_reducible refine Ext.trans ?_ (by with_reducible assumption)) | (with_reducible refine Ext.only ?_ (by with_reducible assumption) (by omega))))
  go_enter Try.func9, Try.ntmps9
  go_wp2_with fail
  go_ret
  exact ⟨rfl, K0⟩
theorem hear_nil (now : Int) (f : Fr) (w : World) : Calls Try.prog 13 #[.pointer none, .int .i64 now, f.val] w fun e w' => e = .returned (.tuple #[.slice none 0 0, .int .i64 0]) ∧ Ext w w' := by
  have K0 : Ext w (w.alloc (.cells f.cells FT)) := (by repeat (first | with_reducible exact Ext.refl _ | with_reducible assumption | with_reducible apply Ext.alloc | with_reducible apply Ext.drew | with_reducible apply Ext.drewN | (with_reducible refine Ext.set' ?_ (by first | omega | (simp only [World.size_alloc, World.size_setCell]; omega))) | (with_reducible refine Ext.trans ?_ (by with_reducible assumption)) | (with_reducible refine Ext.only ?_ (by with_reducible assumption) (by omega))))
  go_enter Try.func13, Try.ntmps13
  go_wp2_with fail
  (with_reducible refine (works_nil _).mono ?_); rintro e w1 ⟨rfl, rfl⟩
  go_wp2_with fail
  go_ret2
  exact ⟨rfl, K0⟩
noncomputable def stW (p v : Value) : Sem Unit := Instr.storeAt WT p v
theorem stW_in (p v : Value) : Instr.storeAt WT p v = stW p v := rfl
theorem stW_tr {w : World} {b : Nat} {m : Tr} (p q : Option Addr) (h : Blk w b m.cells TT) : (stW (.pointer (some ⟨b, 0, none⟩)) (.agg #[.pointer p, .pointer q])).run Try.prog w = .ok () (w.setCells b 0 [.pointer p, .pointer q]) ∧ Blk (w.setCells b 0 [.pointer p, .pointer q]) b (Tr.cells ⟨p, q, m.x, m.works, m.failed⟩) TT ∧ Only b w (w.setCells b 0 [.pointer p, .pointer q]) := by
  refine ⟨?_, ?_, setCells_only b _ 0 w⟩
  · exact run_storeAt_mid (P := Try.prog) w b 0 WT #[.pointer p, .pointer q] (fun j hj => by
      have hj' : j < 2 := hj
      refine ⟨?_, h.free _⟩
      rcases (by omega : j = 0 ∨ j = 1) with rfl | rfl
      · rw [h.cell 0 _ m.c0]; rfl
      · rw [h.cell 1 _ m.c1]; rfl) (by kernel_rfl) (by simp [Value.oneCell'])
  · exact (h.set 0 (.pointer p)).set 1 (.pointer q)
attribute [local go_sem ↓] stW_in

set_option maxRecDepth 100000 in
set_option maxHeartbeats 4000000 in
theorem tfork_c (b cb gb : Nat) (t : Ts) (w : World) (h : TkAt w b cb gb t) :
    Calls Try.prog 24 #[.pointer (some ⟨b, 0, none⟩)] w fun e w' => ∃ b' cb' gb', e = .returned (.pointer (some ⟨b', 0, none⟩)) ∧ TkAt w' b' cb' gb' t ∧ w.heap.size ≤ b' ∧ w.heap.size ≤ cb' ∧ w.heap.size ≤ gb' ∧ Ext w w' := by
  rcases h with ⟨h1, h2, h3, h4, h5, h6, h7, h8⟩ | ⟨h1, h2, _, _⟩
  · have lt0 := ldT_blk h2
    have K0 : Ext w (w.alloc (.cells (Tr.cells ⟨some ⟨cb, 0, none⟩, some ⟨gb, 0, none⟩, t.x, true, 0⟩) TT)) := (by repeat (first | with_reducible exact Ext.refl _ | with_reducible assumption | with_reducible apply Ext.alloc | with_reducible apply Ext.drew | with_reducible apply Ext.drewN | (with_reducible refine Ext.set' ?_ (by first | omega | (simp only [World.size_alloc, World.size_setCell]; omega))) | (with_reducible refine Ext.trans ?_ (by with_reducible assumption)) | (with_reducible refine Ext.only ?_ (by with_reducible assumption) (by omega))))
    have HN := hid (Blk.new w (Tr.cells ⟨some ⟨cb, 0, none⟩, some ⟨gb, 0, none⟩, t.x, true, 0⟩) TT)
    have P0 := hid (And.intro (K0.blk h2) (And.intro (h3.ext K0) (K0.blk h4)))
    have HT := hid (And.intro h1 (And.intro h5 (And.intro h6 (And.intro h7 h8))))
    clear h1 h2 h3 h4 h5 h6 h7 h8
    go_enter Try.func24, Try.ntmps24
    go_wp2_with fail
    generalize hw1 : (w.alloc (.cells (Tr.cells ⟨some ⟨cb, 0, none⟩, some ⟨gb, 0, none⟩, t.x, true, 0⟩) TT)) = w1 at *
    obtain ⟨nb, hnb⟩ : ∃ q, Is w.heap.size q := ⟨_, Is.refl _⟩
    rw [hnb.eq] at HN ⊢
    have hnl : w.heap.size ≤ nb := by have := hnb.eq; omega
    have C0 := hid (fun w' (q : Ext w1 w') => (show w'.cell? ⟨b, 0, none⟩ = some (.pointer (some ⟨cb, 0, none⟩)) from (q.blk P0.out.1).cell 0 _ rfl))
    have C1 := hid (fun w' (q : Ext w1 w') => (show w'.cell? ⟨b, 1, none⟩ = some (.pointer (some ⟨gb, 0, none⟩)) from (q.blk P0.out.1).cell 1 _ rfl))
    have FC := hid (fun w' (q : Ext w1 w') => fork_c cb t.ck w' (P0.out.2.1.ext q) (by have := HT.out.2.2.2.1; omega) (by have := HT.out.2.2.2.2; omega))
    have FG := hid (fun w' (q : Ext w1 w') => fork_any gb t.gd w' (q.blk P0.out.2.2))
    have E1 := hid ((Ext.refl w1).drew)
    have c0 := C0.out w1 (Ext.refl w1)
    have c1 := C1.out w1 (Ext.refl w1)
    have D1 : ∀ p : Addr, w1.drew.cell? p = w1.cell? p := fun p => rfl
    have c0d := C0.out w1.drew E1.out
    have c1d := C1.out w1.drew E1.out
    have SW := hid (fun w' (q : Ext w1 w') (p r : Option Addr) => stW_tr p r (q.blk HN.out))
    clear lt0 hw1
    have hnlt : nb < w1.heap.size := HN.out.lt
    have SW2 := hid (fun w' (q : Ext w1 w') (p r : Option Addr) => (SW.out w' q p r).1)
    have FIN : Hid (∀ w' (q : Ext w1 w') g2 g3, CkAt w' g2 t.ck → Blk w' g3 t.gd.cells GT → w1.heap.size ≤ g2 → w1.heap.size ≤ g3 → TkAt (w'.setCells nb 0 [.pointer (some ⟨g2, 0, none⟩), .pointer (some ⟨g3, 0, none⟩)]) nb g2 g3 t ∧ w.heap.size ≤ g2 ∧ w.heap.size ≤ g3 ∧ Ext w (w'.setCells nb 0 [.pointer (some ⟨g2, 0, none⟩), .pointer (some ⟨g3, 0, none⟩)])) := hid (fun w' q g2 g3 hc hg l2 l3 => by
      obtain ⟨_, hb, ho⟩ := SW.out w' q (some ⟨g2, 0, none⟩) (some ⟨g3, 0, none⟩)
      obtain ⟨a1, a2, a3, a4, a5⟩ := HT.out
      have hwl := K0.le
      have hbn := q.blk HN.out
      obtain ⟨vb, vv, h1, h2, h3⟩ := hc
      exact ⟨.inl ⟨a1, hb, ⟨vb, vv, h1.kept ho (by omega), h2.only hbn (by decide) ho, h3.only hbn (by decide) ho⟩, hg.kept ho (by omega), a2, a3, a4, a5⟩, by omega, by omega, Ext.only (K0.trans q) ho hnl⟩)
    have sw0 := SW2.out _ E1.out
    have hle0 : w1.heap.size ≤ w1.drew.heap.size := Nat.le_refl _
    clear SW
    go_wp2_with fail
    go_region_with (first
      | (go_at_call 49; (with_reducible refine (FC.out _ EB.out).mono ?_); rintro e w2 ⟨g2, rfl, hck, hge, k2⟩; have EA := hid (EB.out.trans k2); have HCK := hid hck; have HG2 := hid (Nat.le_trans EB.out.le hge); have HGD2 := hid (Ext.blk k2 HGD.out); have c0a := C0.out w2 EA.out; have c1a := C1.out w2 EA.out; have swa := SW2.out w2 EA.out; clear hck hge k2)
      | (go_at_call 49; (with_reducible refine (FC.out _ E1.out).mono ?_); rintro e w2 ⟨g2, rfl, hck, hge, k2⟩; have EA := hid (E1.out.trans k2); have HCK := hid hck; have HG2 := hid (Nat.le_trans E1.out.le hge); have c0a := C0.out w2 EA.out; have c1a := C1.out w2 EA.out; have swa := SW2.out w2 EA.out; clear hck hge k2)
      | (go_at_call 50; (with_reducible refine (FG.out _ EA.out).mono ?_); rintro e w3 ⟨rfl, hgd, k3⟩; have EB := hid (Ext.trans EA.out k3); have HGD := hid hgd; have HG3 := hid EA.out.le; have HCK2 := hid (HCK.out.ext k3); have c0b := C0.out w3 EB.out; have c1b := C1.out w3 EB.out; have swb := SW2.out w3 EB.out; clear hgd k3)
      | (go_at_call 50; (with_reducible refine (FG.out _ E1.out).mono ?_); rintro e w3 ⟨rfl, hgd, k3⟩; have EB := hid (Ext.trans E1.out k3); have HGD := hid hgd; have HG3 := hid E1.out.le; have c0b := C0.out w3 EB.out; have c1b := C1.out w3 EB.out; have swb := SW2.out w3 EB.out; clear hgd k3))
    all_goals
      have HF := hid (by first | exact FIN.out w3 EB.out g2 _ HCK2.out HGD.out HG2.out HG3.out | exact FIN.out w2 EA.out g2 _ HCK.out HGD2.out HG2.out HG3.out)
      go_wp2_with fail
      go_ret
      exact ⟨nb, g2, _, rfl, HF.out.1, hnl, HF.out.2⟩
  · have lt0 := ldT_blk h2
    have K0 : Ext w (w.alloc (.cells (Tr.cells (Tr.rest t.failed)) TT)) := (by repeat (first | with_reducible exact Ext.refl _ | with_reducible assumption | with_reducible apply Ext.alloc | with_reducible apply Ext.drew | with_reducible apply Ext.drewN | (with_reducible refine Ext.set' ?_ (by first | omega | (simp only [World.size_alloc, World.size_setCell]; omega))) | (with_reducible refine Ext.trans ?_ (by with_reducible assumption)) | (with_reducible refine Ext.only ?_ (by with_reducible assumption) (by omega))))
    have HN := hid (Blk.new w (Tr.cells (Tr.rest t.failed)) TT)
    have P0 := hid (K0.blk h2)
    have HT := hid h1
    clear h1 h2
    go_enter Try.func24, Try.ntmps24
    go_wp2_with fail
    generalize hw1 : (w.alloc (.cells (Tr.cells (Tr.rest t.failed)) TT)) = w1 at *
    obtain ⟨nb, hnb⟩ : ∃ q, Is w.heap.size q := ⟨_, Is.refl _⟩
    rw [hnb.eq] at HN ⊢
    have hnl : w.heap.size ≤ nb := by have := hnb.eq; omega
    have C0 := hid (fun w' (q : Ext w1 w') => (show w'.cell? ⟨b, 0, none⟩ = some (.pointer none) from (q.blk P0.out).cell 0 _ rfl))
    have C1 := hid (fun w' (q : Ext w1 w') => (show w'.cell? ⟨b, 1, none⟩ = some (.pointer none) from (q.blk P0.out).cell 1 _ rfl))
    have E1 := hid ((Ext.refl w1).drew)
    have c0 := C0.out w1 (Ext.refl w1)
    have c1 := C1.out w1 (Ext.refl w1)
    have D1 : ∀ p : Addr, w1.drew.cell? p = w1.cell? p := fun p => rfl
    have SW2 := hid (fun w' (q : Ext w1 w') => (stW_tr none none (q.blk HN.out)).1)
    have FIN : Hid (∀ w' (q : Ext w1 w'), TkAt (w'.setCells nb 0 [.pointer none, .pointer none]) nb nb nb t ∧ w.heap.size ≤ nb ∧ w.heap.size ≤ nb ∧ Ext w (w'.setCells nb 0 [.pointer none, .pointer none])) := hid (fun w' q => by
      obtain ⟨_, hb, ho⟩ := stW_tr none none (q.blk HN.out)
      exact ⟨.inr ⟨HT.out, hb, rfl, rfl⟩, hnl, hnl, Ext.only (K0.trans q) ho hnl⟩)
    have sw0 := SW2.out _ E1.out
    clear lt0 hw1
    go_wp2_with fail
    go_region_with (first
      | (go_at_call 49; (with_reducible refine (fork_nil _).mono ?_); rintro e w2 ⟨rfl, k2⟩; have EA := hid (E1.out.trans k2); have c0a := C0.out w2 EA.out; have c1a := C1.out w2 EA.out; have swa := SW2.out w2 EA.out; clear k2)
      | (go_at_call 50; (with_reducible refine (gfork_nil _).mono ?_); rintro e w3 ⟨rfl, rfl⟩))
    all_goals
      have HF := hid (FIN.out w2 EA.out)
      go_wp2_with fail
      go_ret
      exact ⟨nb, nb, nb, rfl, HF.out.1, hnl, HF.out.2⟩

end Go.Proofs.Ytocogmboocjjaaa
