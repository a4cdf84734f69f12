/- Package nmt: the law NmtOrders. -/
import Derived.Test.YteflckedfnflpaaNmt4
import Derived.Test.YteflckedfnflpaaFrameOpen
set_option linter.unusedSimpArgs false
set_option linter.unusedVariables false
set_option linter.unnecessarySimpa false
namespace Go.Proofs.Yteflckedfnflpaa
open Go.RowKit Go.Proofs.YteflckedfnflpaaW.PrintWords Go.ChangeShapes Go.WideShapes Go.ChangeAt
attribute [local go_sem] max2_max min2_min max_of_two min_of_two
attribute [local go_sem ↓] run_eq_fr run_eq_ord

set_option maxHeartbeats 2000000 in
theorem renc_c (v n : Int) (w : World) (h : mayB v n = true) :
    Calls Try.prog 18 #[.agg #[.int .i64 v, .int .i64 n]] w fun e w' => e = .returned (.agg #[.int .i64 0, .bool false, .int .i64 2, .int .u8 v, .int .u8 n, .int .u8 0, .int .u8 0, .int .u8 0, .int .u8 0, .int .u8 0, .int .u8 0]) ∧ Ext w w' := by
  obtain ⟨hv, hn0, hn1⟩ := may_bounds h
  have hv0 : 0 ≤ v := by omega
  have hv1 : v ≤ 130 := by omega
  clear hv h
  go_enter Try.func18, Try.ntmps18
  go_wp2_with fail
  exact bodyPost_ret (v := .agg #[.int .i64 0, .bool false, .int .i64 2, .int .u8 v, .int .u8 n, .int .u8 0, .int .u8 0, .int .u8 0, .int .u8 0, .int .u8 0, .int .u8 0]) (by simp [results, Try.results18, go_sem, *]) rfl ⟨rfl, (by repeat (first | with_reducible exact Ext.refl _ | with_reducible assumption | with_reducible apply Ext.alloc | with_reducible apply Ext.drew | with_reducible apply Ext.drewN | (with_reducible refine Ext.set' ?_ (by first | omega | (simp only [World.size_alloc, World.size_setCell]; omega))) | (with_reducible refine Ext.trans ?_ (by with_reducible assumption)) | (with_reducible refine Ext.only ?_ (by with_reducible assumption) (by omega))))⟩

theorem enc_yes {v n : Int} (h : mayB v n = true) : encV v n = ⟨0, false, 2, v, n, 0, 0, 0, 0, 0, 0⟩ := if_pos h
theorem enc_no {v n : Int} (h : mayB v n = false) : encV v n = Fr.zero := by unfold encV; rw [h]; rfl
theorem encode_yes (v n : Int) (w : World) (h : mayB v n = true) : Calls Try.prog 15 #[.agg #[.int .i64 v, .int .i64 n]] w fun e w' => e = .returned (.tuple #[.agg #[.int .i64 0, .bool false, .int .i64 2, .int .u8 v, .int .u8 n, .int .u8 0, .int .u8 0, .int .u8 0, .int .u8 0, .int .u8 0, .int .u8 0], .int .i64 0]) ∧ Ext w w' := by
  have := encode_c v n w
  rw [enc_yes h, h] at this
  exact this
theorem encode_no (v n : Int) (w : World) (h : mayB v n = false) : Calls Try.prog 15 #[.agg #[.int .i64 v, .int .i64 n]] w fun e w' => e = .returned (.tuple #[.agg #[.int .i64 0, .bool false, .int .i64 0, .int .u8 0, .int .u8 0, .int .u8 0, .int .u8 0, .int .u8 0, .int .u8 0, .int .u8 0, .int .u8 0], .int .i64 2]) ∧ Ext w w' := by
  have := encode_c v n w
  rw [enc_no h, h] at this
  exact this
theorem ord_enc {v n : Int} (h : mayB v n = true) : Fr.ordV ⟨0, false, 2, v, n, 0, 0, 0, 0, 0, 0⟩ = .tuple #[.agg #[.int .i64 v, .int .i64 n], .int .i64 0] := by
  have h1 : Fr.chk ⟨0, false, 2, v, n, 0, 0, 0, 0, 0, 0⟩ = 0 := chk_two v n
  have h2 : Fr.ord ⟨0, false, 2, v, n, 0, 0, 0, 0, 0, 0⟩ = true := by simp [Fr.ord, h1, h]
  exact ord_true h2
theorem ord_back {id : Int} {rtr : Bool} {len d0 d1 d2 d3 d4 d5 d6 d7 : Int} (h : Fr.ord (⟨id, rtr, len, d0, d1, d2, d3, d4, d5, d6, d7⟩ : Fr) = true) : mayB d0 d1 = true ∧ frEq ⟨0, false, 2, d0, d1, 0, 0, 0, 0, 0, 0⟩ (⟨id, rtr, len, d0, d1, d2, d3, d4, d5, d6, d7⟩ : Fr) = true := by
  simp only [Fr.ord, Bool.and_eq_true, beq_iff_eq, Bool.not_eq_true'] at h
  obtain ⟨hc, rfl, rfl, rfl, hm⟩ := h
  refine ⟨hm, ?_⟩
  have : Fr.plain ⟨0, false, 2, d0, d1, d2, d3, d4, d5, d6, d7⟩ = ⟨0, false, 2, d0, d1, d2, d3, d4, d5, d6, d7⟩ := by
    unfold Fr.chk at hc
    rw [if_neg (by simp), if_neg (by simp)] at hc
    split at hc
    · rename_i hf; exact of_decide_eq_true hf
    · exact absurd hc (by decide)
  rw [← this]
  simp [frEq, Fr.plain]

set_option maxHeartbeats 8000000 in
theorem orders_c (v n : Int) (id : Int) (rtr : Bool) (len d0 d1 d2 d3 d4 d5 d6 d7 : Int) (w : World) (hd : Byt [d0, d1, d2, d3, d4, d5, d6, d7]) :
    Calls Try.prog 5 #[.agg #[.int .i64 v, .int .i64 n], .agg #[.int .i64 id, .bool rtr, .int .i64 len, .int .u8 d0, .int .u8 d1, .int .u8 d2, .int .u8 d3, .int .u8 d4, .int .u8 d5, .int .u8 d6, .int .u8 d7]] w fun e w' => e = .returned (.bool true) ∧ Ext w w' := by
  have HB := hid (fun w' (q : Ext ((w.alloc (.cells #[.int .i64 v, .int .i64 n] OT)).alloc (.cells #[.int .i64 id, .bool rtr, .int .i64 len, .int .u8 d0, .int .u8 d1, .int .u8 d2, .int .u8 d3, .int .u8 d4, .int .u8 d5, .int .u8 d6, .int .u8 d7] FT)) w') =>
    (⟨Ext.blk q ((Blk.new w #[.int .i64 v, .int .i64 n] OT).alloc _), Ext.blk q (Blk.new2 w _ #[.int .i64 id, .bool rtr, .int .i64 len, .int .u8 d0, .int .u8 d1, .int .u8 d2, .int .u8 d3, .int .u8 d4, .int .u8 d5, .int .u8 d6, .int .u8 d7] FT)⟩ : Blk w' w.heap.size #[.int .i64 v, .int .i64 n] OT ∧ Blk w' (w.heap.size + 1) #[.int .i64 id, .bool rtr, .int .i64 len, .int .u8 d0, .int .u8 d1, .int .u8 d2, .int .u8 d3, .int .u8 d4, .int .u8 d5, .int .u8 d6, .int .u8 d7] FT))
  have RM := hid (fun w => rmay_c v n w)
  have D1 := hid (fun w => decode_c id rtr len d0 d1 d2 d3 d4 d5 d6 d7 w hd)
  have D2 := hid (fun w => rdecode_c id rtr len d0 d1 d2 d3 d4 d5 d6 d7 w hd)
  have DX : mayB v n = true → Byt [v, n, 0, 0, 0, 0, 0, 0] := by
    intro h
    obtain ⟨hv, hn0, hn1⟩ := may_bounds h
    intro x hx
    simp at hx
    omega
  cases hx : mayB v n
  · have E1 := hid (fun w => encode_no v n w hx)
    rw [hx] at RM
    have f1 := frEq_refl Fr.zero
    clear hx DX hd
    cases ho : Fr.ord (⟨id, rtr, len, d0, d1, d2, d3, d4, d5, d6, d7⟩ : Fr)
    · have he : mayB 0 0 = false := by decide
      have E2 := hid (fun w => encode_no 0 0 w he)
      rw [ord_false ho] at D1 D2
      clear ho he
      go_enter Try.func5, Try.ntmps5
      go_wp2_with fail
      (with_reducible refine (E1.out _).mono ?_); rintro e w1 ⟨rfl, k1⟩
      obtain ⟨bo, bf⟩ := HB.out w1 (by repeat (first | with_reducible exact Ext.refl _ | with_reducible assumption | with_reducible apply Ext.alloc | with_reducible apply Ext.drew | with_reducible apply Ext.drewN | (with_reducible refine Ext.set' ?_ (by first | omega | (simp only [World.size_alloc, World.size_setCell]; omega))) | (with_reducible refine Ext.trans ?_ (by with_reducible assumption)) | (with_reducible refine Ext.only ?_ (by with_reducible assumption) (by omega))))
      have KE : Ext ((w.alloc (.cells #[.int .i64 v, .int .i64 n] OT)).alloc (.cells #[.int .i64 id, .bool rtr, .int .i64 len, .int .u8 d0, .int .u8 d1, .int .u8 d2, .int .u8 d3, .int .u8 d4, .int .u8 d5, .int .u8 d6, .int .u8 d7] FT)) w1 := k1
      obtain ⟨pc0, pc1, pf0, pf1⟩ := Blk.cells2 bo
      have hl1 := bo.lt
      have hl2 := bf.lt
      clear k1 E1
      go_wp2_with fail
      (with_reducible refine (RM.out _).mono ?_); rintro e w2 ⟨rfl, k2⟩
      have bx := k2.blk (Blk.new w1 #[.int .i64 0, .bool false, .int .i64 0, .int .u8 0, .int .u8 0, .int .u8 0, .int .u8 0, .int .u8 0, .int .u8 0, .int .u8 0, .int .u8 0] FT)
      have K5 : Ext ((w.alloc (.cells #[.int .i64 v, .int .i64 n] OT)).alloc (.cells #[.int .i64 id, .bool rtr, .int .i64 len, .int .u8 d0, .int .u8 d1, .int .u8 d2, .int .u8 d3, .int .u8 d4, .int .u8 d5, .int .u8 d6, .int .u8 d7] FT)) w2 := (by repeat (first | with_reducible exact Ext.refl _ | with_reducible assumption | with_reducible apply Ext.alloc | with_reducible apply Ext.drew | with_reducible apply Ext.drewN | (with_reducible refine Ext.set' ?_ (by first | omega | (simp only [World.size_alloc, World.size_setCell]; omega))) | (with_reducible refine Ext.trans ?_ (by with_reducible assumption)) | (with_reducible refine Ext.only ?_ (by with_reducible assumption) (by omega))))
      clear k2 KE pc0 pc1 pf0 pf1 RM bf bo
      generalize w1.heap.size = xb at *
      obtain ⟨qc0, qc1, qc2, qc3, qc4, qc5, qc6, qc7, qc8, qc9, qc10, qf0, qf1, qf2, qf3, qf4, qf5, qf6, qf7, qf8, qf9, qf10⟩ := Blk.cells11 bx
      clear qf0 qf1 qf2 qf3 qf4 qf5 qf6 qf7 qf8 qf9 qf10
      generalize w2 = w5 at *
      have bf := (HB.out w5 K5).2
      obtain ⟨pc0, pc1, pc2, pc3, pc4, pc5, pc6, pc7, pc8, pc9, pc10, pf0, pf1, pf2, pf3, pf4, pf5, pf6, pf7, pf8, pf9, pf10⟩ := Blk.cells11 bf
      clear pf0 pf1 pf2 pf3 pf4 pf5 pf6 pf7 pf8 pf9 pf10
      have hl2 := bf.lt
      clear bf
      go_wp2_with fail
      (with_reducible refine (D1.out _).mono ?_); rintro e w6 ⟨rfl, k6⟩
      have K6 : Ext ((w.alloc (.cells #[.int .i64 v, .int .i64 n] OT)).alloc (.cells #[.int .i64 id, .bool rtr, .int .i64 len, .int .u8 d0, .int .u8 d1, .int .u8 d2, .int .u8 d3, .int .u8 d4, .int .u8 d5, .int .u8 d6, .int .u8 d7] FT)) w6 := (by repeat (first | with_reducible exact Ext.refl _ | with_reducible assumption | with_reducible apply Ext.alloc | with_reducible apply Ext.drew | with_reducible apply Ext.drewN | (with_reducible refine Ext.set' ?_ (by first | omega | (simp only [World.size_alloc, World.size_setCell]; omega))) | (with_reducible refine Ext.trans ?_ (by with_reducible assumption)) | (with_reducible refine Ext.only ?_ (by with_reducible assumption) (by omega))))
      have bf := (HB.out w6 K6).2
      have bz := Blk.new w6 #[.int .i64 0, .int .i64 0] 32
      have bf := bf.alloc (.cells #[.int .i64 0, .int .i64 0] 32)
      have K6 : Ext ((w.alloc (.cells #[.int .i64 v, .int .i64 n] OT)).alloc (.cells #[.int .i64 id, .bool rtr, .int .i64 len, .int .u8 d0, .int .u8 d1, .int .u8 d2, .int .u8 d3, .int .u8 d4, .int .u8 d5, .int .u8 d6, .int .u8 d7] FT)) (w6.alloc (.cells #[.int .i64 0, .int .i64 0] 32)) := (by repeat (first | with_reducible exact Ext.refl _ | with_reducible assumption | with_reducible apply Ext.alloc | with_reducible apply Ext.drew | with_reducible apply Ext.drewN | (with_reducible refine Ext.set' ?_ (by first | omega | (simp only [World.size_alloc, World.size_setCell]; omega))) | (with_reducible refine Ext.trans ?_ (by with_reducible assumption)) | (with_reducible refine Ext.only ?_ (by with_reducible assumption) (by omega))))
      clear pc0 pc1 pc2 pc3 pc4 pc5 pc6 pc7 pc8 pc9 pc10 D1 k6 K5
      obtain ⟨pc0, pc1, pc2, pc3, pc4, pc5, pc6, pc7, pc8, pc9, pc10, pf0, pf1, pf2, pf3, pf4, pf5, pf6, pf7, pf8, pf9, pf10⟩ := Blk.cells11 bf
      clear pf0 pf1 pf2 pf3 pf4 pf5 pf6 pf7 pf8 pf9 pf10
      go_wp2_with fail
      (with_reducible refine (D2.out _).mono ?_); rintro e w7 ⟨rfl, k7⟩
      have K7 : Ext ((w.alloc (.cells #[.int .i64 v, .int .i64 n] OT)).alloc (.cells #[.int .i64 id, .bool rtr, .int .i64 len, .int .u8 d0, .int .u8 d1, .int .u8 d2, .int .u8 d3, .int .u8 d4, .int .u8 d5, .int .u8 d6, .int .u8 d7] FT)) w7 := (by repeat (first | with_reducible exact Ext.refl _ | with_reducible assumption | with_reducible apply Ext.alloc | with_reducible apply Ext.drew | with_reducible apply Ext.drewN | (with_reducible refine Ext.set' ?_ (by first | omega | (simp only [World.size_alloc, World.size_setCell]; omega))) | (with_reducible refine Ext.trans ?_ (by with_reducible assumption)) | (with_reducible refine Ext.only ?_ (by with_reducible assumption) (by omega))))
      have bz := k7.blk bz
      have hz := bz.lt
      clear pc0 pc1 pc2 pc3 pc4 pc5 pc6 pc7 pc8 pc9 pc10 D2 k7 K6 bf
      generalize w6.heap.size = zb at *
      obtain ⟨qc0, qc1, qf0, qf1⟩ := Blk.cells2 bz
      clear qf0 qf1
      go_wp2_with fail
      (with_reducible refine (E2.out _).mono ?_); rintro e w8 ⟨rfl, k8⟩
      have K8 : Ext ((w.alloc (.cells #[.int .i64 v, .int .i64 n] OT)).alloc (.cells #[.int .i64 id, .bool rtr, .int .i64 len, .int .u8 d0, .int .u8 d1, .int .u8 d2, .int .u8 d3, .int .u8 d4, .int .u8 d5, .int .u8 d6, .int .u8 d7] FT)) w8 := (by repeat (first | with_reducible exact Ext.refl _ | with_reducible assumption | with_reducible apply Ext.alloc | with_reducible apply Ext.drew | with_reducible apply Ext.drewN | (with_reducible refine Ext.set' ?_ (by first | omega | (simp only [World.size_alloc, World.size_setCell]; omega))) | (with_reducible refine Ext.trans ?_ (by with_reducible assumption)) | (with_reducible refine Ext.only ?_ (by with_reducible assumption) (by omega))))
      clear qc0 qc1 bz k8 K7 E2
      have bf := (HB.out w8 K8).2
      have bb := Blk.new w8 #[.int .i64 0, .bool false, .int .i64 0, .int .u8 0, .int .u8 0, .int .u8 0, .int .u8 0, .int .u8 0, .int .u8 0, .int .u8 0, .int .u8 0] FT
      have bf := bf.alloc (.cells #[.int .i64 0, .bool false, .int .i64 0, .int .u8 0, .int .u8 0, .int .u8 0, .int .u8 0, .int .u8 0, .int .u8 0, .int .u8 0, .int .u8 0] FT)
      go_wp2_with fail
      (with_reducible refine (live_c _).mono ?_); rintro e w9 ⟨rfl, k9⟩
      have bf := k9.blk bf
      have bb := k9.blk bb
      have K9 : Ext ((w.alloc (.cells #[.int .i64 v, .int .i64 n] OT)).alloc (.cells #[.int .i64 id, .bool rtr, .int .i64 len, .int .u8 d0, .int .u8 d1, .int .u8 d2, .int .u8 d3, .int .u8 d4, .int .u8 d5, .int .u8 d6, .int .u8 d7] FT)) w9 := (by repeat (first | with_reducible exact Ext.refl _ | with_reducible assumption | with_reducible apply Ext.alloc | with_reducible apply Ext.drew | with_reducible apply Ext.drewN | (with_reducible refine Ext.set' ?_ (by first | omega | (simp only [World.size_alloc, World.size_setCell]; omega))) | (with_reducible refine Ext.trans ?_ (by with_reducible assumption)) | (with_reducible refine Ext.only ?_ (by with_reducible assumption) (by omega))))
      clear k9 K8 HB
      generalize w8.heap.size = ab at *
      obtain ⟨pc0, pc1, pc2, pc3, pc4, pc5, pc6, pc7, pc8, pc9, pc10, pf0, pf1, pf2, pf3, pf4, pf5, pf6, pf7, pf8, pf9, pf10⟩ := Blk.cells11 bf
      obtain ⟨qc0, qc1, qc2, qc3, qc4, qc5, qc6, qc7, qc8, qc9, qc10, qf0, qf1, qf2, qf3, qf4, qf5, qf6, qf7, qf8, qf9, qf10⟩ := Blk.cells11 bb
      clear pf0 pf1 pf2 pf3 pf4 pf5 pf6 pf7 pf8 pf9 pf10
      clear qf0 qf1 qf2 qf3 qf4 qf5 qf6 qf7 qf8 qf9 qf10
      have KW : Ext w w9 := Ext.trans (by repeat (first | with_reducible exact Ext.refl _ | with_reducible assumption | with_reducible apply Ext.alloc | with_reducible apply Ext.drew | with_reducible apply Ext.drewN | (with_reducible refine Ext.set' ?_ (by first | omega | (simp only [World.size_alloc, World.size_setCell]; omega))) | (with_reducible refine Ext.trans ?_ (by with_reducible assumption)) | (with_reducible refine Ext.only ?_ (by with_reducible assumption) (by omega)))) K9
      go_wp2_with fail
      go_ret
      exact ⟨rfl, (by repeat (first | with_reducible exact Ext.refl _ | with_reducible assumption | with_reducible apply Ext.alloc | with_reducible apply Ext.drew | with_reducible apply Ext.drewN | (with_reducible refine Ext.set' ?_ (by first | omega | (simp only [World.size_alloc, World.size_setCell]; omega))) | (with_reducible refine Ext.trans ?_ (by with_reducible assumption)) | (with_reducible refine Ext.only ?_ (by with_reducible assumption) (by omega))))⟩
    · obtain ⟨hm, hf⟩ := ord_back ho
      have E2 := hid (fun w => encode_yes d0 d1 w hm)
      rw [ord_true ho] at D1 D2
      clear ho hm
      go_enter Try.func5, Try.ntmps5
      go_wp2_with fail
      (with_reducible refine (E1.out _).mono ?_); rintro e w1 ⟨rfl, k1⟩
      obtain ⟨bo, bf⟩ := HB.out w1 (by repeat (first | with_reducible exact Ext.refl _ | with_reducible assumption | with_reducible apply Ext.alloc | with_reducible apply Ext.drew | with_reducible apply Ext.drewN | (with_reducible refine Ext.set' ?_ (by first | omega | (simp only [World.size_alloc, World.size_setCell]; omega))) | (with_reducible refine Ext.trans ?_ (by with_reducible assumption)) | (with_reducible refine Ext.only ?_ (by with_reducible assumption) (by omega))))
      have KE : Ext ((w.alloc (.cells #[.int .i64 v, .int .i64 n] OT)).alloc (.cells #[.int .i64 id, .bool rtr, .int .i64 len, .int .u8 d0, .int .u8 d1, .int .u8 d2, .int .u8 d3, .int .u8 d4, .int .u8 d5, .int .u8 d6, .int .u8 d7] FT)) w1 := k1
      obtain ⟨pc0, pc1, pf0, pf1⟩ := Blk.cells2 bo
      have hl1 := bo.lt
      have hl2 := bf.lt
      clear k1 E1
      go_wp2_with fail
      (with_reducible refine (RM.out _).mono ?_); rintro e w2 ⟨rfl, k2⟩
      have bx := k2.blk (Blk.new w1 #[.int .i64 0, .bool false, .int .i64 0, .int .u8 0, .int .u8 0, .int .u8 0, .int .u8 0, .int .u8 0, .int .u8 0, .int .u8 0, .int .u8 0] FT)
      have K5 : Ext ((w.alloc (.cells #[.int .i64 v, .int .i64 n] OT)).alloc (.cells #[.int .i64 id, .bool rtr, .int .i64 len, .int .u8 d0, .int .u8 d1, .int .u8 d2, .int .u8 d3, .int .u8 d4, .int .u8 d5, .int .u8 d6, .int .u8 d7] FT)) w2 := (by repeat (first | with_reducible exact Ext.refl _ | with_reducible assumption | with_reducible apply Ext.alloc | with_reducible apply Ext.drew | with_reducible apply Ext.drewN | (with_reducible refine Ext.set' ?_ (by first | omega | (simp only [World.size_alloc, World.size_setCell]; omega))) | (with_reducible refine Ext.trans ?_ (by with_reducible assumption)) | (with_reducible refine Ext.only ?_ (by with_reducible assumption) (by omega))))
      clear k2 KE pc0 pc1 pf0 pf1 RM bf bo
      generalize w1.heap.size = xb at *
      obtain ⟨qc0, qc1, qc2, qc3, qc4, qc5, qc6, qc7, qc8, qc9, qc10, qf0, qf1, qf2, qf3, qf4, qf5, qf6, qf7, qf8, qf9, qf10⟩ := Blk.cells11 bx
      clear qf0 qf1 qf2 qf3 qf4 qf5 qf6 qf7 qf8 qf9 qf10
      generalize w2 = w5 at *
      have bf := (HB.out w5 K5).2
      obtain ⟨pc0, pc1, pc2, pc3, pc4, pc5, pc6, pc7, pc8, pc9, pc10, pf0, pf1, pf2, pf3, pf4, pf5, pf6, pf7, pf8, pf9, pf10⟩ := Blk.cells11 bf
      clear pf0 pf1 pf2 pf3 pf4 pf5 pf6 pf7 pf8 pf9 pf10
      have hl2 := bf.lt
      clear bf
      go_wp2_with fail
      (with_reducible refine (D1.out _).mono ?_); rintro e w6 ⟨rfl, k6⟩
      have K6 : Ext ((w.alloc (.cells #[.int .i64 v, .int .i64 n] OT)).alloc (.cells #[.int .i64 id, .bool rtr, .int .i64 len, .int .u8 d0, .int .u8 d1, .int .u8 d2, .int .u8 d3, .int .u8 d4, .int .u8 d5, .int .u8 d6, .int .u8 d7] FT)) w6 := (by repeat (first | with_reducible exact Ext.refl _ | with_reducible assumption | with_reducible apply Ext.alloc | with_reducible apply Ext.drew | with_reducible apply Ext.drewN | (with_reducible refine Ext.set' ?_ (by first | omega | (simp only [World.size_alloc, World.size_setCell]; omega))) | (with_reducible refine Ext.trans ?_ (by with_reducible assumption)) | (with_reducible refine Ext.only ?_ (by with_reducible assumption) (by omega))))
      have bf := (HB.out w6 K6).2
      have bz := Blk.new w6 #[.int .i64 d0, .int .i64 d1] 32
      have bf := bf.alloc (.cells #[.int .i64 d0, .int .i64 d1] 32)
      have K6 : Ext ((w.alloc (.cells #[.int .i64 v, .int .i64 n] OT)).alloc (.cells #[.int .i64 id, .bool rtr, .int .i64 len, .int .u8 d0, .int .u8 d1, .int .u8 d2, .int .u8 d3, .int .u8 d4, .int .u8 d5, .int .u8 d6, .int .u8 d7] FT)) (w6.alloc (.cells #[.int .i64 d0, .int .i64 d1] 32)) := (by repeat (first | with_reducible exact Ext.refl _ | with_reducible assumption | with_reducible apply Ext.alloc | with_reducible apply Ext.drew | with_reducible apply Ext.drewN | (with_reducible refine Ext.set' ?_ (by first | omega | (simp only [World.size_alloc, World.size_setCell]; omega))) | (with_reducible refine Ext.trans ?_ (by with_reducible assumption)) | (with_reducible refine Ext.only ?_ (by with_reducible assumption) (by omega))))
      clear pc0 pc1 pc2 pc3 pc4 pc5 pc6 pc7 pc8 pc9 pc10 D1 k6 K5
      obtain ⟨pc0, pc1, pc2, pc3, pc4, pc5, pc6, pc7, pc8, pc9, pc10, pf0, pf1, pf2, pf3, pf4, pf5, pf6, pf7, pf8, pf9, pf10⟩ := Blk.cells11 bf
      clear pf0 pf1 pf2 pf3 pf4 pf5 pf6 pf7 pf8 pf9 pf10
      go_wp2_with fail
      (with_reducible refine (D2.out _).mono ?_); rintro e w7 ⟨rfl, k7⟩
      have K7 : Ext ((w.alloc (.cells #[.int .i64 v, .int .i64 n] OT)).alloc (.cells #[.int .i64 id, .bool rtr, .int .i64 len, .int .u8 d0, .int .u8 d1, .int .u8 d2, .int .u8 d3, .int .u8 d4, .int .u8 d5, .int .u8 d6, .int .u8 d7] FT)) w7 := (by repeat (first | with_reducible exact Ext.refl _ | with_reducible assumption | with_reducible apply Ext.alloc | with_reducible apply Ext.drew | with_reducible apply Ext.drewN | (with_reducible refine Ext.set' ?_ (by first | omega | (simp only [World.size_alloc, World.size_setCell]; omega))) | (with_reducible refine Ext.trans ?_ (by with_reducible assumption)) | (with_reducible refine Ext.only ?_ (by with_reducible assumption) (by omega))))
      have bz := k7.blk bz
      have hz := bz.lt
      clear pc0 pc1 pc2 pc3 pc4 pc5 pc6 pc7 pc8 pc9 pc10 D2 k7 K6 bf
      generalize w6.heap.size = zb at *
      obtain ⟨qc0, qc1, qf0, qf1⟩ := Blk.cells2 bz
      clear qf0 qf1
      go_wp2_with fail
      (with_reducible refine (E2.out _).mono ?_); rintro e w8 ⟨rfl, k8⟩
      have K8 : Ext ((w.alloc (.cells #[.int .i64 v, .int .i64 n] OT)).alloc (.cells #[.int .i64 id, .bool rtr, .int .i64 len, .int .u8 d0, .int .u8 d1, .int .u8 d2, .int .u8 d3, .int .u8 d4, .int .u8 d5, .int .u8 d6, .int .u8 d7] FT)) w8 := (by repeat (first | with_reducible exact Ext.refl _ | with_reducible assumption | with_reducible apply Ext.alloc | with_reducible apply Ext.drew | with_reducible apply Ext.drewN | (with_reducible refine Ext.set' ?_ (by first | omega | (simp only [World.size_alloc, World.size_setCell]; omega))) | (with_reducible refine Ext.trans ?_ (by with_reducible assumption)) | (with_reducible refine Ext.only ?_ (by with_reducible assumption) (by omega))))
      clear qc0 qc1 bz k8 K7 E2
      have bf := (HB.out w8 K8).2
      have bb := Blk.new w8 #[.int .i64 0, .bool false, .int .i64 2, .int .u8 d0, .int .u8 d1, .int .u8 0, .int .u8 0, .int .u8 0, .int .u8 0, .int .u8 0, .int .u8 0] FT
      have bf := bf.alloc (.cells #[.int .i64 0, .bool false, .int .i64 2, .int .u8 d0, .int .u8 d1, .int .u8 0, .int .u8 0, .int .u8 0, .int .u8 0, .int .u8 0, .int .u8 0] FT)
      go_wp2_with fail
      (with_reducible refine (live_c _).mono ?_); rintro e w9 ⟨rfl, k9⟩
      have bf := k9.blk bf
      have bb := k9.blk bb
      have K9 : Ext ((w.alloc (.cells #[.int .i64 v, .int .i64 n] OT)).alloc (.cells #[.int .i64 id, .bool rtr, .int .i64 len, .int .u8 d0, .int .u8 d1, .int .u8 d2, .int .u8 d3, .int .u8 d4, .int .u8 d5, .int .u8 d6, .int .u8 d7] FT)) w9 := (by repeat (first | with_reducible exact Ext.refl _ | with_reducible assumption | with_reducible apply Ext.alloc | with_reducible apply Ext.drew | with_reducible apply Ext.drewN | (with_reducible refine Ext.set' ?_ (by first | omega | (simp only [World.size_alloc, World.size_setCell]; omega))) | (with_reducible refine Ext.trans ?_ (by with_reducible assumption)) | (with_reducible refine Ext.only ?_ (by with_reducible assumption) (by omega))))
      clear k9 K8 HB
      generalize w8.heap.size = ab at *
      obtain ⟨pc0, pc1, pc2, pc3, pc4, pc5, pc6, pc7, pc8, pc9, pc10, pf0, pf1, pf2, pf3, pf4, pf5, pf6, pf7, pf8, pf9, pf10⟩ := Blk.cells11 bf
      obtain ⟨qc0, qc1, qc2, qc3, qc4, qc5, qc6, qc7, qc8, qc9, qc10, qf0, qf1, qf2, qf3, qf4, qf5, qf6, qf7, qf8, qf9, qf10⟩ := Blk.cells11 bb
      clear pf0 pf1 pf2 pf3 pf4 pf5 pf6 pf7 pf8 pf9 pf10
      clear qf0 qf1 qf2 qf3 qf4 qf5 qf6 qf7 qf8 qf9 qf10
      have KW : Ext w w9 := Ext.trans (by repeat (first | with_reducible exact Ext.refl _ | with_reducible assumption | with_reducible apply Ext.alloc | with_reducible apply Ext.drew | with_reducible apply Ext.drewN | (with_reducible refine Ext.set' ?_ (by first | omega | (simp only [World.size_alloc, World.size_setCell]; omega))) | (with_reducible refine Ext.trans ?_ (by with_reducible assumption)) | (with_reducible refine Ext.only ?_ (by with_reducible assumption) (by omega)))) K9
      go_wp2_with fail
      go_ret
      exact ⟨rfl, (by repeat (first | with_reducible exact Ext.refl _ | with_reducible assumption | with_reducible apply Ext.alloc | with_reducible apply Ext.drew | with_reducible apply Ext.drewN | (with_reducible refine Ext.set' ?_ (by first | omega | (simp only [World.size_alloc, World.size_setCell]; omega))) | (with_reducible refine Ext.trans ?_ (by with_reducible assumption)) | (with_reducible refine Ext.only ?_ (by with_reducible assumption) (by omega))))⟩
  · have E1 := hid (fun w => encode_yes v n w hx)
    have R1 := hid (fun w => renc_c v n w hx)
    have DD := hid (fun w => decode_c 0 false 2 v n 0 0 0 0 0 0 w (DX hx))
    rw [ord_enc hx] at DD
    rw [hx] at RM
    have f1 := frEq_refl ⟨0, false, 2, v, n, 0, 0, 0, 0, 0, 0⟩
    clear hx DX hd
    cases ho : Fr.ord (⟨id, rtr, len, d0, d1, d2, d3, d4, d5, d6, d7⟩ : Fr)
    · have he : mayB 0 0 = false := by decide
      have E2 := hid (fun w => encode_no 0 0 w he)
      rw [ord_false ho] at D1 D2
      clear ho he
      go_enter Try.func5, Try.ntmps5
      go_wp2_with fail
      (with_reducible refine (E1.out _).mono ?_); rintro e w1 ⟨rfl, k1⟩
      obtain ⟨bo, bf⟩ := HB.out w1 (by repeat (first | with_reducible exact Ext.refl _ | with_reducible assumption | with_reducible apply Ext.alloc | with_reducible apply Ext.drew | with_reducible apply Ext.drewN | (with_reducible refine Ext.set' ?_ (by first | omega | (simp only [World.size_alloc, World.size_setCell]; omega))) | (with_reducible refine Ext.trans ?_ (by with_reducible assumption)) | (with_reducible refine Ext.only ?_ (by with_reducible assumption) (by omega))))
      have KE : Ext ((w.alloc (.cells #[.int .i64 v, .int .i64 n] OT)).alloc (.cells #[.int .i64 id, .bool rtr, .int .i64 len, .int .u8 d0, .int .u8 d1, .int .u8 d2, .int .u8 d3, .int .u8 d4, .int .u8 d5, .int .u8 d6, .int .u8 d7] FT)) w1 := k1
      obtain ⟨pc0, pc1, pf0, pf1⟩ := Blk.cells2 bo
      have hl1 := bo.lt
      have hl2 := bf.lt
      clear k1 E1
      go_wp2_with fail
      (with_reducible refine (RM.out _).mono ?_); rintro e w2 ⟨rfl, k2⟩
      have bx := k2.blk (Blk.new w1 #[.int .i64 0, .bool false, .int .i64 2, .int .u8 v, .int .u8 n, .int .u8 0, .int .u8 0, .int .u8 0, .int .u8 0, .int .u8 0, .int .u8 0] FT)
      have bo := k2.blk (bo.alloc _)
      have K2 : Ext ((w.alloc (.cells #[.int .i64 v, .int .i64 n] OT)).alloc (.cells #[.int .i64 id, .bool rtr, .int .i64 len, .int .u8 d0, .int .u8 d1, .int .u8 d2, .int .u8 d3, .int .u8 d4, .int .u8 d5, .int .u8 d6, .int .u8 d7] FT)) w2 := (by repeat (first | with_reducible exact Ext.refl _ | with_reducible assumption | with_reducible apply Ext.alloc | with_reducible apply Ext.drew | with_reducible apply Ext.drewN | (with_reducible refine Ext.set' ?_ (by first | omega | (simp only [World.size_alloc, World.size_setCell]; omega))) | (with_reducible refine Ext.trans ?_ (by with_reducible assumption)) | (with_reducible refine Ext.only ?_ (by with_reducible assumption) (by omega))))
      clear k2 KE pc0 pc1 pf0 pf1 RM bf
      generalize w1.heap.size = xb at *
      obtain ⟨qc0, qc1, qc2, qc3, qc4, qc5, qc6, qc7, qc8, qc9, qc10, qf0, qf1, qf2, qf3, qf4, qf5, qf6, qf7, qf8, qf9, qf10⟩ := Blk.cells11 bx
      clear qf0 qf1 qf2 qf3 qf4 qf5 qf6 qf7 qf8 qf9 qf10
      go_wp2_with fail
      (with_reducible refine (DD.out _).mono ?_); rintro e w3 ⟨rfl, k3⟩
      have K3 : Ext ((w.alloc (.cells #[.int .i64 v, .int .i64 n] OT)).alloc (.cells #[.int .i64 id, .bool rtr, .int .i64 len, .int .u8 d0, .int .u8 d1, .int .u8 d2, .int .u8 d3, .int .u8 d4, .int .u8 d5, .int .u8 d6, .int .u8 d7] FT)) w3 := (by repeat (first | with_reducible exact Ext.refl _ | with_reducible assumption | with_reducible apply Ext.alloc | with_reducible apply Ext.drew | with_reducible apply Ext.drewN | (with_reducible refine Ext.set' ?_ (by first | omega | (simp only [World.size_alloc, World.size_setCell]; omega))) | (with_reducible refine Ext.trans ?_ (by with_reducible assumption)) | (with_reducible refine Ext.only ?_ (by with_reducible assumption) (by omega))))
      have bx := k3.blk bx
      have bo := k3.blk bo
      clear qc0 qc1 qc2 qc3 qc4 qc5 qc6 qc7 qc8 qc9 qc10 k3 K2 DD
      go_wp2_with fail
      have bY := Blk.new w3 #[.int .i64 v, .int .i64 n] 32
      have bx := bx.alloc (.cells #[.int .i64 v, .int .i64 n] 32)
      have bo := bo.alloc (.cells #[.int .i64 v, .int .i64 n] 32)
      have KY : Ext ((w.alloc (.cells #[.int .i64 v, .int .i64 n] OT)).alloc (.cells #[.int .i64 id, .bool rtr, .int .i64 len, .int .u8 d0, .int .u8 d1, .int .u8 d2, .int .u8 d3, .int .u8 d4, .int .u8 d5, .int .u8 d6, .int .u8 d7] FT)) (w3.alloc (.cells #[.int .i64 v, .int .i64 n] 32)) := (by repeat (first | with_reducible exact Ext.refl _ | with_reducible assumption | with_reducible apply Ext.alloc | with_reducible apply Ext.drew | with_reducible apply Ext.drewN | (with_reducible refine Ext.set' ?_ (by first | omega | (simp only [World.size_alloc, World.size_setCell]; omega))) | (with_reducible refine Ext.trans ?_ (by with_reducible assumption)) | (with_reducible refine Ext.only ?_ (by with_reducible assumption) (by omega))))
      clear K3
      generalize w3.alloc (.cells #[.int .i64 v, .int .i64 n] 32) = wy at *
      generalize w3.heap.size = yb at *
      obtain ⟨qc0, qc1, qc2, qc3, qc4, qc5, qc6, qc7, qc8, qc9, qc10, qf0, qf1, qf2, qf3, qf4, qf5, qf6, qf7, qf8, qf9, qf10⟩ := Blk.cells11 bx
      obtain ⟨pc0, pc1, pf0, pf1⟩ := Blk.cells2 bo
      obtain ⟨rc0, rc1, rf0, rf1⟩ := Blk.cells2 bY
      clear qf0 qf1 qf2 qf3 qf4 qf5 qf6 qf7 qf8 qf9 qf10
      clear pf0 pf1
      clear rf0 rf1
      have qa0 := After.cell qc0; have qa1 := After.cell qc1; have qa2 := After.cell qc2; have qa3 := After.cell qc3; have qa4 := After.cell qc4; have qa5 := After.cell qc5; have qa6 := After.cell qc6; have qa7 := After.cell qc7; have qa8 := After.cell qc8; have qa9 := After.cell qc9; have qa10 := After.cell qc10
      have pa0 := After.cell pc0; have pa1 := After.cell pc1
      have ra0 := After.cell rc0; have ra1 := After.cell rc1
      clear bx bo bY qc0 qc1 qc2 qc3 qc4 qc5 qc6 qc7 qc8 qc9 qc10 pc0 pc1 rc0 rc1
      refine wp_region_ext (by kernel_rfl) (by kernel_rfl) ?_; (repeat (any_goals (first | go_big_quiet_step ((go_at_call 18; exact Calls.ext_of (R1.out _))) | quiet_step ((go_at_call 18; exact Calls.ext_of (R1.out _)))))); (all_goals (refine wpQuiet_nil ?_; intro w5 hw'; obtain ⟨⟨wX, k5⟩, hw''⟩ := hw'; subst hw''))
      clear qa0 qa1 qa2 qa3 qa4 qa5 qa6 qa7 qa8 qa9 qa10 pa0 pa1 ra0 ra1 R1
      have K5 : Ext ((w.alloc (.cells #[.int .i64 v, .int .i64 n] OT)).alloc (.cells #[.int .i64 id, .bool rtr, .int .i64 len, .int .u8 d0, .int .u8 d1, .int .u8 d2, .int .u8 d3, .int .u8 d4, .int .u8 d5, .int .u8 d6, .int .u8 d7] FT)) w5 := (by repeat (first | with_reducible exact Ext.refl _ | with_reducible assumption | with_reducible apply Ext.alloc | with_reducible apply Ext.drew | with_reducible apply Ext.drewN | (with_reducible refine Ext.set' ?_ (by first | omega | (simp only [World.size_alloc, World.size_setCell]; omega))) | (with_reducible refine Ext.trans ?_ (by with_reducible assumption)) | (with_reducible refine Ext.only ?_ (by with_reducible assumption) (by omega))))
      clear KY k5
      have bf := (HB.out w5 K5).2
      obtain ⟨pc0, pc1, pc2, pc3, pc4, pc5, pc6, pc7, pc8, pc9, pc10, pf0, pf1, pf2, pf3, pf4, pf5, pf6, pf7, pf8, pf9, pf10⟩ := Blk.cells11 bf
      clear pf0 pf1 pf2 pf3 pf4 pf5 pf6 pf7 pf8 pf9 pf10
      have hl2 := bf.lt
      clear bf
      go_wp2_with fail
      (with_reducible refine (D1.out _).mono ?_); rintro e w6 ⟨rfl, k6⟩
      have K6 : Ext ((w.alloc (.cells #[.int .i64 v, .int .i64 n] OT)).alloc (.cells #[.int .i64 id, .bool rtr, .int .i64 len, .int .u8 d0, .int .u8 d1, .int .u8 d2, .int .u8 d3, .int .u8 d4, .int .u8 d5, .int .u8 d6, .int .u8 d7] FT)) w6 := (by repeat (first | with_reducible exact Ext.refl _ | with_reducible assumption | with_reducible apply Ext.alloc | with_reducible apply Ext.drew | with_reducible apply Ext.drewN | (with_reducible refine Ext.set' ?_ (by first | omega | (simp only [World.size_alloc, World.size_setCell]; omega))) | (with_reducible refine Ext.trans ?_ (by with_reducible assumption)) | (with_reducible refine Ext.only ?_ (by with_reducible assumption) (by omega))))
      have bf := (HB.out w6 K6).2
      have bz := Blk.new w6 #[.int .i64 0, .int .i64 0] 32
      have bf := bf.alloc (.cells #[.int .i64 0, .int .i64 0] 32)
      have K6 : Ext ((w.alloc (.cells #[.int .i64 v, .int .i64 n] OT)).alloc (.cells #[.int .i64 id, .bool rtr, .int .i64 len, .int .u8 d0, .int .u8 d1, .int .u8 d2, .int .u8 d3, .int .u8 d4, .int .u8 d5, .int .u8 d6, .int .u8 d7] FT)) (w6.alloc (.cells #[.int .i64 0, .int .i64 0] 32)) := (by repeat (first | with_reducible exact Ext.refl _ | with_reducible assumption | with_reducible apply Ext.alloc | with_reducible apply Ext.drew | with_reducible apply Ext.drewN | (with_reducible refine Ext.set' ?_ (by first | omega | (simp only [World.size_alloc, World.size_setCell]; omega))) | (with_reducible refine Ext.trans ?_ (by with_reducible assumption)) | (with_reducible refine Ext.only ?_ (by with_reducible assumption) (by omega))))
      clear pc0 pc1 pc2 pc3 pc4 pc5 pc6 pc7 pc8 pc9 pc10 D1 k6 K5
      obtain ⟨pc0, pc1, pc2, pc3, pc4, pc5, pc6, pc7, pc8, pc9, pc10, pf0, pf1, pf2, pf3, pf4, pf5, pf6, pf7, pf8, pf9, pf10⟩ := Blk.cells11 bf
      clear pf0 pf1 pf2 pf3 pf4 pf5 pf6 pf7 pf8 pf9 pf10
      go_wp2_with fail
      (with_reducible refine (D2.out _).mono ?_); rintro e w7 ⟨rfl, k7⟩
      have K7 : Ext ((w.alloc (.cells #[.int .i64 v, .int .i64 n] OT)).alloc (.cells #[.int .i64 id, .bool rtr, .int .i64 len, .int .u8 d0, .int .u8 d1, .int .u8 d2, .int .u8 d3, .int .u8 d4, .int .u8 d5, .int .u8 d6, .int .u8 d7] FT)) w7 := (by repeat (first | with_reducible exact Ext.refl _ | with_reducible assumption | with_reducible apply Ext.alloc | with_reducible apply Ext.drew | with_reducible apply Ext.drewN | (with_reducible refine Ext.set' ?_ (by first | omega | (simp only [World.size_alloc, World.size_setCell]; omega))) | (with_reducible refine Ext.trans ?_ (by with_reducible assumption)) | (with_reducible refine Ext.only ?_ (by with_reducible assumption) (by omega))))
      have bz := k7.blk bz
      have hz := bz.lt
      clear pc0 pc1 pc2 pc3 pc4 pc5 pc6 pc7 pc8 pc9 pc10 D2 k7 K6 bf
      generalize w6.heap.size = zb at *
      obtain ⟨qc0, qc1, qf0, qf1⟩ := Blk.cells2 bz
      clear qf0 qf1
      go_wp2_with fail
      (with_reducible refine (E2.out _).mono ?_); rintro e w8 ⟨rfl, k8⟩
      have K8 : Ext ((w.alloc (.cells #[.int .i64 v, .int .i64 n] OT)).alloc (.cells #[.int .i64 id, .bool rtr, .int .i64 len, .int .u8 d0, .int .u8 d1, .int .u8 d2, .int .u8 d3, .int .u8 d4, .int .u8 d5, .int .u8 d6, .int .u8 d7] FT)) w8 := (by repeat (first | with_reducible exact Ext.refl _ | with_reducible assumption | with_reducible apply Ext.alloc | with_reducible apply Ext.drew | with_reducible apply Ext.drewN | (with_reducible refine Ext.set' ?_ (by first | omega | (simp only [World.size_alloc, World.size_setCell]; omega))) | (with_reducible refine Ext.trans ?_ (by with_reducible assumption)) | (with_reducible refine Ext.only ?_ (by with_reducible assumption) (by omega))))
      clear qc0 qc1 bz k8 K7 E2
      have bf := (HB.out w8 K8).2
      have bb := Blk.new w8 #[.int .i64 0, .bool false, .int .i64 0, .int .u8 0, .int .u8 0, .int .u8 0, .int .u8 0, .int .u8 0, .int .u8 0, .int .u8 0, .int .u8 0] FT
      have bf := bf.alloc (.cells #[.int .i64 0, .bool false, .int .i64 0, .int .u8 0, .int .u8 0, .int .u8 0, .int .u8 0, .int .u8 0, .int .u8 0, .int .u8 0, .int .u8 0] FT)
      go_wp2_with fail
      (with_reducible refine (live_c _).mono ?_); rintro e w9 ⟨rfl, k9⟩
      have bf := k9.blk bf
      have bb := k9.blk bb
      have K9 : Ext ((w.alloc (.cells #[.int .i64 v, .int .i64 n] OT)).alloc (.cells #[.int .i64 id, .bool rtr, .int .i64 len, .int .u8 d0, .int .u8 d1, .int .u8 d2, .int .u8 d3, .int .u8 d4, .int .u8 d5, .int .u8 d6, .int .u8 d7] FT)) w9 := (by repeat (first | with_reducible exact Ext.refl _ | with_reducible assumption | with_reducible apply Ext.alloc | with_reducible apply Ext.drew | with_reducible apply Ext.drewN | (with_reducible refine Ext.set' ?_ (by first | omega | (simp only [World.size_alloc, World.size_setCell]; omega))) | (with_reducible refine Ext.trans ?_ (by with_reducible assumption)) | (with_reducible refine Ext.only ?_ (by with_reducible assumption) (by omega))))
      clear k9 K8 HB
      generalize w8.heap.size = ab at *
      obtain ⟨pc0, pc1, pc2, pc3, pc4, pc5, pc6, pc7, pc8, pc9, pc10, pf0, pf1, pf2, pf3, pf4, pf5, pf6, pf7, pf8, pf9, pf10⟩ := Blk.cells11 bf
      obtain ⟨qc0, qc1, qc2, qc3, qc4, qc5, qc6, qc7, qc8, qc9, qc10, qf0, qf1, qf2, qf3, qf4, qf5, qf6, qf7, qf8, qf9, qf10⟩ := Blk.cells11 bb
      clear pf0 pf1 pf2 pf3 pf4 pf5 pf6 pf7 pf8 pf9 pf10
      clear qf0 qf1 qf2 qf3 qf4 qf5 qf6 qf7 qf8 qf9 qf10
      have KW : Ext w w9 := Ext.trans (by repeat (first | with_reducible exact Ext.refl _ | with_reducible assumption | with_reducible apply Ext.alloc | with_reducible apply Ext.drew | with_reducible apply Ext.drewN | (with_reducible refine Ext.set' ?_ (by first | omega | (simp only [World.size_alloc, World.size_setCell]; omega))) | (with_reducible refine Ext.trans ?_ (by with_reducible assumption)) | (with_reducible refine Ext.only ?_ (by with_reducible assumption) (by omega)))) K9
      go_wp2_with fail
      go_ret
      exact ⟨rfl, (by repeat (first | with_reducible exact Ext.refl _ | with_reducible assumption | with_reducible apply Ext.alloc | with_reducible apply Ext.drew | with_reducible apply Ext.drewN | (with_reducible refine Ext.set' ?_ (by first | omega | (simp only [World.size_alloc, World.size_setCell]; omega))) | (with_reducible refine Ext.trans ?_ (by with_reducible assumption)) | (with_reducible refine Ext.only ?_ (by with_reducible assumption) (by omega))))⟩
    · obtain ⟨hm, hf⟩ := ord_back ho
      have E2 := hid (fun w => encode_yes d0 d1 w hm)
      rw [ord_true ho] at D1 D2
      clear ho hm
      go_enter Try.func5, Try.ntmps5
      go_wp2_with fail
      (with_reducible refine (E1.out _).mono ?_); rintro e w1 ⟨rfl, k1⟩
      obtain ⟨bo, bf⟩ := HB.out w1 (by repeat (first | with_reducible exact Ext.refl _ | with_reducible assumption | with_reducible apply Ext.alloc | with_reducible apply Ext.drew | with_reducible apply Ext.drewN | (with_reducible refine Ext.set' ?_ (by first | omega | (simp only [World.size_alloc, World.size_setCell]; omega))) | (with_reducible refine Ext.trans ?_ (by with_reducible assumption)) | (with_reducible refine Ext.only ?_ (by with_reducible assumption) (by omega))))
      have KE : Ext ((w.alloc (.cells #[.int .i64 v, .int .i64 n] OT)).alloc (.cells #[.int .i64 id, .bool rtr, .int .i64 len, .int .u8 d0, .int .u8 d1, .int .u8 d2, .int .u8 d3, .int .u8 d4, .int .u8 d5, .int .u8 d6, .int .u8 d7] FT)) w1 := k1
      obtain ⟨pc0, pc1, pf0, pf1⟩ := Blk.cells2 bo
      have hl1 := bo.lt
      have hl2 := bf.lt
      clear k1 E1
      go_wp2_with fail
      (with_reducible refine (RM.out _).mono ?_); rintro e w2 ⟨rfl, k2⟩
      have bx := k2.blk (Blk.new w1 #[.int .i64 0, .bool false, .int .i64 2, .int .u8 v, .int .u8 n, .int .u8 0, .int .u8 0, .int .u8 0, .int .u8 0, .int .u8 0, .int .u8 0] FT)
      have bo := k2.blk (bo.alloc _)
      have K2 : Ext ((w.alloc (.cells #[.int .i64 v, .int .i64 n] OT)).alloc (.cells #[.int .i64 id, .bool rtr, .int .i64 len, .int .u8 d0, .int .u8 d1, .int .u8 d2, .int .u8 d3, .int .u8 d4, .int .u8 d5, .int .u8 d6, .int .u8 d7] FT)) w2 := (by repeat (first | with_reducible exact Ext.refl _ | with_reducible assumption | with_reducible apply Ext.alloc | with_reducible apply Ext.drew | with_reducible apply Ext.drewN | (with_reducible refine Ext.set' ?_ (by first | omega | (simp only [World.size_alloc, World.size_setCell]; omega))) | (with_reducible refine Ext.trans ?_ (by with_reducible assumption)) | (with_reducible refine Ext.only ?_ (by with_reducible assumption) (by omega))))
      clear k2 KE pc0 pc1 pf0 pf1 RM bf
      generalize w1.heap.size = xb at *
      obtain ⟨qc0, qc1, qc2, qc3, qc4, qc5, qc6, qc7, qc8, qc9, qc10, qf0, qf1, qf2, qf3, qf4, qf5, qf6, qf7, qf8, qf9, qf10⟩ := Blk.cells11 bx
      clear qf0 qf1 qf2 qf3 qf4 qf5 qf6 qf7 qf8 qf9 qf10
      go_wp2_with fail
      (with_reducible refine (DD.out _).mono ?_); rintro e w3 ⟨rfl, k3⟩
      have K3 : Ext ((w.alloc (.cells #[.int .i64 v, .int .i64 n] OT)).alloc (.cells #[.int .i64 id, .bool rtr, .int .i64 len, .int .u8 d0, .int .u8 d1, .int .u8 d2, .int .u8 d3, .int .u8 d4, .int .u8 d5, .int .u8 d6, .int .u8 d7] FT)) w3 := (by repeat (first | with_reducible exact Ext.refl _ | with_reducible assumption | with_reducible apply Ext.alloc | with_reducible apply Ext.drew | with_reducible apply Ext.drewN | (with_reducible refine Ext.set' ?_ (by first | omega | (simp only [World.size_alloc, World.size_setCell]; omega))) | (with_reducible refine Ext.trans ?_ (by with_reducible assumption)) | (with_reducible refine Ext.only ?_ (by with_reducible assumption) (by omega))))
      have bx := k3.blk bx
      have bo := k3.blk bo
      clear qc0 qc1 qc2 qc3 qc4 qc5 qc6 qc7 qc8 qc9 qc10 k3 K2 DD
      go_wp2_with fail
      have bY := Blk.new w3 #[.int .i64 v, .int .i64 n] 32
      have bx := bx.alloc (.cells #[.int .i64 v, .int .i64 n] 32)
      have bo := bo.alloc (.cells #[.int .i64 v, .int .i64 n] 32)
      have KY : Ext ((w.alloc (.cells #[.int .i64 v, .int .i64 n] OT)).alloc (.cells #[.int .i64 id, .bool rtr, .int .i64 len, .int .u8 d0, .int .u8 d1, .int .u8 d2, .int .u8 d3, .int .u8 d4, .int .u8 d5, .int .u8 d6, .int .u8 d7] FT)) (w3.alloc (.cells #[.int .i64 v, .int .i64 n] 32)) := (by repeat (first | with_reducible exact Ext.refl _ | with_reducible assumption | with_reducible apply Ext.alloc | with_reducible apply Ext.drew | with_reducible apply Ext.drewN | (with_reducible refine Ext.set' ?_ (by first | omega | (simp only [World.size_alloc, World.size_setCell]; omega))) | (with_reducible refine Ext.trans ?_ (by with_reducible assumption)) | (with_reducible refine Ext.only ?_ (by with_reducible assumption) (by omega))))
      clear K3
      generalize w3.alloc (.cells #[.int .i64 v, .int .i64 n] 32) = wy at *
      generalize w3.heap.size = yb at *
      obtain ⟨qc0, qc1, qc2, qc3, qc4, qc5, qc6, qc7, qc8, qc9, qc10, qf0, qf1, qf2, qf3, qf4, qf5, qf6, qf7, qf8, qf9, qf10⟩ := Blk.cells11 bx
      obtain ⟨pc0, pc1, pf0, pf1⟩ := Blk.cells2 bo
      obtain ⟨rc0, rc1, rf0, rf1⟩ := Blk.cells2 bY
      clear qf0 qf1 qf2 qf3 qf4 qf5 qf6 qf7 qf8 qf9 qf10
      clear pf0 pf1
      clear rf0 rf1
      have qa0 := After.cell qc0; have qa1 := After.cell qc1; have qa2 := After.cell qc2; have qa3 := After.cell qc3; have qa4 := After.cell qc4; have qa5 := After.cell qc5; have qa6 := After.cell qc6; have qa7 := After.cell qc7; have qa8 := After.cell qc8; have qa9 := After.cell qc9; have qa10 := After.cell qc10
      have pa0 := After.cell pc0; have pa1 := After.cell pc1
      have ra0 := After.cell rc0; have ra1 := After.cell rc1
      clear bx bo bY qc0 qc1 qc2 qc3 qc4 qc5 qc6 qc7 qc8 qc9 qc10 pc0 pc1 rc0 rc1
      refine wp_region_ext (by kernel_rfl) (by kernel_rfl) ?_; (repeat (any_goals (first | go_big_quiet_step ((go_at_call 18; exact Calls.ext_of (R1.out _))) | quiet_step ((go_at_call 18; exact Calls.ext_of (R1.out _)))))); (all_goals (refine wpQuiet_nil ?_; intro w5 hw'; obtain ⟨⟨wX, k5⟩, hw''⟩ := hw'; subst hw''))
      clear qa0 qa1 qa2 qa3 qa4 qa5 qa6 qa7 qa8 qa9 qa10 pa0 pa1 ra0 ra1 R1
      have K5 : Ext ((w.alloc (.cells #[.int .i64 v, .int .i64 n] OT)).alloc (.cells #[.int .i64 id, .bool rtr, .int .i64 len, .int .u8 d0, .int .u8 d1, .int .u8 d2, .int .u8 d3, .int .u8 d4, .int .u8 d5, .int .u8 d6, .int .u8 d7] FT)) w5 := (by repeat (first | with_reducible exact Ext.refl _ | with_reducible assumption | with_reducible apply Ext.alloc | with_reducible apply Ext.drew | with_reducible apply Ext.drewN | (with_reducible refine Ext.set' ?_ (by first | omega | (simp only [World.size_alloc, World.size_setCell]; omega))) | (with_reducible refine Ext.trans ?_ (by with_reducible assumption)) | (with_reducible refine Ext.only ?_ (by with_reducible assumption) (by omega))))
      clear KY k5
      have bf := (HB.out w5 K5).2
      obtain ⟨pc0, pc1, pc2, pc3, pc4, pc5, pc6, pc7, pc8, pc9, pc10, pf0, pf1, pf2, pf3, pf4, pf5, pf6, pf7, pf8, pf9, pf10⟩ := Blk.cells11 bf
      clear pf0 pf1 pf2 pf3 pf4 pf5 pf6 pf7 pf8 pf9 pf10
      have hl2 := bf.lt
      clear bf
      go_wp2_with fail
      (with_reducible refine (D1.out _).mono ?_); rintro e w6 ⟨rfl, k6⟩
      have K6 : Ext ((w.alloc (.cells #[.int .i64 v, .int .i64 n] OT)).alloc (.cells #[.int .i64 id, .bool rtr, .int .i64 len, .int .u8 d0, .int .u8 d1, .int .u8 d2, .int .u8 d3, .int .u8 d4, .int .u8 d5, .int .u8 d6, .int .u8 d7] FT)) w6 := (by repeat (first | with_reducible exact Ext.refl _ | with_reducible assumption | with_reducible apply Ext.alloc | with_reducible apply Ext.drew | with_reducible apply Ext.drewN | (with_reducible refine Ext.set' ?_ (by first | omega | (simp only [World.size_alloc, World.size_setCell]; omega))) | (with_reducible refine Ext.trans ?_ (by with_reducible assumption)) | (with_reducible refine Ext.only ?_ (by with_reducible assumption) (by omega))))
      have bf := (HB.out w6 K6).2
      have bz := Blk.new w6 #[.int .i64 d0, .int .i64 d1] 32
      have bf := bf.alloc (.cells #[.int .i64 d0, .int .i64 d1] 32)
      have K6 : Ext ((w.alloc (.cells #[.int .i64 v, .int .i64 n] OT)).alloc (.cells #[.int .i64 id, .bool rtr, .int .i64 len, .int .u8 d0, .int .u8 d1, .int .u8 d2, .int .u8 d3, .int .u8 d4, .int .u8 d5, .int .u8 d6, .int .u8 d7] FT)) (w6.alloc (.cells #[.int .i64 d0, .int .i64 d1] 32)) := (by repeat (first | with_reducible exact Ext.refl _ | with_reducible assumption | with_reducible apply Ext.alloc | with_reducible apply Ext.drew | with_reducible apply Ext.drewN | (with_reducible refine Ext.set' ?_ (by first | omega | (simp only [World.size_alloc, World.size_setCell]; omega))) | (with_reducible refine Ext.trans ?_ (by with_reducible assumption)) | (with_reducible refine Ext.only ?_ (by with_reducible assumption) (by omega))))
      clear pc0 pc1 pc2 pc3 pc4 pc5 pc6 pc7 pc8 pc9 pc10 D1 k6 K5
      obtain ⟨pc0, pc1, pc2, pc3, pc4, pc5, pc6, pc7, pc8, pc9, pc10, pf0, pf1, pf2, pf3, pf4, pf5, pf6, pf7, pf8, pf9, pf10⟩ := Blk.cells11 bf
      clear pf0 pf1 pf2 pf3 pf4 pf5 pf6 pf7 pf8 pf9 pf10
      go_wp2_with fail
      (with_reducible refine (D2.out _).mono ?_); rintro e w7 ⟨rfl, k7⟩
      have K7 : Ext ((w.alloc (.cells #[.int .i64 v, .int .i64 n] OT)).alloc (.cells #[.int .i64 id, .bool rtr, .int .i64 len, .int .u8 d0, .int .u8 d1, .int .u8 d2, .int .u8 d3, .int .u8 d4, .int .u8 d5, .int .u8 d6, .int .u8 d7] FT)) w7 := (by repeat (first | with_reducible exact Ext.refl _ | with_reducible assumption | with_reducible apply Ext.alloc | with_reducible apply Ext.drew | with_reducible apply Ext.drewN | (with_reducible refine Ext.set' ?_ (by first | omega | (simp only [World.size_alloc, World.size_setCell]; omega))) | (with_reducible refine Ext.trans ?_ (by with_reducible assumption)) | (with_reducible refine Ext.only ?_ (by with_reducible assumption) (by omega))))
      have bz := k7.blk bz
      have hz := bz.lt
      clear pc0 pc1 pc2 pc3 pc4 pc5 pc6 pc7 pc8 pc9 pc10 D2 k7 K6 bf
      generalize w6.heap.size = zb at *
      obtain ⟨qc0, qc1, qf0, qf1⟩ := Blk.cells2 bz
      clear qf0 qf1
      go_wp2_with fail
      (with_reducible refine (E2.out _).mono ?_); rintro e w8 ⟨rfl, k8⟩
      have K8 : Ext ((w.alloc (.cells #[.int .i64 v, .int .i64 n] OT)).alloc (.cells #[.int .i64 id, .bool rtr, .int .i64 len, .int .u8 d0, .int .u8 d1, .int .u8 d2, .int .u8 d3, .int .u8 d4, .int .u8 d5, .int .u8 d6, .int .u8 d7] FT)) w8 := (by repeat (first | with_reducible exact Ext.refl _ | with_reducible assumption | with_reducible apply Ext.alloc | with_reducible apply Ext.drew | with_reducible apply Ext.drewN | (with_reducible refine Ext.set' ?_ (by first | omega | (simp only [World.size_alloc, World.size_setCell]; omega))) | (with_reducible refine Ext.trans ?_ (by with_reducible assumption)) | (with_reducible refine Ext.only ?_ (by with_reducible assumption) (by omega))))
      clear qc0 qc1 bz k8 K7 E2
      have bf := (HB.out w8 K8).2
      have bb := Blk.new w8 #[.int .i64 0, .bool false, .int .i64 2, .int .u8 d0, .int .u8 d1, .int .u8 0, .int .u8 0, .int .u8 0, .int .u8 0, .int .u8 0, .int .u8 0] FT
      have bf := bf.alloc (.cells #[.int .i64 0, .bool false, .int .i64 2, .int .u8 d0, .int .u8 d1, .int .u8 0, .int .u8 0, .int .u8 0, .int .u8 0, .int .u8 0, .int .u8 0] FT)
      go_wp2_with fail
      (with_reducible refine (live_c _).mono ?_); rintro e w9 ⟨rfl, k9⟩
      have bf := k9.blk bf
      have bb := k9.blk bb
      have K9 : Ext ((w.alloc (.cells #[.int .i64 v, .int .i64 n] OT)).alloc (.cells #[.int .i64 id, .bool rtr, .int .i64 len, .int .u8 d0, .int .u8 d1, .int .u8 d2, .int .u8 d3, .int .u8 d4, .int .u8 d5, .int .u8 d6, .int .u8 d7] FT)) w9 := (by repeat (first | with_reducible exact Ext.refl _ | with_reducible assumption | with_reducible apply Ext.alloc | with_reducible apply Ext.drew | with_reducible apply Ext.drewN | (with_reducible refine Ext.set' ?_ (by first | omega | (simp only [World.size_alloc, World.size_setCell]; omega))) | (with_reducible refine Ext.trans ?_ (by with_reducible assumption)) | (with_reducible refine Ext.only ?_ (by with_reducible assumption) (by omega))))
      clear k9 K8 HB
      generalize w8.heap.size = ab at *
      obtain ⟨pc0, pc1, pc2, pc3, pc4, pc5, pc6, pc7, pc8, pc9, pc10, pf0, pf1, pf2, pf3, pf4, pf5, pf6, pf7, pf8, pf9, pf10⟩ := Blk.cells11 bf
      obtain ⟨qc0, qc1, qc2, qc3, qc4, qc5, qc6, qc7, qc8, qc9, qc10, qf0, qf1, qf2, qf3, qf4, qf5, qf6, qf7, qf8, qf9, qf10⟩ := Blk.cells11 bb
      clear pf0 pf1 pf2 pf3 pf4 pf5 pf6 pf7 pf8 pf9 pf10
      clear qf0 qf1 qf2 qf3 qf4 qf5 qf6 qf7 qf8 qf9 qf10
      have KW : Ext w w9 := Ext.trans (by repeat (first | with_reducible exact Ext.refl _ | with_reducible assumption | with_reducible apply Ext.alloc | with_reducible apply Ext.drew | with_reducible apply Ext.drewN | (with_reducible refine Ext.set' ?_ (by first | omega | (simp only [World.size_alloc, World.size_setCell]; omega))) | (with_reducible refine Ext.trans ?_ (by with_reducible assumption)) | (with_reducible refine Ext.only ?_ (by with_reducible assumption) (by omega)))) K9
      go_wp2_with fail
      go_ret
      exact ⟨rfl, (by repeat (first | with_reducible exact Ext.refl _ | with_reducible assumption | with_reducible apply Ext.alloc | with_reducible apply Ext.drew | with_reducible apply Ext.drewN | (with_reducible refine Ext.set' ?_ (by first | omega | (simp only [World.size_alloc, World.size_setCell]; omega))) | (with_reducible refine Ext.trans ?_ (by with_reducible assumption)) | (with_reducible refine Ext.only ?_ (by with_reducible assumption) (by omega))))⟩

theorem orders_entry (v0 v1 : Value) (W : World) {base : Nat} (h0 : Rd Try.prog W 32 v0.cells.toList) (o0 : Value.okWide Try.prog W .any base 32 v0)
    (h1 : Rd Try.prog W 44 v1.cells.toList) (o1 : Value.okWide Try.prog W .any base 44 v1) :
    Calls Try.prog 5 #[v0, v1] W fun e w' => e = .returned (.bool true) ∧ Below W.heap.size W w' := by
  obtain ⟨cs, rfl, hs, h0'⟩ := opn_struct Try.underlying32 h0 o0
  obtain ⟨v, k, hvk⟩ := dec_order cs.toList (by simpa using hs.trans (by kernel_rfl)) h0'
  have : cs = #[.int .i64 v, .int .i64 k] := by rw [← Array.toArray_toList (xs := cs), hvk]
  subst this
  obtain ⟨f, rfl, hb, _⟩ := opn_frame h1 o1
  obtain ⟨id, rtr, len, d0, d1, d2, d3, d4, d5, d6, d7⟩ := f
  exact orders_c v k id rtr len d0 d1 d2 d3 d4 d5 d6 d7 W hb

end Go.Proofs.Yteflckedfnflpaa
