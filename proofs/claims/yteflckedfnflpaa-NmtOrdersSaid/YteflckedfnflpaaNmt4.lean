/- Package nmt: Decode; the reference's Decode and Encode; the law NmtOrders. -/
import Derived.Test.YteflckedfnflpaaNmt3
import Derived.Test.YteflckedfnflpaaFrame3
set_option linter.unusedSimpArgs false
set_option linter.unusedVariables false
set_option linter.unnecessarySimpa false
namespace Go.Proofs.Yteflckedfnflpaa
open Go.RowKit Go.Proofs.YteflckedfnflpaaW.PrintWords Go.ChangeShapes Go.WideShapes Go.ChangeAt
attribute [local go_sem] max2_max min2_min max_of_two min_of_two
attribute [local go_sem ↓] run_eq_fr

theorem run_eq_ord (a0 a1 b0 b1 : Int) (w : World) :
    (Op.equalIn 10000 32 (.agg #[.int .i64 a0, .int .i64 a1]) (.agg #[.int .i64 b0, .int .i64 b1])).run Try.prog w = .ok (a0 == b0 && (a1 == b1 && true)) w :=
  eqS Try.underlying32 (by kernel_rfl) (eqF_cons (by kernel_rfl) (by kernel_rfl) (by kernel_rfl) (run_equalIn_int w _ _ .i64 _ _ _ Try.underlying30) (eqF_cons (by kernel_rfl) (by kernel_rfl) (by kernel_rfl) (run_equalIn_int w _ _ .i64 _ _ _ Try.underlying3) eqF_nil))
attribute [local go_sem ↓] run_eq_ord

/-- Has a frame an order? -/
def Fr.ord (f : Fr) : Bool := f.chk == 0 && (f.id == 0 && (!f.rtr && (f.len == 2 && mayB f.d0 f.d1)))
def Fr.ordV (f : Fr) : Value := .tuple #[.agg #[.int .i64 (if f.ord then f.d0 else 0), .int .i64 (if f.ord then f.d1 else 0)], .int .i64 (if f.ord then 0 else 4)]

theorem ord_false {f : Fr} (h : f.ord = false) : f.ordV = .tuple #[.agg #[.int .i64 0, .int .i64 0], .int .i64 4] := by simp [Fr.ordV, h]
theorem ord_true {f : Fr} (h : f.ord = true) : f.ordV = .tuple #[.agg #[.int .i64 f.d0, .int .i64 f.d1], .int .i64 0] := by simp [Fr.ordV, h]

theorem Blk.new3 (w : World) (a b : Obj) (cs : Array Value) (t : TypeId) : Blk (((w.alloc a).alloc b).alloc (.cells cs t)) (w.heap.size + 2) cs t := by
  have := Blk.new ((w.alloc a).alloc b) cs t
  simpa only [World.size_alloc] using this
abbrev OT : TypeId := 32
theorem ord_cases (id : Int) (rtr : Bool) (len d0 d1 d2 d3 d4 d5 d6 d7 : Int) :
    ((Fr.chk (⟨id, rtr, len, d0, d1, d2, d3, d4, d5, d6, d7⟩ : Fr) ≠ 0) ∧ Fr.ord (⟨id, rtr, len, d0, d1, d2, d3, d4, d5, d6, d7⟩ : Fr) = false) ∨ (Fr.chk (⟨id, rtr, len, d0, d1, d2, d3, d4, d5, d6, d7⟩ : Fr) = 0 ∧ id ≠ 0 ∧ Fr.ord (⟨id, rtr, len, d0, d1, d2, d3, d4, d5, d6, d7⟩ : Fr) = false) ∨ (Fr.chk (⟨id, rtr, len, d0, d1, d2, d3, d4, d5, d6, d7⟩ : Fr) = 0 ∧ id = 0 ∧ rtr = true ∧ Fr.ord (⟨id, rtr, len, d0, d1, d2, d3, d4, d5, d6, d7⟩ : Fr) = false) ∨
    (Fr.chk (⟨id, rtr, len, d0, d1, d2, d3, d4, d5, d6, d7⟩ : Fr) = 0 ∧ id = 0 ∧ rtr = false ∧ len ≠ 2 ∧ Fr.ord (⟨id, rtr, len, d0, d1, d2, d3, d4, d5, d6, d7⟩ : Fr) = false) ∨ (Fr.chk (⟨id, rtr, len, d0, d1, d2, d3, d4, d5, d6, d7⟩ : Fr) = 0 ∧ id = 0 ∧ rtr = false ∧ len = 2 ∧ Fr.ord (⟨id, rtr, len, d0, d1, d2, d3, d4, d5, d6, d7⟩ : Fr) = mayB d0 d1) := by
  by_cases h0 : Fr.chk (⟨id, rtr, len, d0, d1, d2, d3, d4, d5, d6, d7⟩ : Fr) = 0
  · by_cases h1 : id = 0
    · cases h2 : rtr
      · by_cases h3 : len = 2
        · refine .inr (.inr (.inr (.inr ⟨by rw [← h2]; exact h0, h1, rfl, h3, ?_⟩)))
          subst h2 h1 h3
          simp [Fr.ord, h0]
        · refine .inr (.inr (.inr (.inl ⟨by rw [← h2]; exact h0, h1, rfl, h3, ?_⟩)))
          simp [Fr.ord, h3]
      · refine .inr (.inr (.inl ⟨by rw [← h2]; exact h0, h1, rfl, ?_⟩))
        simp [Fr.ord]
    · exact .inr (.inl ⟨h0, h1, by simp [Fr.ord, h1]⟩)
  · exact .inl ⟨h0, by simp [Fr.ord, h0]⟩

set_option maxHeartbeats 2000000 in
theorem rdecode_c (id : Int) (rtr : Bool) (len d0 d1 d2 d3 d4 d5 d6 d7 : Int) (w : World) (hd : Byt [d0, d1, d2, d3, d4, d5, d6, d7]) :
    Calls Try.prog 19 #[.agg #[.int .i64 id, .bool rtr, .int .i64 len, .int .u8 d0, .int .u8 d1, .int .u8 d2, .int .u8 d3, .int .u8 d4, .int .u8 d5, .int .u8 d6, .int .u8 d7]] w fun e w' => e = .returned (Fr.ordV (⟨id, rtr, len, d0, d1, d2, d3, d4, d5, d6, d7⟩ : Fr)) ∧ Ext w w' := by
  obtain ⟨u0, u1⟩ := hd d0 (by simp)
  obtain ⟨u2, u3⟩ := hd d1 (by simp)
  have hord : ∀ x, Fr.ord (⟨id, rtr, len, d0, d1, d2, d3, d4, d5, d6, d7⟩ : Fr) = x → Fr.ordV (⟨id, rtr, len, d0, d1, d2, d3, d4, d5, d6, d7⟩ : Fr) = .tuple #[.agg #[.int .i64 (if x then d0 else 0), .int .i64 (if x then d1 else 0)], .int .i64 (if x then 0 else 4)] := fun x h => by unfold Fr.ordV; rw [h]
  have hc := ord_cases id rtr len d0 d1 d2 d3 d4 d5 d6 d7
  have CK := hid (fun w => rcheck_c id rtr len d0 d1 d2 d3 d4 d5 d6 d7 w)
  have HB := hid (fun w' (q : Ext (((w.alloc (.cells #[.int .i64 id, .bool rtr, .int .i64 len, .int .u8 d0, .int .u8 d1, .int .u8 d2, .int .u8 d3, .int .u8 d4, .int .u8 d5, .int .u8 d6, .int .u8 d7] FT)).alloc (.cells #[.int .i64 0, .int .i64 0] OT)).alloc (.cells #[.int .i64 d0, .int .i64 d1] OT)) w') =>
    (⟨Ext.blk q (((Blk.new w #[.int .i64 id, .bool rtr, .int .i64 len, .int .u8 d0, .int .u8 d1, .int .u8 d2, .int .u8 d3, .int .u8 d4, .int .u8 d5, .int .u8 d6, .int .u8 d7] FT).alloc _).alloc _), Ext.blk q ((Blk.new2 w _ #[.int .i64 0, .int .i64 0] OT).alloc _), Ext.blk q (Blk.new3 _ _ _ #[.int .i64 d0, .int .i64 d1] OT)⟩ : Blk w' w.heap.size #[.int .i64 id, .bool rtr, .int .i64 len, .int .u8 d0, .int .u8 d1, .int .u8 d2, .int .u8 d3, .int .u8 d4, .int .u8 d5, .int .u8 d6, .int .u8 d7] FT ∧ Blk w' (w.heap.size + 1) #[.int .i64 0, .int .i64 0] OT ∧ Blk w' (w.heap.size + 2) #[.int .i64 d0, .int .i64 d1] OT))
  clear hd
  generalize Fr.chk (⟨id, rtr, len, d0, d1, d2, d3, d4, d5, d6, d7⟩ : Fr) = m at *
  generalize Fr.ord (⟨id, rtr, len, d0, d1, d2, d3, d4, d5, d6, d7⟩ : Fr) = x at *
  rw [hord x rfl]
  clear hord
  rcases hc with ⟨h0, rfl⟩ | ⟨rfl, h1, rfl⟩ | ⟨rfl, rfl, rfl, rfl⟩ | ⟨rfl, rfl, rfl, h3, rfl⟩ | ⟨rfl, rfl, rfl, rfl, rfl⟩
  · have e0 : (m != 0) = true := by simpa using h0
    clear h0
    simp only [Bool.false_eq_true, if_false]
    go_enter Try.func19, Try.ntmps19
    go_wp2_with fail
    (with_reducible refine (CK.out _).mono ?_); rintro e w1 ⟨rfl, k1⟩
    obtain ⟨bb0, bb1, bb2⟩ := HB.out w1 (by repeat (first | with_reducible exact Ext.refl _ | with_reducible assumption | with_reducible apply Ext.alloc | with_reducible apply Ext.drew | with_reducible apply Ext.drewN | (with_reducible refine Ext.set' ?_ (by first | omega | (simp only [World.size_alloc, World.size_setCell]; omega))) | (with_reducible refine Ext.trans ?_ (by with_reducible assumption)) | (with_reducible refine Ext.only ?_ (by with_reducible assumption) (by omega))))
    have KE : Ext w w1 := (by repeat (first | with_reducible exact Ext.refl _ | with_reducible assumption | with_reducible apply Ext.alloc | with_reducible apply Ext.drew | with_reducible apply Ext.drewN | (with_reducible refine Ext.set' ?_ (by first | omega | (simp only [World.size_alloc, World.size_setCell]; omega))) | (with_reducible refine Ext.trans ?_ (by with_reducible assumption)) | (with_reducible refine Ext.only ?_ (by with_reducible assumption) (by omega))))
    obtain ⟨pc0, pc1, pc2, pc3, pc4, pc5, pc6, pc7, pc8, pc9, pc10, pf0, pf1, pf2, pf3, pf4, pf5, pf6, pf7, pf8, pf9, pf10⟩ := Blk.cells11 bb0
    obtain ⟨qc0, qc1, qf0, qf1⟩ := Blk.cells2 bb1
    obtain ⟨rc0, rc1, rf0, rf1⟩ := Blk.cells2 bb2
    have hlt := bb2.lt
    clear HB CK k1
    clear pf0 pf1 pf2 pf3 pf4 pf5 pf6 pf7 pf8 pf9 pf10
    go_wp2_with fail
    exact bodyPost_ret (v := .tuple #[.agg #[.int .i64 0, .int .i64 0], .int .i64 4]) (by simp [results, Try.results19, go_sem, *]) rfl ⟨rfl, (by repeat (first | with_reducible exact Ext.refl _ | with_reducible assumption | with_reducible apply Ext.alloc | with_reducible apply Ext.drew | with_reducible apply Ext.drewN | (with_reducible refine Ext.set' ?_ (by first | omega | (simp only [World.size_alloc, World.size_setCell]; omega))) | (with_reducible refine Ext.trans ?_ (by with_reducible assumption)) | (with_reducible refine Ext.only ?_ (by with_reducible assumption) (by omega))))⟩
  · have e0 : (id != 0) = true := by simpa using h1
    clear h1
    simp only [Bool.false_eq_true, if_false]
    go_enter Try.func19, Try.ntmps19
    go_wp2_with fail
    (with_reducible refine (CK.out _).mono ?_); rintro e w1 ⟨rfl, k1⟩
    obtain ⟨bb0, bb1, bb2⟩ := HB.out w1 (by repeat (first | with_reducible exact Ext.refl _ | with_reducible assumption | with_reducible apply Ext.alloc | with_reducible apply Ext.drew | with_reducible apply Ext.drewN | (with_reducible refine Ext.set' ?_ (by first | omega | (simp only [World.size_alloc, World.size_setCell]; omega))) | (with_reducible refine Ext.trans ?_ (by with_reducible assumption)) | (with_reducible refine Ext.only ?_ (by with_reducible assumption) (by omega))))
    have KE : Ext w w1 := (by repeat (first | with_reducible exact Ext.refl _ | with_reducible assumption | with_reducible apply Ext.alloc | with_reducible apply Ext.drew | with_reducible apply Ext.drewN | (with_reducible refine Ext.set' ?_ (by first | omega | (simp only [World.size_alloc, World.size_setCell]; omega))) | (with_reducible refine Ext.trans ?_ (by with_reducible assumption)) | (with_reducible refine Ext.only ?_ (by with_reducible assumption) (by omega))))
    obtain ⟨pc0, pc1, pc2, pc3, pc4, pc5, pc6, pc7, pc8, pc9, pc10, pf0, pf1, pf2, pf3, pf4, pf5, pf6, pf7, pf8, pf9, pf10⟩ := Blk.cells11 bb0
    obtain ⟨qc0, qc1, qf0, qf1⟩ := Blk.cells2 bb1
    obtain ⟨rc0, rc1, rf0, rf1⟩ := Blk.cells2 bb2
    have hlt := bb2.lt
    clear HB CK k1
    clear pf0 pf1 pf2 pf3 pf4 pf5 pf6 pf7 pf8 pf9 pf10
    go_wp2_with fail
    exact bodyPost_ret (v := .tuple #[.agg #[.int .i64 0, .int .i64 0], .int .i64 4]) (by simp [results, Try.results19, go_sem, *]) rfl ⟨rfl, (by repeat (first | with_reducible exact Ext.refl _ | with_reducible assumption | with_reducible apply Ext.alloc | with_reducible apply Ext.drew | with_reducible apply Ext.drewN | (with_reducible refine Ext.set' ?_ (by first | omega | (simp only [World.size_alloc, World.size_setCell]; omega))) | (with_reducible refine Ext.trans ?_ (by with_reducible assumption)) | (with_reducible refine Ext.only ?_ (by with_reducible assumption) (by omega))))⟩
  · skip
    simp only [Bool.false_eq_true, if_false]
    go_enter Try.func19, Try.ntmps19
    go_wp2_with fail
    (with_reducible refine (CK.out _).mono ?_); rintro e w1 ⟨rfl, k1⟩
    obtain ⟨bb0, bb1, bb2⟩ := HB.out w1 (by repeat (first | with_reducible exact Ext.refl _ | with_reducible assumption | with_reducible apply Ext.alloc | with_reducible apply Ext.drew | with_reducible apply Ext.drewN | (with_reducible refine Ext.set' ?_ (by first | omega | (simp only [World.size_alloc, World.size_setCell]; omega))) | (with_reducible refine Ext.trans ?_ (by with_reducible assumption)) | (with_reducible refine Ext.only ?_ (by with_reducible assumption) (by omega))))
    have KE : Ext w w1 := (by repeat (first | with_reducible exact Ext.refl _ | with_reducible assumption | with_reducible apply Ext.alloc | with_reducible apply Ext.drew | with_reducible apply Ext.drewN | (with_reducible refine Ext.set' ?_ (by first | omega | (simp only [World.size_alloc, World.size_setCell]; omega))) | (with_reducible refine Ext.trans ?_ (by with_reducible assumption)) | (with_reducible refine Ext.only ?_ (by with_reducible assumption) (by omega))))
    obtain ⟨pc0, pc1, pc2, pc3, pc4, pc5, pc6, pc7, pc8, pc9, pc10, pf0, pf1, pf2, pf3, pf4, pf5, pf6, pf7, pf8, pf9, pf10⟩ := Blk.cells11 bb0
    obtain ⟨qc0, qc1, qf0, qf1⟩ := Blk.cells2 bb1
    obtain ⟨rc0, rc1, rf0, rf1⟩ := Blk.cells2 bb2
    have hlt := bb2.lt
    clear HB CK k1
    clear pf0 pf1 pf2 pf3 pf4 pf5 pf6 pf7 pf8 pf9 pf10
    go_wp2_with fail
    exact bodyPost_ret (v := .tuple #[.agg #[.int .i64 0, .int .i64 0], .int .i64 4]) (by simp [results, Try.results19, go_sem, *]) rfl ⟨rfl, (by repeat (first | with_reducible exact Ext.refl _ | with_reducible assumption | with_reducible apply Ext.alloc | with_reducible apply Ext.drew | with_reducible apply Ext.drewN | (with_reducible refine Ext.set' ?_ (by first | omega | (simp only [World.size_alloc, World.size_setCell]; omega))) | (with_reducible refine Ext.trans ?_ (by with_reducible assumption)) | (with_reducible refine Ext.only ?_ (by with_reducible assumption) (by omega))))⟩
  · have e0 : (len != 2) = true := by simpa using h3
    clear h3
    simp only [Bool.false_eq_true, if_false]
    go_enter Try.func19, Try.ntmps19
    go_wp2_with fail
    (with_reducible refine (CK.out _).mono ?_); rintro e w1 ⟨rfl, k1⟩
    obtain ⟨bb0, bb1, bb2⟩ := HB.out w1 (by repeat (first | with_reducible exact Ext.refl _ | with_reducible assumption | with_reducible apply Ext.alloc | with_reducible apply Ext.drew | with_reducible apply Ext.drewN | (with_reducible refine Ext.set' ?_ (by first | omega | (simp only [World.size_alloc, World.size_setCell]; omega))) | (with_reducible refine Ext.trans ?_ (by with_reducible assumption)) | (with_reducible refine Ext.only ?_ (by with_reducible assumption) (by omega))))
    have KE : Ext w w1 := (by repeat (first | with_reducible exact Ext.refl _ | with_reducible assumption | with_reducible apply Ext.alloc | with_reducible apply Ext.drew | with_reducible apply Ext.drewN | (with_reducible refine Ext.set' ?_ (by first | omega | (simp only [World.size_alloc, World.size_setCell]; omega))) | (with_reducible refine Ext.trans ?_ (by with_reducible assumption)) | (with_reducible refine Ext.only ?_ (by with_reducible assumption) (by omega))))
    obtain ⟨pc0, pc1, pc2, pc3, pc4, pc5, pc6, pc7, pc8, pc9, pc10, pf0, pf1, pf2, pf3, pf4, pf5, pf6, pf7, pf8, pf9, pf10⟩ := Blk.cells11 bb0
    obtain ⟨qc0, qc1, qf0, qf1⟩ := Blk.cells2 bb1
    obtain ⟨rc0, rc1, rf0, rf1⟩ := Blk.cells2 bb2
    have hlt := bb2.lt
    clear HB CK k1
    clear pf0 pf1 pf2 pf3 pf4 pf5 pf6 pf7 pf8 pf9 pf10
    go_wp2_with fail
    exact bodyPost_ret (v := .tuple #[.agg #[.int .i64 0, .int .i64 0], .int .i64 4]) (by simp [results, Try.results19, go_sem, *]) rfl ⟨rfl, (by repeat (first | with_reducible exact Ext.refl _ | with_reducible assumption | with_reducible apply Ext.alloc | with_reducible apply Ext.drew | with_reducible apply Ext.drewN | (with_reducible refine Ext.set' ?_ (by first | omega | (simp only [World.size_alloc, World.size_setCell]; omega))) | (with_reducible refine Ext.trans ?_ (by with_reducible assumption)) | (with_reducible refine Ext.only ?_ (by with_reducible assumption) (by omega))))⟩
  · have RM := hid (fun w => rmay_c d0 d1 w)
    generalize mayB d0 d1 = x at *
    cases x <;> simp only [Bool.false_eq_true, if_false, if_true]
    all_goals
      go_enter Try.func19, Try.ntmps19
      go_wp2_with fail
      (with_reducible refine (CK.out _).mono ?_); rintro e w1 ⟨rfl, k1⟩
      obtain ⟨bb0, bb1, bb2⟩ := HB.out w1 (by repeat (first | with_reducible exact Ext.refl _ | with_reducible assumption | with_reducible apply Ext.alloc | with_reducible apply Ext.drew | with_reducible apply Ext.drewN | (with_reducible refine Ext.set' ?_ (by first | omega | (simp only [World.size_alloc, World.size_setCell]; omega))) | (with_reducible refine Ext.trans ?_ (by with_reducible assumption)) | (with_reducible refine Ext.only ?_ (by with_reducible assumption) (by omega))))
      have KE : Ext w w1 := (by repeat (first | with_reducible exact Ext.refl _ | with_reducible assumption | with_reducible apply Ext.alloc | with_reducible apply Ext.drew | with_reducible apply Ext.drewN | (with_reducible refine Ext.set' ?_ (by first | omega | (simp only [World.size_alloc, World.size_setCell]; omega))) | (with_reducible refine Ext.trans ?_ (by with_reducible assumption)) | (with_reducible refine Ext.only ?_ (by with_reducible assumption) (by omega))))
      obtain ⟨pc0, pc1, pc2, pc3, pc4, pc5, pc6, pc7, pc8, pc9, pc10, pf0, pf1, pf2, pf3, pf4, pf5, pf6, pf7, pf8, pf9, pf10⟩ := Blk.cells11 bb0
      obtain ⟨rc0, rc1, rf0, rf1⟩ := Blk.cells2 bb2
      clear HB CK k1 bb0
      clear pf0 pf1 pf2 pf3 pf4 pf5 pf6 pf7 pf8 pf9 pf10
      go_wp2_with fail
      (with_reducible refine (RM.out _).mono ?_); rintro e w2 ⟨rfl, k2⟩
      have bc1 := k2.blk bb1
      have bc2 := k2.blk bb2
      have hlt := bc2.lt
      have KF : Ext w w2 := (by repeat (first | with_reducible exact Ext.refl _ | with_reducible assumption | with_reducible apply Ext.alloc | with_reducible apply Ext.drew | with_reducible apply Ext.drewN | (with_reducible refine Ext.set' ?_ (by first | omega | (simp only [World.size_alloc, World.size_setCell]; omega))) | (with_reducible refine Ext.trans ?_ (by with_reducible assumption)) | (with_reducible refine Ext.only ?_ (by with_reducible assumption) (by omega))))
      clear rc0 rc1 rf0 rf1 pc0 pc1 pc2 pc3 pc4 pc5 pc6 pc7 pc8 pc9 pc10 bb1 bb2 RM k2 KE
      obtain ⟨qc0, qc1, qf0, qf1⟩ := Blk.cells2 bc1
      obtain ⟨rc0, rc1, rf0, rf1⟩ := Blk.cells2 bc2
      go_wp2_with fail
    · exact bodyPost_ret (v := .tuple #[.agg #[.int .i64 0, .int .i64 0], .int .i64 4]) (by simp [results, Try.results19, go_sem, *]) rfl ⟨rfl, (by repeat (first | with_reducible exact Ext.refl _ | with_reducible assumption | with_reducible apply Ext.alloc | with_reducible apply Ext.drew | with_reducible apply Ext.drewN | (with_reducible refine Ext.set' ?_ (by first | omega | (simp only [World.size_alloc, World.size_setCell]; omega))) | (with_reducible refine Ext.trans ?_ (by with_reducible assumption)) | (with_reducible refine Ext.only ?_ (by with_reducible assumption) (by omega))))⟩
    · exact bodyPost_ret (v := .tuple #[.agg #[.int .i64 d0, .int .i64 d1], .int .i64 0]) (by simp [results, Try.results19, go_sem, *]) rfl ⟨rfl, (by repeat (first | with_reducible exact Ext.refl _ | with_reducible assumption | with_reducible apply Ext.alloc | with_reducible apply Ext.drew | with_reducible apply Ext.drewN | (with_reducible refine Ext.set' ?_ (by first | omega | (simp only [World.size_alloc, World.size_setCell]; omega))) | (with_reducible refine Ext.trans ?_ (by with_reducible assumption)) | (with_reducible refine Ext.only ?_ (by with_reducible assumption) (by omega))))⟩

theorem bytes_two (id : Int) (rtr : Bool) (len d0 d1 d2 d3 d4 d5 d6 d7 : Int) : ((Fr.bytes (⟨id, rtr, len, d0, d1, d2, d3, d4, d5, d6, d7⟩ : Fr)).length = 2 ∧ Fr.bytes (⟨id, rtr, len, d0, d1, d2, d3, d4, d5, d6, d7⟩ : Fr) = [d0, d1] ∧ (id = 0 → Fr.ord (⟨id, rtr, len, d0, d1, d2, d3, d4, d5, d6, d7⟩ : Fr) = mayB d0 d1)) ∨ ((Fr.bytes (⟨id, rtr, len, d0, d1, d2, d3, d4, d5, d6, d7⟩ : Fr)).length ≠ 2 ∧ Fr.ord (⟨id, rtr, len, d0, d1, d2, d3, d4, d5, d6, d7⟩ : Fr) = false) := by
  unfold Fr.bytes Fr.has Fr.ord
  by_cases h0 : Fr.chk (⟨id, rtr, len, d0, d1, d2, d3, d4, d5, d6, d7⟩ : Fr) = 0
  · have hlen : 0 ≤ len ∧ len ≤ 8 := by
      have h1 := h0
      unfold Fr.chk at h1
      simp only at h1
      split at h1
      · omega
      · split at h1
        · omega
        · omega
    obtain ⟨k, rfl⟩ := Int.eq_ofNat_of_zero_le hlen.1
    have hk : k ≤ 8 := by omega
    cases rtr
    · by_cases h2 : k = 2
      · subst h2
        have h0' : Fr.chk ⟨id, false, 2, d0, d1, d2, d3, d4, d5, d6, d7⟩ = 0 := h0
        exact .inl ⟨by simp [h0', Fr.data], by simp [h0', Fr.data], fun h => by subst h; simp [h0']⟩
      · refine .inr ⟨?_, ?_⟩
        · simp [h0, Fr.data]; omega
        · have : ((k : Int) == 2) = false := by simp; omega
          simp [this]
    · exact .inr ⟨by simp, by simp⟩
  · exact .inr ⟨by simp [h0], by simp [h0]⟩

set_option maxHeartbeats 2000000 in
theorem decode_c (id : Int) (rtr : Bool) (len d0 d1 d2 d3 d4 d5 d6 d7 : Int) (w : World) (hd : Byt [d0, d1, d2, d3, d4, d5, d6, d7]) :
    Calls Try.prog 17 #[.agg #[.int .i64 id, .bool rtr, .int .i64 len, .int .u8 d0, .int .u8 d1, .int .u8 d2, .int .u8 d3, .int .u8 d4, .int .u8 d5, .int .u8 d6, .int .u8 d7]] w fun e w' => e = .returned (Fr.ordV (⟨id, rtr, len, d0, d1, d2, d3, d4, d5, d6, d7⟩ : Fr)) ∧ Ext w w' := by
  obtain ⟨u0, u1⟩ := hd d0 (by simp)
  obtain ⟨u2, u3⟩ := hd d1 (by simp)
  have hord : ∀ x, Fr.ord (⟨id, rtr, len, d0, d1, d2, d3, d4, d5, d6, d7⟩ : Fr) = x → Fr.ordV (⟨id, rtr, len, d0, d1, d2, d3, d4, d5, d6, d7⟩ : Fr) = .tuple #[.agg #[.int .i64 (if x then d0 else 0), .int .i64 (if x then d1 else 0)], .int .i64 (if x then 0 else 4)] := fun x h => by unfold Fr.ordV; rw [h]
  have hc := bytes_two id rtr len d0 d1 d2 d3 d4 d5 d6 d7
  have hz : id = 0 ∨ Fr.ord (⟨id, rtr, len, d0, d1, d2, d3, d4, d5, d6, d7⟩ : Fr) = false := by
    by_cases h : id = 0
    · exact .inl h
    · exact .inr (by simp [Fr.ord, h])
  have CK := hid (fun w => bytes_c id rtr len d0 d1 d2 d3 d4 d5 d6 d7 w hd)
  have HL := hid (bytes_byt (f := (⟨id, rtr, len, d0, d1, d2, d3, d4, d5, d6, d7⟩ : Fr)) hd)
  have HB := hid (fun w' (q : Ext ((w.alloc (.cells #[.int .i64 id, .bool rtr, .int .i64 len, .int .u8 d0, .int .u8 d1, .int .u8 d2, .int .u8 d3, .int .u8 d4, .int .u8 d5, .int .u8 d6, .int .u8 d7] FT)).alloc (.cells #[.int .i64 0, .int .i64 0] OT)) w') =>
    (⟨Ext.blk q ((Blk.new w #[.int .i64 id, .bool rtr, .int .i64 len, .int .u8 d0, .int .u8 d1, .int .u8 d2, .int .u8 d3, .int .u8 d4, .int .u8 d5, .int .u8 d6, .int .u8 d7] FT).alloc _), Ext.blk q (Blk.new2 w _ #[.int .i64 0, .int .i64 0] OT)⟩ : Blk w' w.heap.size #[.int .i64 id, .bool rtr, .int .i64 len, .int .u8 d0, .int .u8 d1, .int .u8 d2, .int .u8 d3, .int .u8 d4, .int .u8 d5, .int .u8 d6, .int .u8 d7] FT ∧ Blk w' (w.heap.size + 1) #[.int .i64 0, .int .i64 0] OT))
  clear hd
  generalize Fr.bytes (⟨id, rtr, len, d0, d1, d2, d3, d4, d5, d6, d7⟩ : Fr) = L at *
  generalize Fr.ord (⟨id, rtr, len, d0, d1, d2, d3, d4, d5, d6, d7⟩ : Fr) = x at *
  rw [hord x rfl]
  clear hord
  by_cases h1 : id = 0
  · subst h1
    rcases hc with ⟨hn, hL, hx⟩ | ⟨hn, rfl⟩
    · obtain rfl := hx rfl
      clear hn hx
      subst hL
      have RM := hid (fun w => may_c d0 d1 w)
      generalize mayB d0 d1 = x at *
      cases x <;> simp only [Bool.false_eq_true, if_false, if_true]
      all_goals
        go_enter Try.func17, Try.ntmps17
        go_wp2_with fail
        (with_reducible refine (CK.out _).mono ?_); rintro e w1 ⟨v, rfl, o1, k1⟩
        obtain ⟨A, bl, o, c, rfl, hlc, hrow, hb⟩ := Bs.own o1 HL.out
        obtain ⟨bb0, bb1⟩ := HB.out w1 (by repeat (first | with_reducible exact Ext.refl _ | with_reducible assumption | with_reducible apply Ext.alloc | with_reducible apply Ext.drew | with_reducible apply Ext.drewN | (with_reducible refine Ext.set' ?_ (by first | omega | (simp only [World.size_alloc, World.size_setCell]; omega))) | (with_reducible refine Ext.trans ?_ (by with_reducible assumption)) | (with_reducible refine Ext.only ?_ (by with_reducible assumption) (by omega))))
        have KE : Ext w w1 := (by repeat (first | with_reducible exact Ext.refl _ | with_reducible assumption | with_reducible apply Ext.alloc | with_reducible apply Ext.drew | with_reducible apply Ext.drewN | (with_reducible refine Ext.set' ?_ (by first | omega | (simp only [World.size_alloc, World.size_setCell]; omega))) | (with_reducible refine Ext.trans ?_ (by with_reducible assumption)) | (with_reducible refine Ext.only ?_ (by with_reducible assumption) (by omega))))
        obtain ⟨pc0, pc1, pc2, pc3, pc4, pc5, pc6, pc7, pc8, pc9, pc10, pf0, pf1, pf2, pf3, pf4, pf5, pf6, pf7, pf8, pf9, pf10⟩ := Blk.cells11 bb0
        clear pf0 pf1 pf2 pf3 pf4 pf5 pf6 pf7 pf8 pf9 pf10
        clear HB CK k1 bb0
        obtain ⟨rfl, hbl⟩ := hrow.2.1 (by simp)
        have c0 : w1.cell? ⟨bl, o, none⟩ = some (.int .u8 d0) := hrow.2.2 0 (by simp)
        have c1 : w1.cell? ⟨bl, o + 1, none⟩ = some (.int .u8 d1) := hrow.2.2 1 (by simp)
        have hbl' : bl < w1.heap.size := hbl
        simp only [List.length_cons, List.length_nil] at hlc o1 ⊢
        clear hrow hb HL o1
        go_wp2_with fail
        go_region
        have HO := hid (fun w' (q : Ext (w1.alloc (.cells #[.int .i64 d0, .int .i64 d1] OT)).drew w') => (⟨Ext.blk q (Blk.new w1 #[.int .i64 d0, .int .i64 d1] OT).drew, Ext.blk q (bb1.alloc (.cells #[.int .i64 d0, .int .i64 d1] OT)).drew⟩ : Blk w' w1.heap.size #[.int .i64 d0, .int .i64 d1] OT ∧ Blk w' (w.heap.size + 1) #[.int .i64 0, .int .i64 0] OT))
        clear pc0 pc1 pc2 pc3 pc4 pc5 pc6 pc7 pc8 pc9 pc10 c0 c1 hlc
        go_wp2_with fail
        (with_reducible refine (RM.out _).mono ?_); rintro e w2 ⟨rfl, k2⟩
        obtain ⟨bc2, bc1⟩ := HO.out w2 (by repeat (first | with_reducible exact Ext.refl _ | with_reducible assumption | with_reducible apply Ext.alloc | with_reducible apply Ext.drew | with_reducible apply Ext.drewN | (with_reducible refine Ext.set' ?_ (by first | omega | (simp only [World.size_alloc, World.size_setCell]; omega))) | (with_reducible refine Ext.trans ?_ (by with_reducible assumption)) | (with_reducible refine Ext.only ?_ (by with_reducible assumption) (by omega))))
        have KF : Ext w w2 := (by repeat (first | with_reducible exact Ext.refl _ | with_reducible assumption | with_reducible apply Ext.alloc | with_reducible apply Ext.drew | with_reducible apply Ext.drewN | (with_reducible refine Ext.set' ?_ (by first | omega | (simp only [World.size_alloc, World.size_setCell]; omega))) | (with_reducible refine Ext.trans ?_ (by with_reducible assumption)) | (with_reducible refine Ext.only ?_ (by with_reducible assumption) (by omega))))
        have hl1 := bc1.lt
        have hl2 := bc2.lt
        clear RM k2 KE HO bb1
        obtain ⟨qc0, qc1, qf0, qf1⟩ := Blk.cells2 bc1
        obtain ⟨rc0, rc1, rf0, rf1⟩ := Blk.cells2 bc2
        go_wp2_with fail
      · exact bodyPost_ret (v := .tuple #[.agg #[.int .i64 0, .int .i64 0], .int .i64 4]) (by simp [results, Try.results17, go_sem, *]) rfl ⟨rfl, (by repeat (first | with_reducible exact Ext.refl _ | with_reducible assumption | with_reducible apply Ext.alloc | with_reducible apply Ext.drew | with_reducible apply Ext.drewN | (with_reducible refine Ext.set' ?_ (by first | omega | (simp only [World.size_alloc, World.size_setCell]; omega))) | (with_reducible refine Ext.trans ?_ (by with_reducible assumption)) | (with_reducible refine Ext.only ?_ (by with_reducible assumption) (by omega))))⟩
      · exact bodyPost_ret (v := .tuple #[.agg #[.int .i64 d0, .int .i64 d1], .int .i64 0]) (by simp [results, Try.results17, go_sem, *]) rfl ⟨rfl, (by repeat (first | with_reducible exact Ext.refl _ | with_reducible assumption | with_reducible apply Ext.alloc | with_reducible apply Ext.drew | with_reducible apply Ext.drewN | (with_reducible refine Ext.set' ?_ (by first | omega | (simp only [World.size_alloc, World.size_setCell]; omega))) | (with_reducible refine Ext.trans ?_ (by with_reducible assumption)) | (with_reducible refine Ext.only ?_ (by with_reducible assumption) (by omega))))⟩
    · simp only [Bool.false_eq_true, if_false]
      have e0 : ((L.length : Int) != 2) = true := by simp; omega
      go_enter Try.func17, Try.ntmps17
      go_wp2_with fail
      (with_reducible refine (CK.out _).mono ?_); rintro e w1 ⟨v, rfl, o1, k1⟩
      obtain ⟨A, bl, o, c, rfl, hlc, hrow, hb⟩ := Bs.own o1 HL.out
      obtain ⟨bb0, bb1⟩ := HB.out w1 (by repeat (first | with_reducible exact Ext.refl _ | with_reducible assumption | with_reducible apply Ext.alloc | with_reducible apply Ext.drew | with_reducible apply Ext.drewN | (with_reducible refine Ext.set' ?_ (by first | omega | (simp only [World.size_alloc, World.size_setCell]; omega))) | (with_reducible refine Ext.trans ?_ (by with_reducible assumption)) | (with_reducible refine Ext.only ?_ (by with_reducible assumption) (by omega))))
      have hl0 := hrow.1
      have hl1 := bb1.lt
      have KE : Ext w w1 := (by repeat (first | with_reducible exact Ext.refl _ | with_reducible assumption | with_reducible apply Ext.alloc | with_reducible apply Ext.drew | with_reducible apply Ext.drewN | (with_reducible refine Ext.set' ?_ (by first | omega | (simp only [World.size_alloc, World.size_setCell]; omega))) | (with_reducible refine Ext.trans ?_ (by with_reducible assumption)) | (with_reducible refine Ext.only ?_ (by with_reducible assumption) (by omega))))
      obtain ⟨pc0, pc1, pc2, pc3, pc4, pc5, pc6, pc7, pc8, pc9, pc10, pf0, pf1, pf2, pf3, pf4, pf5, pf6, pf7, pf8, pf9, pf10⟩ := Blk.cells11 bb0
      obtain ⟨qc0, qc1, qf0, qf1⟩ := Blk.cells2 bb1
      clear pf0 pf1 pf2 pf3 pf4 pf5 pf6 pf7 pf8 pf9 pf10
      clear HB CK k1 bb0 hrow hb o1
      go_wp2_with fail
      exact bodyPost_ret (v := .tuple #[.agg #[.int .i64 0, .int .i64 0], .int .i64 4]) (by simp [results, Try.results17, go_sem, *]) rfl ⟨rfl, (by repeat (first | with_reducible exact Ext.refl _ | with_reducible assumption | with_reducible apply Ext.alloc | with_reducible apply Ext.drew | with_reducible apply Ext.drewN | (with_reducible refine Ext.set' ?_ (by first | omega | (simp only [World.size_alloc, World.size_setCell]; omega))) | (with_reducible refine Ext.trans ?_ (by with_reducible assumption)) | (with_reducible refine Ext.only ?_ (by with_reducible assumption) (by omega))))⟩
  · have e0 : (id != 0) = true := by simpa using h1
    have hx : x = false := by
      rcases hz with h | h
      · exact absurd h h1
      · exact h
    subst hx
    clear hc h1 hz
    simp only [Bool.false_eq_true, if_false]
    go_enter Try.func17, Try.ntmps17
    go_wp2_with fail
    (with_reducible refine (CK.out _).mono ?_); rintro e w1 ⟨v, rfl, o1, k1⟩
    obtain ⟨A, bl, o, c, rfl, hlc, hrow, hb⟩ := Bs.own o1 HL.out
    obtain ⟨bb0, bb1⟩ := HB.out w1 (by repeat (first | with_reducible exact Ext.refl _ | with_reducible assumption | with_reducible apply Ext.alloc | with_reducible apply Ext.drew | with_reducible apply Ext.drewN | (with_reducible refine Ext.set' ?_ (by first | omega | (simp only [World.size_alloc, World.size_setCell]; omega))) | (with_reducible refine Ext.trans ?_ (by with_reducible assumption)) | (with_reducible refine Ext.only ?_ (by with_reducible assumption) (by omega))))
    have hl0 := hrow.1
    have hl1 := bb1.lt
    have KE : Ext w w1 := (by repeat (first | with_reducible exact Ext.refl _ | with_reducible assumption | with_reducible apply Ext.alloc | with_reducible apply Ext.drew | with_reducible apply Ext.drewN | (with_reducible refine Ext.set' ?_ (by first | omega | (simp only [World.size_alloc, World.size_setCell]; omega))) | (with_reducible refine Ext.trans ?_ (by with_reducible assumption)) | (with_reducible refine Ext.only ?_ (by with_reducible assumption) (by omega))))
    obtain ⟨pc0, pc1, pc2, pc3, pc4, pc5, pc6, pc7, pc8, pc9, pc10, pf0, pf1, pf2, pf3, pf4, pf5, pf6, pf7, pf8, pf9, pf10⟩ := Blk.cells11 bb0
    obtain ⟨qc0, qc1, qf0, qf1⟩ := Blk.cells2 bb1
    clear pf0 pf1 pf2 pf3 pf4 pf5 pf6 pf7 pf8 pf9 pf10
    clear HB CK k1 bb0 hrow hb o1
    go_wp2_with fail
    exact bodyPost_ret (v := .tuple #[.agg #[.int .i64 0, .int .i64 0], .int .i64 4]) (by simp [results, Try.results17, go_sem, *]) rfl ⟨rfl, (by repeat (first | with_reducible exact Ext.refl _ | with_reducible assumption | with_reducible apply Ext.alloc | with_reducible apply Ext.drew | with_reducible apply Ext.drewN | (with_reducible refine Ext.set' ?_ (by first | omega | (simp only [World.size_alloc, World.size_setCell]; omega))) | (with_reducible refine Ext.trans ?_ (by with_reducible assumption)) | (with_reducible refine Ext.only ?_ (by with_reducible assumption) (by omega))))⟩

end Go.Proofs.Yteflckedfnflpaa
