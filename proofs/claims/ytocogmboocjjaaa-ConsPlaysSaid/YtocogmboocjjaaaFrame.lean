/- Package frame: what Check, checked, New, data and Bytes compute. -/
import Derived.Test.YtocogmboocjjaaaEq
import Derived.Lib.SliceRun
set_option linter.unusedSimpArgs false
set_option linter.unusedVariables false
set_option maxRecDepth 100000
set_option linter.unnecessarySimpa false
namespace Go.Proofs.Ytocogmboocjjaaa
open Go.RowKit Go.Proofs.YtocogmboocjjaaaW.PrintWords
attribute [local go_sem] max2_max min2_min max_of_two min_of_two

abbrev FT : TypeId := 43

structure Fr where
  id : Int
  rtr : Bool
  len : Int
  d0 : Int
  d1 : Int
  d2 : Int
  d3 : Int
  d4 : Int
  d5 : Int
  d6 : Int
  d7 : Int
deriving DecidableEq

def Fr.data (f : Fr) : List Int := [f.d0, f.d1, f.d2, f.d3, f.d4, f.d5, f.d6, f.d7]
def Fr.cells (f : Fr) : Array Value := #[.int .i64 f.id, .bool f.rtr, .int .i64 f.len, .int .u8 f.d0, .int .u8 f.d1, .int .u8 f.d2, .int .u8 f.d3, .int .u8 f.d4, .int .u8 f.d5, .int .u8 f.d6, .int .u8 f.d7]
def Fr.val (f : Fr) : Value := .agg f.cells

def frEq (a b : Fr) : Bool := decide (a = b)
theorem frEq_refl (a : Fr) : frEq a a = true := by simp [frEq]

abbrev DT : TypeId := 41
theorem run_eq_data (a0 a1 a2 a3 a4 a5 a6 a7 b0 b1 b2 b3 b4 b5 b6 b7 : Int) (w : World) :
    (Op.equalIn 9999 DT (.agg #[.int .u8 a0, .int .u8 a1, .int .u8 a2, .int .u8 a3, .int .u8 a4, .int .u8 a5, .int .u8 a6, .int .u8 a7]) (.agg #[.int .u8 b0, .int .u8 b1, .int .u8 b2, .int .u8 b3, .int .u8 b4, .int .u8 b5, .int .u8 b6, .int .u8 b7])).run Try.prog w =
      .ok (a0 == b0 && (a1 == b1 && (a2 == b2 && (a3 == b3 && (a4 == b4 && (a5 == b5 && (a6 == b6 && (a7 == b7 && true)))))))) w := by
  obtain ⟨i, hi, _⟩ := info_parts infoU8
  rw [run_equalIn_array w 9998 _ _ Try.underlying41 hi, (by kernel_rfl : Try.prog.cellsOf 5 = 1), (by decide : List.range 8 = [0, 1, 2, 3, 4, 5, 6, 7])]
  exact eqI_cons (by kernel_rfl) (by kernel_rfl) (run_equalIn_int w _ _ .u8 _ _ _ Try.underlying5) (eqI_cons (by kernel_rfl) (by kernel_rfl) (run_equalIn_int w _ _ .u8 _ _ _ Try.underlying5) (eqI_cons (by kernel_rfl) (by kernel_rfl) (run_equalIn_int w _ _ .u8 _ _ _ Try.underlying5) (eqI_cons (by kernel_rfl) (by kernel_rfl) (run_equalIn_int w _ _ .u8 _ _ _ Try.underlying5)
    (eqI_cons (by kernel_rfl) (by kernel_rfl) (run_equalIn_int w _ _ .u8 _ _ _ Try.underlying5) (eqI_cons (by kernel_rfl) (by kernel_rfl) (run_equalIn_int w _ _ .u8 _ _ _ Try.underlying5) (eqI_cons (by kernel_rfl) (by kernel_rfl) (run_equalIn_int w _ _ .u8 _ _ _ Try.underlying5) (eqI_cons (by kernel_rfl) (by kernel_rfl) (run_equalIn_int w _ _ .u8 _ _ _ Try.underlying5) eqI_nil)))))))
theorem run_eq_fr (a0 : Int) (a1 : Bool) (a2 a3 a4 a5 a6 a7 a8 a9 a10 : Int) (b0 : Int) (b1 : Bool) (b2 b3 b4 b5 b6 b7 b8 b9 b10 : Int) (w : World) :
    (Op.equalIn 10000 FT (.agg #[.int .i64 a0, .bool a1, .int .i64 a2, .int .u8 a3, .int .u8 a4, .int .u8 a5, .int .u8 a6, .int .u8 a7, .int .u8 a8, .int .u8 a9, .int .u8 a10]) (.agg #[.int .i64 b0, .bool b1, .int .i64 b2, .int .u8 b3, .int .u8 b4, .int .u8 b5, .int .u8 b6, .int .u8 b7, .int .u8 b8, .int .u8 b9, .int .u8 b10])).run Try.prog w =
      .ok (frEq ⟨a0, a1, a2, a3, a4, a5, a6, a7, a8, a9, a10⟩ ⟨b0, b1, b2, b3, b4, b5, b6, b7, b8, b9, b10⟩) w := by
  have e : frEq ⟨a0, a1, a2, a3, a4, a5, a6, a7, a8, a9, a10⟩ ⟨b0, b1, b2, b3, b4, b5, b6, b7, b8, b9, b10⟩ = (a0 == b0 && (a1 == b1 && (a2 == b2 && ((a3 == b3 && (a4 == b4 && (a5 == b5 && (a6 == b6 && (a7 == b7 && (a8 == b8 && (a9 == b9 && (a10 == b10 && true)))))))) && true)))) := by
    rw [Bool.eq_iff_iff]; simp [frEq]
  rw [e]
  exact eqS Try.underlying43 (by kernel_rfl) (eqF_cons (by kernel_rfl) (by kernel_rfl) (by kernel_rfl) (run_equalIn_int w _ _ .i64 _ _ _ Try.underlying3) (eqF_cons (by kernel_rfl) (by kernel_rfl) (by kernel_rfl) (run_equalIn_bool' w _ _ _ _ Try.underlying4)
    (eqF_cons (by kernel_rfl) (by kernel_rfl) (by kernel_rfl) (run_equalIn_int w _ _ .i64 _ _ _ Try.underlying3) (eqF_cons (by kernel_rfl) (by kernel_rfl) (by kernel_rfl) (run_eq_data a3 a4 a5 a6 a7 a8 a9 a10 b3 b4 b5 b6 b7 b8 b9 b10 w) eqF_nil))))
abbrev SB : TypeId := 38
theorem zeroU8 (w : World) : (zeroValue U8).run Try.prog w = .ok (.int .u8 0) w := by kernel_rfl
theorem run_clear0 (w : World) (t e ty : TypeId) (a : Option Addr) (c : Nat) (ht : Try.prog.underlying t = some (.slice e)) : (Builtin.clear_ #[t] ty #[.slice a 0 c]).run Try.prog w = .ok (.tuple #[]) w := by
  cases a <;> simp [Builtin.clear_, run_underlying ht]

def setAll (cs : Array Value) : Nat → List Value → Array Value
  | _, [] => cs
  | o, v :: vs => setAll (cs.setIfInBounds o v) (o + 1) vs
theorem setCells_cons (w : World) (b o : Nat) (v : Value) (vs : List Value) : w.setCells b o (v :: vs) = (w.setCell ⟨b, o, none⟩ v).setCells b (o + 1) vs := rfl
theorem Blk.setCells {b : Nat} {t : TypeId} : ∀ (vs : List Value) (o : Nat) (w : World) (cs : Array Value), Blk w b cs t → Blk (w.setCells b o vs) b (setAll cs o vs) t
  | [], o, w, cs, h => h
  | v :: vs, o, w, cs, h => by rw [setCells_cons]; exact Blk.setCells vs (o + 1) _ _ (h.set o v)
theorem Blk.setCells_other {g b : Nat} {t : TypeId} {cs : Array Value} (hg : g ≠ b) : ∀ (vs : List Value) (o : Nat) (w : World), Blk w g cs t → Blk (w.setCells b o vs) g cs t
  | [], o, w, h => h
  | v :: vs, o, w, h => by rw [setCells_cons]; exact Blk.setCells_other hg vs (o + 1) _ (h.other ⟨b, o, none⟩ v hg)
theorem Ext.setCells {a : World} {b : Nat} (hb : a.heap.size ≤ b) : ∀ (vs : List Value) (o : Nat) (w : World), Ext a w → Ext a (w.setCells b o vs)
  | [], o, w, h => h
  | v :: vs, o, w, h => by rw [setCells_cons]; exact Ext.setCells hb vs (o + 1) _ (h.set' hb)

/-- 'clear(plain.Data[k:])' of a frame in the second of two new blocks. -/
theorem clear_tail (w : World) (cs0 cs : Array Value) (k ty : Nat) (hk : k < 8) (hcs : cs.size = 11) :
    ∃ w2, (Builtin.clear_ #[SB] ty #[.slice (some ⟨w.heap.size + 1, 3 + k, none⟩) (8 - k) (8 - k)]).run Try.prog ((w.alloc (.cells cs0 FT)).alloc (.cells cs FT)) = .ok (.tuple #[]) w2 ∧
      Blk w2 w.heap.size cs0 FT ∧ Blk w2 (w.heap.size + 1) (setAll cs (3 + k) (List.replicate (8 - k) (.int .u8 0))) FT ∧ Ext w w2 := by
  have hb := Blk.new2 w (.cells cs0 FT) cs FT
  have h0 := (Blk.new w cs0 FT).alloc (.cells cs FT)
  refine ⟨_, Lib.run_clear_slice _ SB U8 ty (.int .u8 0) Try.underlying38 zeroU8 rfl rfl (w.heap.size + 1) (3 + k) (8 - k) (8 - k) (by omega) (fun j hj => ?_) (fun j hj => hb.free _), ?_, ?_, ?_⟩
  · rw [hb.cell (3 + k + j) cs[3 + k + j] (Array.getElem?_eq_getElem (by omega))]
    rfl
  · exact Blk.setCells_other (by omega) _ _ _ h0
  · exact Blk.setCells _ _ _ _ hb
  · exact Ext.setCells (by omega) _ _ _ (by repeat (first | with_reducible exact Ext.refl _ | with_reducible assumption | with_reducible apply Ext.alloc | with_reducible apply Ext.drew | with_reducible apply Ext.drewN | (with_reducible refine Ext.set' ?_ (by first | omega | (simp only [World.size_alloc, World.size_setCell]; omega))) | (with_reducible refine Ext.trans ?_ (by with_reducible assumption)) | (with_reducible refine Ext.only ?_ (by with_reducible assumption) (by omega))))

attribute [local go_sem ↓] run_eq_fr

/-- A frame whose bytes behind its own are struck. -/
def Fr.plain (f : Fr) : Fr :=
  if f.rtr = true then ⟨f.id, f.rtr, f.len, 0, 0, 0, 0, 0, 0, 0, 0⟩
  else ⟨f.id, f.rtr, f.len, if f.len ≤ 0 then 0 else f.d0, if f.len ≤ 1 then 0 else f.d1, if f.len ≤ 2 then 0 else f.d2, if f.len ≤ 3 then 0 else f.d3, if f.len ≤ 4 then 0 else f.d4, if f.len ≤ 5 then 0 else f.d5, if f.len ≤ 6 then 0 else f.d6, if f.len ≤ 7 then 0 else f.d7⟩
def Fr.chk (f : Fr) : Int := if f.id < 0 ∨ 2047 < f.id then 3 else if f.len < 0 ∨ 8 < f.len then 11 else if frEq f.plain f then 0 else 4

set_option maxHeartbeats 8000000 in
theorem check_c (id : Int) (rtr : Bool) (len d0 d1 d2 d3 d4 d5 d6 d7 : Int) (w : World) :
    Calls Try.prog 30 #[.agg #[.int .i64 id, .bool rtr, .int .i64 len, .int .u8 d0, .int .u8 d1, .int .u8 d2, .int .u8 d3, .int .u8 d4, .int .u8 d5, .int .u8 d6, .int .u8 d7]] w fun e w' => e = .returned (.int .i64 (Fr.chk ⟨id, rtr, len, d0, d1, d2, d3, d4, d5, d6, d7⟩)) ∧ Ext w w' := by
  by_cases hid : id < 0 ∨ 2047 < id
  · have hr : Fr.chk ⟨id, rtr, len, d0, d1, d2, d3, d4, d5, d6, d7⟩ = 3 := if_pos hid
    rw [hr]
    clear hr
    rcases hid with h | h
    · go_enter Try.func30, Try.ntmps30
      go_wp2_with fail
      go_ret
      exact ⟨rfl, (by repeat (first | with_reducible exact Ext.refl _ | with_reducible assumption | with_reducible apply Ext.alloc | with_reducible apply Ext.drew | with_reducible apply Ext.drewN | (with_reducible refine Ext.set' ?_ (by first | omega | (simp only [World.size_alloc, World.size_setCell]; omega))) | (with_reducible refine Ext.trans ?_ (by with_reducible assumption)) | (with_reducible refine Ext.only ?_ (by with_reducible assumption) (by omega))))⟩
    · have h' : ¬ id < 0 := by omega
      go_enter Try.func30, Try.ntmps30
      go_wp2_with fail
      go_ret
      exact ⟨rfl, (by repeat (first | with_reducible exact Ext.refl _ | with_reducible assumption | with_reducible apply Ext.alloc | with_reducible apply Ext.drew | with_reducible apply Ext.drewN | (with_reducible refine Ext.set' ?_ (by first | omega | (simp only [World.size_alloc, World.size_setCell]; omega))) | (with_reducible refine Ext.trans ?_ (by with_reducible assumption)) | (with_reducible refine Ext.only ?_ (by with_reducible assumption) (by omega))))⟩
  · by_cases hlen : len < 0 ∨ 8 < len
    · have hr : Fr.chk ⟨id, rtr, len, d0, d1, d2, d3, d4, d5, d6, d7⟩ = 11 := by unfold Fr.chk; rw [if_neg hid, if_pos hlen]
      rw [hr]
      clear hr
      obtain ⟨hi0, hi1⟩ : ¬ id < 0 ∧ ¬ 2047 < id := ⟨fun h => hid (.inl h), fun h => hid (.inr h)⟩
      clear hid
      rcases hlen with h | h
      · go_enter Try.func30, Try.ntmps30
        go_wp2_with fail
        go_ret
        exact ⟨rfl, (by repeat (first | with_reducible exact Ext.refl _ | with_reducible assumption | with_reducible apply Ext.alloc | with_reducible apply Ext.drew | with_reducible apply Ext.drewN | (with_reducible refine Ext.set' ?_ (by first | omega | (simp only [World.size_alloc, World.size_setCell]; omega))) | (with_reducible refine Ext.trans ?_ (by with_reducible assumption)) | (with_reducible refine Ext.only ?_ (by with_reducible assumption) (by omega))))⟩
      · have h' : ¬ len < 0 := by omega
        go_enter Try.func30, Try.ntmps30
        go_wp2_with fail
        go_ret
        exact ⟨rfl, (by repeat (first | with_reducible exact Ext.refl _ | with_reducible assumption | with_reducible apply Ext.alloc | with_reducible apply Ext.drew | with_reducible apply Ext.drewN | (with_reducible refine Ext.set' ?_ (by first | omega | (simp only [World.size_alloc, World.size_setCell]; omega))) | (with_reducible refine Ext.trans ?_ (by with_reducible assumption)) | (with_reducible refine Ext.only ?_ (by with_reducible assumption) (by omega))))⟩
    · obtain ⟨hi0, hi1⟩ : ¬ id < 0 ∧ ¬ 2047 < id := ⟨fun h => hid (.inl h), fun h => hid (.inr h)⟩
      have hr : Fr.chk ⟨id, rtr, len, d0, d1, d2, d3, d4, d5, d6, d7⟩ = if frEq (Fr.plain ⟨id, rtr, len, d0, d1, d2, d3, d4, d5, d6, d7⟩) ⟨id, rtr, len, d0, d1, d2, d3, d4, d5, d6, d7⟩ then 0 else 4 := by unfold Fr.chk; rw [if_neg hid, if_neg hlen]
      rw [hr]
      clear hr hid
      by_cases h8 : len = 8
      · subst h8
        clear hlen
        cases rtr
        · have hp : Fr.plain ⟨id, false, 8, d0, d1, d2, d3, d4, d5, d6, d7⟩ = ⟨id, false, 8, d0, d1, d2, d3, d4, d5, d6, d7⟩ := rfl
          rw [hp]
          clear hp
          have e1 := frEq_refl ⟨id, false, 8, d0, d1, d2, d3, d4, d5, d6, d7⟩
          rw [if_pos e1]
          go_enter Try.func30, Try.ntmps30
          go_wp2_with fail
          rw [run_clear0 _ _ _ _ _ _ Try.underlying38]
          go_wp2_with fail
          all_goals go_ret
          all_goals exact ⟨rfl, (by repeat (first | with_reducible exact Ext.refl _ | with_reducible assumption | with_reducible apply Ext.alloc | with_reducible apply Ext.drew | with_reducible apply Ext.drewN | (with_reducible refine Ext.set' ?_ (by first | omega | (simp only [World.size_alloc, World.size_setCell]; omega))) | (with_reducible refine Ext.trans ?_ (by with_reducible assumption)) | (with_reducible refine Ext.only ?_ (by with_reducible assumption) (by omega))))⟩
        · have hp : Fr.plain ⟨id, true, 8, d0, d1, d2, d3, d4, d5, d6, d7⟩ = ⟨id, true, 8, 0, 0, 0, 0, 0, 0, 0, 0⟩ := rfl
          rw [hp]
          clear hp
          generalize hz : frEq _ ⟨id, _, _, d0, d1, d2, d3, d4, d5, d6, d7⟩ = z
          cases z <;> simp only [if_true, Bool.false_eq_true, if_false]
          all_goals
            go_enter Try.func30, Try.ntmps30
            go_wp2_with fail
            rw [run_clear0 _ _ _ _ _ _ Try.underlying38]
            go_wp2_with fail
            all_goals go_ret
            all_goals exact ⟨rfl, (by repeat (first | with_reducible exact Ext.refl _ | with_reducible assumption | with_reducible apply Ext.alloc | with_reducible apply Ext.drew | with_reducible apply Ext.drewN | (with_reducible refine Ext.set' ?_ (by first | omega | (simp only [World.size_alloc, World.size_setCell]; omega))) | (with_reducible refine Ext.trans ?_ (by with_reducible assumption)) | (with_reducible refine Ext.only ?_ (by with_reducible assumption) (by omega))))⟩
      · obtain ⟨k, rfl⟩ : ∃ k : Nat, len = k := ⟨len.toNat, by omega⟩
        have hk : k ≤ 8 := by omega
        have hk2 : (k : Int) ≤ 8 := by omega
        have h8' : ¬ 8 = k := by omega
        clear hlen h8
        have hk8 : k < 8 := by omega
        have hp : ∀ e0 e1 e2 e3 e4 e5 e6 e7 : Int, setAll #[.int .i64 id, .bool rtr, .int .i64 k, .int .u8 e0, .int .u8 e1, .int .u8 e2, .int .u8 e3, .int .u8 e4, .int .u8 e5, .int .u8 e6, .int .u8 e7] (3 + k) (List.replicate (8 - k) (.int .u8 0)) =
            #[.int .i64 id, .bool rtr, .int .i64 k, .int .u8 (if (k : Int) ≤ 0 then 0 else e0), .int .u8 (if (k : Int) ≤ 1 then 0 else e1), .int .u8 (if (k : Int) ≤ 2 then 0 else e2), .int .u8 (if (k : Int) ≤ 3 then 0 else e3), .int .u8 (if (k : Int) ≤ 4 then 0 else e4), .int .u8 (if (k : Int) ≤ 5 then 0 else e5), .int .u8 (if (k : Int) ≤ 6 then 0 else e6), .int .u8 (if (k : Int) ≤ 7 then 0 else e7)] := by
          intro e0 e1 e2 e3 e4 e5 e6 e7
          rcases (by omega : k = 0 ∨ k = 1 ∨ k = 2 ∨ k = 3 ∨ k = 4 ∨ k = 5 ∨ k = 6 ∨ k = 7) with rfl | rfl | rfl | rfl | rfl | rfl | rfl | rfl <;> kernel_rfl
        have HP := hid hp
        clear hp
        cases rtr
        · have hpl : Fr.plain ⟨id, false, k, d0, d1, d2, d3, d4, d5, d6, d7⟩ = ⟨id, false, k, if (k : Int) ≤ 0 then 0 else d0, if (k : Int) ≤ 1 then 0 else d1, if (k : Int) ≤ 2 then 0 else d2, if (k : Int) ≤ 3 then 0 else d3, if (k : Int) ≤ 4 then 0 else d4, if (k : Int) ≤ 5 then 0 else d5, if (k : Int) ≤ 6 then 0 else d6, if (k : Int) ≤ 7 then 0 else d7⟩ := rfl
          rw [hpl]
          clear hpl
          have HP2 := hid (HP.out d0 d1 d2 d3 d4 d5 d6 d7)
          generalize (if (k : Int) ≤ 0 then 0 else d0) = p0 at *
          generalize (if (k : Int) ≤ 1 then 0 else d1) = p1 at *
          generalize (if (k : Int) ≤ 2 then 0 else d2) = p2 at *
          generalize (if (k : Int) ≤ 3 then 0 else d3) = p3 at *
          generalize (if (k : Int) ≤ 4 then 0 else d4) = p4 at *
          generalize (if (k : Int) ≤ 5 then 0 else d5) = p5 at *
          generalize (if (k : Int) ≤ 6 then 0 else d6) = p6 at *
          generalize (if (k : Int) ≤ 7 then 0 else d7) = p7 at *
          generalize hz : frEq _ ⟨id, _, _, d0, d1, d2, d3, d4, d5, d6, d7⟩ = z
          cases z <;> simp only [if_true, Bool.false_eq_true, if_false]
          all_goals
            go_enter Try.func30, Try.ntmps30
            go_wp2_with fail
            obtain ⟨w2, hrun, b0, b1, kx⟩ := clear_tail w #[.int .i64 id, .bool false, .int .i64 k, .int .u8 d0, .int .u8 d1, .int .u8 d2, .int .u8 d3, .int .u8 d4, .int .u8 d5, .int .u8 d6, .int .u8 d7] #[.int .i64 id, .bool false, .int .i64 k, .int .u8 d0, .int .u8 d1, .int .u8 d2, .int .u8 d3, .int .u8 d4, .int .u8 d5, .int .u8 d6, .int .u8 d7] k 0 hk8 rfl
            rw [hrun]
            rw [HP2.out] at b1
            obtain ⟨pc0, pc1, pc2, pc3, pc4, pc5, pc6, pc7, pc8, pc9, pc10, pf0, pf1, pf2, pf3, pf4, pf5, pf6, pf7, pf8, pf9, pf10⟩ := Blk.cells11 b0
            obtain ⟨qc0, qc1, qc2, qc3, qc4, qc5, qc6, qc7, qc8, qc9, qc10, qf0, qf1, qf2, qf3, qf4, qf5, qf6, qf7, qf8, qf9, qf10⟩ := Blk.cells11 b1
            clear hrun HP2 pf0 pf1 pf2 pf3 pf4 pf5 pf6 pf7 pf8 pf9 pf10 qf0 qf1 qf2 qf3 qf4 qf5 qf6 qf7 qf8 qf9 qf10
            go_wp2_with fail
            all_goals go_ret
            all_goals exact ⟨rfl, kx⟩
        · have hpl : Fr.plain ⟨id, true, k, d0, d1, d2, d3, d4, d5, d6, d7⟩ = ⟨id, true, k, 0, 0, 0, 0, 0, 0, 0, 0⟩ := rfl
          rw [hpl]
          clear hpl
          have HP2 := HP.out 0 0 0 0 0 0 0 0
          simp only [ite_self] at HP2
          have HP2 := hid HP2
          generalize hz : frEq _ ⟨id, _, _, d0, d1, d2, d3, d4, d5, d6, d7⟩ = z
          cases z <;> simp only [if_true, Bool.false_eq_true, if_false]
          all_goals
            go_enter Try.func30, Try.ntmps30
            go_wp2_with fail
            obtain ⟨w2, hrun, b0, b1, kx⟩ := clear_tail w #[.int .i64 id, .bool true, .int .i64 k, .int .u8 d0, .int .u8 d1, .int .u8 d2, .int .u8 d3, .int .u8 d4, .int .u8 d5, .int .u8 d6, .int .u8 d7] #[.int .i64 id, .bool true, .int .i64 k, .int .u8 0, .int .u8 0, .int .u8 0, .int .u8 0, .int .u8 0, .int .u8 0, .int .u8 0, .int .u8 0] k 0 hk8 rfl
            rw [hrun]
            rw [HP2.out] at b1
            obtain ⟨pc0, pc1, pc2, pc3, pc4, pc5, pc6, pc7, pc8, pc9, pc10, pf0, pf1, pf2, pf3, pf4, pf5, pf6, pf7, pf8, pf9, pf10⟩ := Blk.cells11 b0
            obtain ⟨qc0, qc1, qc2, qc3, qc4, qc5, qc6, qc7, qc8, qc9, qc10, qf0, qf1, qf2, qf3, qf4, qf5, qf6, qf7, qf8, qf9, qf10⟩ := Blk.cells11 b1
            clear hrun HP2 pf0 pf1 pf2 pf3 pf4 pf5 pf6 pf7 pf8 pf9 pf10 qf0 qf1 qf2 qf3 qf4 qf5 qf6 qf7 qf8 qf9 qf10
            go_wp2_with fail
            all_goals go_ret
            all_goals exact ⟨rfl, kx⟩

end Go.Proofs.Ytocogmboocjjaaa
