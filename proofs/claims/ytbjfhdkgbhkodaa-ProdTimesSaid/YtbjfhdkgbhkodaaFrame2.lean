/- Package frame: checked, New, data, Bytes, Ask; the reference's Check. -/
import Derived.Test.YtbjfhdkgbhkodaaFrame
import Derived.Laws.IdiomCopy
set_option linter.unusedSimpArgs false
set_option linter.unusedVariables false
set_option linter.unnecessarySimpa false
namespace Go.Proofs.Ytbjfhdkgbhkodaa
open Go.RowKit Go.Proofs.YtbjfhdkgbhkodaaW.PrintWords
attribute [local go_sem] max2_max min2_min max_of_two min_of_two
attribute [local go_sem ↓] run_eq_fr

def Fr.zero : Fr := ⟨0, false, 0, 0, 0, 0, 0, 0, 0, 0, 0⟩
def Fr.ckd (f : Fr) : Fr := if f.chk = 0 then f else Fr.zero

set_option maxHeartbeats 1000000 in
theorem checked_c (id : Int) (rtr : Bool) (len d0 d1 d2 d3 d4 d5 d6 d7 : Int) (w : World) :
    Calls Try.prog 34 #[.agg #[.int .i64 id, .bool rtr, .int .i64 len, .int .u8 d0, .int .u8 d1, .int .u8 d2, .int .u8 d3, .int .u8 d4, .int .u8 d5, .int .u8 d6, .int .u8 d7]] w fun e w' => e = .returned (.tuple #[(Fr.ckd (⟨id, rtr, len, d0, d1, d2, d3, d4, d5, d6, d7⟩ : Fr)).val, .int .i64 (Fr.chk (⟨id, rtr, len, d0, d1, d2, d3, d4, d5, d6, d7⟩ : Fr))]) ∧ Ext w w' := by
  have HB := hid (fun w' (k : Ext (w.alloc (.cells #[.int .i64 id, .bool rtr, .int .i64 len, .int .u8 d0, .int .u8 d1, .int .u8 d2, .int .u8 d3, .int .u8 d4, .int .u8 d5, .int .u8 d6, .int .u8 d7] FT)) w') => Ext.blk k (Blk.new w #[.int .i64 id, .bool rtr, .int .i64 len, .int .u8 d0, .int .u8 d1, .int .u8 d2, .int .u8 d3, .int .u8 d4, .int .u8 d5, .int .u8 d6, .int .u8 d7] FT))
  obtain ⟨m, hm⟩ : ∃ m, Is (Fr.chk (⟨id, rtr, len, d0, d1, d2, d3, d4, d5, d6, d7⟩ : Fr)) m := ⟨_, Is.refl _⟩
  have hg : Fr.ckd (⟨id, rtr, len, d0, d1, d2, d3, d4, d5, d6, d7⟩ : Fr) = if m = 0 then (⟨id, rtr, len, d0, d1, d2, d3, d4, d5, d6, d7⟩ : Fr) else Fr.zero := by rw [← hm.eq]; rfl
  have CK := hid (fun w => check_c id rtr len d0 d1 d2 d3 d4 d5 d6 d7 w)
  rw [hg]
  rw [hm.eq] at CK ⊢
  clear hg hm
  by_cases hm : m = 0
  · subst hm
    rw [if_pos rfl]
    go_enter Try.func34, Try.ntmps34
    go_wp2_with fail
    (with_reducible refine (CK.out _).mono ?_); rintro e w1 ⟨rfl, k1⟩
    have b1 := HB.out w1 (by repeat (first | with_reducible exact Ext.refl _ | with_reducible assumption | with_reducible apply Ext.alloc | with_reducible apply Ext.drew | with_reducible apply Ext.drewN | (with_reducible refine Ext.set' ?_ (by first | omega | (simp only [World.size_alloc, World.size_setCell]; omega))) | (with_reducible refine Ext.trans ?_ (by with_reducible assumption)) | (with_reducible refine Ext.only ?_ (by with_reducible assumption) (by omega))))
    obtain ⟨pc0, pc1, pc2, pc3, pc4, pc5, pc6, pc7, pc8, pc9, pc10, pf0, pf1, pf2, pf3, pf4, pf5, pf6, pf7, pf8, pf9, pf10⟩ := Blk.cells11 b1
    have hlt : w.heap.size + 1 < w1.heap.size := by have := k1.le; simp at this; omega
    have b2 : Blk w1 (w.heap.size + 1) #[.int .i64 0, .bool false, .int .i64 0, .int .u8 0, .int .u8 0, .int .u8 0, .int .u8 0, .int .u8 0, .int .u8 0, .int .u8 0, .int .u8 0] FT := Ext.blk k1 (Blk.new2 _ _ _ _)
    obtain ⟨qc0, qc1, qc2, qc3, qc4, qc5, qc6, qc7, qc8, qc9, qc10, qf0, qf1, qf2, qf3, qf4, qf5, qf6, qf7, qf8, qf9, qf10⟩ := Blk.cells11 b2
    clear pf0 pf1 pf2 pf3 pf4 pf5 pf6 pf7 pf8 pf9 pf10
    have KE : Ext w w1 := (by repeat (first | with_reducible exact Ext.refl _ | with_reducible assumption | with_reducible apply Ext.alloc | with_reducible apply Ext.drew | with_reducible apply Ext.drewN | (with_reducible refine Ext.set' ?_ (by first | omega | (simp only [World.size_alloc, World.size_setCell]; omega))) | (with_reducible refine Ext.trans ?_ (by with_reducible assumption)) | (with_reducible refine Ext.only ?_ (by with_reducible assumption) (by omega))))
    clear CK HB k1
    go_wp2_with fail
    exact bodyPost_ret (v := .tuple #[.agg #[.int .i64 id, .bool rtr, .int .i64 len, .int .u8 d0, .int .u8 d1, .int .u8 d2, .int .u8 d3, .int .u8 d4, .int .u8 d5, .int .u8 d6, .int .u8 d7], .int .i64 0]) (by simp [results, Try.results34, go_sem, *]) rfl ⟨rfl, (by repeat (first | with_reducible exact Ext.refl _ | with_reducible assumption | with_reducible apply Ext.alloc | with_reducible apply Ext.drew | with_reducible apply Ext.drewN | (with_reducible refine Ext.set' ?_ (by first | omega | (simp only [World.size_alloc, World.size_setCell]; omega))) | (with_reducible refine Ext.trans ?_ (by with_reducible assumption)) | (with_reducible refine Ext.only ?_ (by with_reducible assumption) (by omega))))⟩
  · have d0 : (m != 0) = true := by rw [bne_iff_ne]; exact hm
    rw [if_neg hm]
    clear hm
    go_enter Try.func34, Try.ntmps34
    go_wp2_with fail
    (with_reducible refine (CK.out _).mono ?_); rintro e w1 ⟨rfl, k1⟩
    have hlt : w.heap.size + 1 < w1.heap.size := by have := k1.le; simp at this; omega
    have b2 : Blk w1 (w.heap.size + 1) #[.int .i64 0, .bool false, .int .i64 0, .int .u8 0, .int .u8 0, .int .u8 0, .int .u8 0, .int .u8 0, .int .u8 0, .int .u8 0, .int .u8 0] FT := Ext.blk k1 (Blk.new2 _ _ _ _)
    obtain ⟨qc0, qc1, qc2, qc3, qc4, qc5, qc6, qc7, qc8, qc9, qc10, qf0, qf1, qf2, qf3, qf4, qf5, qf6, qf7, qf8, qf9, qf10⟩ := Blk.cells11 b2
    have KE : Ext w w1 := (by repeat (first | with_reducible exact Ext.refl _ | with_reducible assumption | with_reducible apply Ext.alloc | with_reducible apply Ext.drew | with_reducible apply Ext.drewN | (with_reducible refine Ext.set' ?_ (by first | omega | (simp only [World.size_alloc, World.size_setCell]; omega))) | (with_reducible refine Ext.trans ?_ (by with_reducible assumption)) | (with_reducible refine Ext.only ?_ (by with_reducible assumption) (by omega))))
    clear CK HB k1
    go_wp2_with fail
    exact bodyPost_ret (v := .tuple #[.agg #[.int .i64 0, .bool false, .int .i64 0, .int .u8 0, .int .u8 0, .int .u8 0, .int .u8 0, .int .u8 0, .int .u8 0, .int .u8 0, .int .u8 0], .int .i64 m]) (by simp [results, Try.results34, go_sem, *]) rfl ⟨rfl, (by repeat (first | with_reducible exact Ext.refl _ | with_reducible assumption | with_reducible apply Ext.alloc | with_reducible apply Ext.drew | with_reducible apply Ext.drewN | (with_reducible refine Ext.set' ?_ (by first | omega | (simp only [World.size_alloc, World.size_setCell]; omega))) | (with_reducible refine Ext.trans ?_ (by with_reducible assumption)) | (with_reducible refine Ext.only ?_ (by with_reducible assumption) (by omega))))⟩

/-- A frame of some bytes. -/
def mkFr (id : Int) (l : List Int) : Fr := ⟨id, false, l.length, l.getD 0 0, l.getD 1 0, l.getD 2 0, l.getD 3 0, l.getD 4 0, l.getD 5 0, l.getD 6 0, l.getD 7 0⟩

theorem setAll_mk (id : Int) (n : Nat) (l : List Int) : setAll #[.int .i64 id, .bool false, .int .i64 n, .int .u8 0, .int .u8 0, .int .u8 0, .int .u8 0, .int .u8 0, .int .u8 0, .int .u8 0, .int .u8 0] 3 ((l.take 8).map (Value.int .u8)) =
    #[.int .i64 id, .bool false, .int .i64 n, .int .u8 (l.getD 0 0), .int .u8 (l.getD 1 0), .int .u8 (l.getD 2 0), .int .u8 (l.getD 3 0), .int .u8 (l.getD 4 0), .int .u8 (l.getD 5 0), .int .u8 (l.getD 6 0), .int .u8 (l.getD 7 0)] := by
  rcases l with _ | ⟨a, _ | ⟨b, _ | ⟨c, _ | ⟨d, _ | ⟨e, _ | ⟨f, _ | ⟨g, _ | ⟨h, t⟩⟩⟩⟩⟩⟩⟩⟩ <;> kernel_rfl

/-- 'copy(f.Data[:], data)'. -/
theorem copy_data (w : World) (b ty : Nat) (cs : Array Value) (v : Value) (l : List Int) (hb : Blk w b cs FT) (hsz : cs.size = 11) (hv : Bs w v l) :
    ∃ w2 n, (Builtin.copy_ #[SB, SB] ty #[.slice (some ⟨b, 3, none⟩) 8 8, v]).run Try.prog w = .ok (goInt n) w2 ∧ Blk w2 b (setAll cs 3 ((l.take 8).map (Value.int .u8))) FT ∧ w2.heap.size = w.heap.size ∧
      (∀ g cs t, g ≠ b → Blk w g cs t → Blk w2 g cs t) ∧ ∀ a, Ext a w → a.heap.size ≤ b → Ext a w2 := by
  obtain ⟨A, bl, o, c, rfl, hlc, hrow, _⟩ := hv
  obtain ⟨i0, hi, hz0, hz1, hz2⟩ := info_parts infoU8
  have hs : (Try.prog.info? U8).map (·.size) = some 1 := by rw [hi]; simp [hz1]
  by_cases hl : l.length = 0
  · have : l = [] := List.eq_nil_of_length_eq_zero hl
    subst this
    exact ⟨w, 0, run_copy_none w SB SB ty U8 _ _ _ _ _ _ Try.underlying39 hs (by simp [Nat.min]), hb, rfl, fun _ _ _ _ h => h, fun _ h _ => h⟩
  · have hA : A = some ⟨bl, o, none⟩ := (hrow.2.1 (by omega)).1
    subst hA
    have hlen : ((l.take 8).map (Value.int .u8)).length = Nat.min l.length 8 := by rw [List.length_map, List.length_take]; show min 8 l.length = min l.length 8; omega
    have h8 : ((l.take 8).map (Value.int .u8)).length ≤ 8 := by simp; omega
    refine ⟨_, _, run_copy_cells w SB SB ty U8 b 3 8 8 ⟨bl, o, none⟩ l.length c ((l.take 8).map (Value.int .u8)) Try.underlying39 hs hlen ?_ ?_ (fun j hj => hb.free _) ?_, Blk.setCells _ _ _ _ hb, ?_, fun g cs t hg h => Blk.setCells_other hg _ _ _ h, fun a k h => Ext.setCells h _ _ _ k⟩
    · intro j u hj
      have hj8 : j < (l.take 8).length := by have := (List.getElem?_eq_some_iff.1 hj).1; rwa [List.length_map] at this
      have hjl : j < l.length := by rw [List.length_take] at hj8; omega
      rw [Go.Proofs.Ytbjfhdkgbhkodaa.add_plain, hrow.2.2 j hjl, ← hj]
      rw [List.length_take] at hj8
      simp [List.getD_eq_getElem?_getD, List.getElem?_take, hjl]
      omega
    · intro j hj
      rw [hb.cell (3 + j) cs[3 + j] (Array.getElem?_eq_getElem (by omega))]
      rfl
    · intro v hv
      obtain ⟨x, _, rfl⟩ := List.mem_map.1 hv
      rfl
    · have : ∀ (vs : List Value) (o : Nat) (w : World), (w.setCells b o vs).heap.size = w.heap.size := by
        intro vs
        induction vs with
        | nil => intro o w; rfl
        | cons v vs ih => intro o w; rw [setCells_cons, ih]; simp
      exact this _ _ _

set_option maxHeartbeats 1000000 in
theorem new_c (id : Int) (v : Value) (l : List Int) (w : World) (hv : Bs w v l) :
    Calls Try.prog 32 #[.int .i64 id, v] w fun e w' => e = .returned (.tuple #[(Fr.ckd (mkFr id l)).val, .int .i64 (Fr.chk (mkFr id l))]) ∧ Ext w w' := by
  have hv' := hv
  obtain ⟨A, bl, o, c, rfl, hlc, hrow, hb⟩ := hv'
  have hl0 := hrow.1
  have CK := hid (fun w => checked_c id false l.length (l.getD 0 0) (l.getD 1 0) (l.getD 2 0) (l.getD 3 0) (l.getD 4 0) (l.getD 5 0) (l.getD 6 0) (l.getD 7 0) w)
  have hms := setAll_mk id l.length l
  have HMS := hid hms
  have hF : mkFr id l = ⟨id, false, l.length, l.getD 0 0, l.getD 1 0, l.getD 2 0, l.getD 3 0, l.getD 4 0, l.getD 5 0, l.getD 6 0, l.getD 7 0⟩ := rfl
  rw [hF]
  clear hms hF
  generalize l.getD 0 0 = e0 at *
  generalize l.getD 1 0 = e1 at *
  generalize l.getD 2 0 = e2 at *
  generalize l.getD 3 0 = e3 at *
  generalize l.getD 4 0 = e4 at *
  generalize l.getD 5 0 = e5 at *
  generalize l.getD 6 0 = e6 at *
  generalize l.getD 7 0 = e7 at *
  obtain ⟨G, hG⟩ : ∃ G, Is (Fr.ckd ⟨id, false, l.length, e0, e1, e2, e3, e4, e5, e6, e7⟩) G := ⟨_, Is.refl _⟩
  obtain ⟨M, hM⟩ : ∃ M, Is (Fr.chk ⟨id, false, l.length, e0, e1, e2, e3, e4, e5, e6, e7⟩) M := ⟨_, Is.refl _⟩
  rw [hG.eq, hM.eq] at CK ⊢
  clear hG hM
  obtain ⟨gid, grtr, glen, g0, g1, g2, g3, g4, g5, g6, g7⟩ := G
  simp only [Fr.val, Fr.cells] at CK ⊢
  go_enter Try.func32, Try.ntmps32
  go_wp2_with fail
  obtain ⟨w2, n, hrun, b2, hsz2, hoth, hext⟩ := copy_data _ (w.heap.size + 1) 3 _ _ l (Blk.new2 w (.cells #[.int .i64 0, .bool false, .int .i64 0, .int .u8 0, .int .u8 0, .int .u8 0, .int .u8 0, .int .u8 0, .int .u8 0, .int .u8 0, .int .u8 0] FT) #[.int .i64 id, .bool false, .int .i64 l.length, .int .u8 0, .int .u8 0, .int .u8 0, .int .u8 0, .int .u8 0, .int .u8 0, .int .u8 0, .int .u8 0] FT) rfl (hv.ext (by repeat (first | with_reducible exact Ext.refl _ | with_reducible assumption | with_reducible apply Ext.alloc | with_reducible apply Ext.drew | with_reducible apply Ext.drewN | (with_reducible refine Ext.set' ?_ (by first | omega | (simp only [World.size_alloc, World.size_setCell]; omega))) | (with_reducible refine Ext.trans ?_ (by with_reducible assumption)) | (with_reducible refine Ext.only ?_ (by with_reducible assumption) (by omega)))))
  have bz := hoth w.heap.size _ _ (by omega) ((Blk.new w #[.int .i64 0, .bool false, .int .i64 0, .int .u8 0, .int .u8 0, .int .u8 0, .int .u8 0, .int .u8 0, .int .u8 0, .int .u8 0, .int .u8 0] FT).alloc _)
  have KE : Ext w w2 := hext w (by repeat (first | with_reducible exact Ext.refl _ | with_reducible assumption | with_reducible apply Ext.alloc | with_reducible apply Ext.drew | with_reducible apply Ext.drewN | (with_reducible refine Ext.set' ?_ (by first | omega | (simp only [World.size_alloc, World.size_setCell]; omega))) | (with_reducible refine Ext.trans ?_ (by with_reducible assumption)) | (with_reducible refine Ext.only ?_ (by with_reducible assumption) (by omega)))) (by omega)
  have hlt : w.heap.size + 1 < w2.heap.size := by rw [hsz2]; simp
  rw [hrun]
  rw [HMS.out] at b2
  obtain ⟨qc0, qc1, qc2, qc3, qc4, qc5, qc6, qc7, qc8, qc9, qc10, qf0, qf1, qf2, qf3, qf4, qf5, qf6, qf7, qf8, qf9, qf10⟩ := Blk.cells11 b2
  clear qf0 qf1 qf2 qf3 qf4 qf5 qf6 qf7 qf8 qf9 qf10
  clear hrun hsz2 hoth hext
  go_wp2_with fail
  (with_reducible refine (CK.out _).mono ?_); rintro e w3 ⟨rfl, k3⟩
  have b3 := Ext.blk k3 bz
  clear bz qc0 qc1 qc2 qc3 qc4 qc5 qc6 qc7 qc8 qc9 qc10 HMS CK
  obtain ⟨rc0, rc1, rc2, rc3, rc4, rc5, rc6, rc7, rc8, rc9, rc10, rf0, rf1, rf2, rf3, rf4, rf5, rf6, rf7, rf8, rf9, rf10⟩ := Blk.cells11 b3
  have KF : Ext w w3 := (by repeat (first | with_reducible exact Ext.refl _ | with_reducible assumption | with_reducible apply Ext.alloc | with_reducible apply Ext.drew | with_reducible apply Ext.drewN | (with_reducible refine Ext.set' ?_ (by first | omega | (simp only [World.size_alloc, World.size_setCell]; omega))) | (with_reducible refine Ext.trans ?_ (by with_reducible assumption)) | (with_reducible refine Ext.only ?_ (by with_reducible assumption) (by omega))))
  have hlt3 : w.heap.size + 1 < w3.heap.size := by have := k3.le; omega
  clear hlt k3
  go_wp2_with fail
  exact bodyPost_ret (v := .tuple #[.agg #[.int .i64 gid, .bool grtr, .int .i64 glen, .int .u8 g0, .int .u8 g1, .int .u8 g2, .int .u8 g3, .int .u8 g4, .int .u8 g5, .int .u8 g6, .int .u8 g7], .int .i64 M]) (by simp [results, Try.results32, go_sem, *]) rfl ⟨rfl, (by repeat (first | with_reducible exact Ext.refl _ | with_reducible assumption | with_reducible apply Ext.alloc | with_reducible apply Ext.drew | with_reducible apply Ext.drewN | (with_reducible refine Ext.set' ?_ (by first | omega | (simp only [World.size_alloc, World.size_setCell]; omega))) | (with_reducible refine Ext.trans ?_ (by with_reducible assumption)) | (with_reducible refine Ext.only ?_ (by with_reducible assumption) (by omega))))⟩

/-- Has a frame bytes? -/
def Fr.has (f : Fr) : Bool := f.chk == 0 && !f.rtr

/-- A frame's bytes. -/
def Fr.bytes (f : Fr) : List Int := if f.has then f.data.take f.len.toNat else []

theorem bytes_byt {f : Fr} (hd : Byt f.data) : Byt f.bytes := by
  unfold Fr.bytes
  split
  · exact hd.take _
  · exact Byt.nil

end Go.Proofs.Ytbjfhdkgbhkodaa
