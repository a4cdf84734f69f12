/- Package frame: checked, New, data, Bytes, Ask; the reference's Check. -/
import Derived.Test.YtocogmboocjjaaaFrame
import Derived.Laws.IdiomCopy
set_option linter.unusedSimpArgs false
set_option linter.unusedVariables false
set_option linter.unnecessarySimpa false
namespace Go.Proofs.Ytocogmboocjjaaa
open Go.RowKit Go.Proofs.YtocogmboocjjaaaW.PrintWords
attribute [local go_sem] max2_max min2_min max_of_two min_of_two
attribute [local go_sem ↓] run_eq_fr

def Fr.zero : Fr := ⟨0, false, 0, 0, 0, 0, 0, 0, 0, 0, 0⟩
def Fr.ckd (f : Fr) : Fr := if f.chk = 0 then f else Fr.zero

/-- A frame of some bytes. -/
def mkFr (id : Int) (l : List Int) : Fr := ⟨id, false, l.length, l.getD 0 0, l.getD 1 0, l.getD 2 0, l.getD 3 0, l.getD 4 0, l.getD 5 0, l.getD 6 0, l.getD 7 0⟩

theorem setAll_mk (id : Int) (n : Nat) (l : List Int) : setAll #[.int .i64 id, .bool false, .int .i64 n, .int .u8 0, .int .u8 0, .int .u8 0, .int .u8 0, .int .u8 0, .int .u8 0, .int .u8 0, .int .u8 0] 3 ((l.take 8).map (Value.int .u8)) =
    #[.int .i64 id, .bool false, .int .i64 n, .int .u8 (l.getD 0 0), .int .u8 (l.getD 1 0), .int .u8 (l.getD 2 0), .int .u8 (l.getD 3 0), .int .u8 (l.getD 4 0), .int .u8 (l.getD 5 0), .int .u8 (l.getD 6 0), .int .u8 (l.getD 7 0)] := by
  rcases l with _ | ⟨a, _ | ⟨b, _ | ⟨c, _ | ⟨d, _ | ⟨e, _ | ⟨f, _ | ⟨g, _ | ⟨h, t⟩⟩⟩⟩⟩⟩⟩⟩ <;> kernel_rfl

/-- 'copy(f.Data[:], data)'. -/
theorem copy_data (w : World) (b ty : Nat) (cs : Array Value) (v : Value) (l : List Int) (hb : Blk w b cs FT) (hsz : cs.size = 11) (hv : Bs w v l) :
    ∃ w2 n, (Builtin.copy_ #[SB, SB] ty #[.slice (some ⟨b, 3, none⟩) 8 8, v]).run Try.prog w = .ok (goInt n) w2 ∧ Blk w2 b (setAll cs 3 ((l.take 8).map (Value.int .u8))) FT ∧ w2.heap.size = w.heap.size ∧
      (∀ g cs t, g ≠ b → Blk w g cs t → Blk w2 g cs t) ∧ ∀ a, Ext a w → a.heap.size ≤ b → Ext a w2 := by
  obtain ⟨A, bl, o, c, rfl, hlc, hrow, _⟩ := hv
  obtain ⟨i0, hi, hz0, hz1, hz2⟩ := info_parts infoU8
  have hs : (Try.prog.info? U8).map (·.size) = some 1 := by rw [hi]; simp [hz1]
  by_cases hl : l.length = 0
  · have : l = [] := List.eq_nil_of_length_eq_zero hl
    subst this
    exact ⟨w, 0, run_copy_none w SB SB ty U8 _ _ _ _ _ _ Try.underlying38 hs (by simp [Nat.min]), hb, rfl, fun _ _ _ _ h => h, fun _ h _ => h⟩
  · have hA : A = some ⟨bl, o, none⟩ := (hrow.2.1 (by omega)).1
    subst hA
    have hlen : ((l.take 8).map (Value.int .u8)).length = Nat.min l.length 8 := by rw [List.length_map, List.length_take]; show min 8 l.length = min l.length 8; omega
    have h8 : ((l.take 8).map (Value.int .u8)).length ≤ 8 := by simp; omega
    refine ⟨_, _, run_copy_cells w SB SB ty U8 b 3 8 8 ⟨bl, o, none⟩ l.length c ((l.take 8).map (Value.int .u8)) Try.underlying38 hs hlen ?_ ?_ (fun j hj => hb.free _) ?_, Blk.setCells _ _ _ _ hb, ?_, fun g cs t hg h => Blk.setCells_other hg _ _ _ h, fun a k h => Ext.setCells h _ _ _ k⟩
    · intro j u hj
      have hj8 : j < (l.take 8).length := by have := (List.getElem?_eq_some_iff.1 hj).1; rwa [List.length_map] at this
      have hjl : j < l.length := by rw [List.length_take] at hj8; omega
      rw [Go.Proofs.Ytocogmboocjjaaa.add_plain, hrow.2.2 j hjl, ← hj]
      rw [List.length_take] at hj8
      simp [List.getD_eq_getElem?_getD, List.getElem?_take, hjl]
      omega
    · intro j hj
      rw [hb.cell (3 + j) cs[3 + j] (Array.getElem?_eq_getElem (by omega))]
      rfl
    · intro v hv
      obtain ⟨x, _, rfl⟩ := List.mem_map.1 hv
      rfl
    · have : ∀ (vs : List Value) (o : Nat) (w : World), (w.setCells b o vs).heap.size = w.heap.size := by
        intro vs
        induction vs with
        | nil => intro o w; rfl
        | cons v vs ih => intro o w; rw [setCells_cons, ih]; simp
      exact this _ _ _

/-- Has a frame bytes? -/
def Fr.has (f : Fr) : Bool := f.chk == 0 && !f.rtr

set_option maxHeartbeats 1000000 in
theorem data_c (id : Int) (rtr : Bool) (len d0 d1 d2 d3 d4 d5 d6 d7 : Int) (w : World) :
    Calls Try.prog 59 #[.agg #[.int .i64 id, .bool rtr, .int .i64 len, .int .u8 d0, .int .u8 d1, .int .u8 d2, .int .u8 d3, .int .u8 d4, .int .u8 d5, .int .u8 d6, .int .u8 d7]] w fun e w' => e = .returned (.bool (Fr.has (⟨id, rtr, len, d0, d1, d2, d3, d4, d5, d6, d7⟩ : Fr))) ∧ Ext w w' := by
  have HB := hid (fun w' (k : Ext (w.alloc (.cells #[.int .i64 id, .bool rtr, .int .i64 len, .int .u8 d0, .int .u8 d1, .int .u8 d2, .int .u8 d3, .int .u8 d4, .int .u8 d5, .int .u8 d6, .int .u8 d7] FT)) w') => Ext.blk k (Blk.new w #[.int .i64 id, .bool rtr, .int .i64 len, .int .u8 d0, .int .u8 d1, .int .u8 d2, .int .u8 d3, .int .u8 d4, .int .u8 d5, .int .u8 d6, .int .u8 d7] FT))
  obtain ⟨m, hm⟩ : ∃ m, Is (Fr.chk (⟨id, rtr, len, d0, d1, d2, d3, d4, d5, d6, d7⟩ : Fr)) m := ⟨_, Is.refl _⟩
  have hg : Fr.has (⟨id, rtr, len, d0, d1, d2, d3, d4, d5, d6, d7⟩ : Fr) = (m == 0 && !rtr) := by rw [← hm.eq]; rfl
  have CK := hid (fun w => check_c id rtr len d0 d1 d2 d3 d4 d5 d6 d7 w)
  rw [hg]
  rw [hm.eq] at CK
  clear hg hm
  cases rtr <;> cases hm : m == 0
  all_goals
    go_enter Try.func59, Try.ntmps59
    go_wp2_with fail
    (with_reducible refine (CK.out _).mono ?_); rintro e w1 ⟨rfl, k1⟩
    have b1 := HB.out w1 (by repeat (first | with_reducible exact Ext.refl _ | with_reducible assumption | with_reducible apply Ext.alloc | with_reducible apply Ext.drew | with_reducible apply Ext.drewN | (with_reducible refine Ext.set' ?_ (by first | omega | (simp only [World.size_alloc, World.size_setCell]; omega))) | (with_reducible refine Ext.trans ?_ (by with_reducible assumption)) | (with_reducible refine Ext.only ?_ (by with_reducible assumption) (by omega))))
    obtain ⟨pc0, pc1, pc2, pc3, pc4, pc5, pc6, pc7, pc8, pc9, pc10, pf0, pf1, pf2, pf3, pf4, pf5, pf6, pf7, pf8, pf9, pf10⟩ := Blk.cells11 b1
    clear pf0 pf1 pf2 pf3 pf4 pf5 pf6 pf7 pf8 pf9 pf10
    have KE : Ext w w1 := (by repeat (first | with_reducible exact Ext.refl _ | with_reducible assumption | with_reducible apply Ext.alloc | with_reducible apply Ext.drew | with_reducible apply Ext.drewN | (with_reducible refine Ext.set' ?_ (by first | omega | (simp only [World.size_alloc, World.size_setCell]; omega))) | (with_reducible refine Ext.trans ?_ (by with_reducible assumption)) | (with_reducible refine Ext.only ?_ (by with_reducible assumption) (by omega))))
    clear CK HB k1
    go_wp2_with fail
    go_ret
    exact ⟨rfl, (by repeat (first | with_reducible exact Ext.refl _ | with_reducible assumption | with_reducible apply Ext.alloc | with_reducible apply Ext.drew | with_reducible apply Ext.drewN | (with_reducible refine Ext.set' ?_ (by first | omega | (simp only [World.size_alloc, World.size_setCell]; omega))) | (with_reducible refine Ext.trans ?_ (by with_reducible assumption)) | (with_reducible refine Ext.only ?_ (by with_reducible assumption) (by omega))))⟩

/-- A frame's bytes. -/
def Fr.bytes (f : Fr) : List Int := if f.has then f.data.take f.len.toNat else []

set_option maxHeartbeats 2000000 in
theorem bytes_c (id : Int) (rtr : Bool) (len d0 d1 d2 d3 d4 d5 d6 d7 : Int) (w : World) (hd : Byt [d0, d1, d2, d3, d4, d5, d6, d7]) :
    Calls Try.prog 32 #[.agg #[.int .i64 id, .bool rtr, .int .i64 len, .int .u8 d0, .int .u8 d1, .int .u8 d2, .int .u8 d3, .int .u8 d4, .int .u8 d5, .int .u8 d6, .int .u8 d7]] w fun e w' => ∃ v, e = .returned v ∧ Own8 w' w.heap.size v (Fr.bytes (⟨id, rtr, len, d0, d1, d2, d3, d4, d5, d6, d7⟩ : Fr)) ∧ Ext w w' := by
  have HB := hid (fun w' (k : Ext (w.alloc (.cells #[.int .i64 id, .bool rtr, .int .i64 len, .int .u8 d0, .int .u8 d1, .int .u8 d2, .int .u8 d3, .int .u8 d4, .int .u8 d5, .int .u8 d6, .int .u8 d7] FT)) w') => Ext.blk k (Blk.new w #[.int .i64 id, .bool rtr, .int .i64 len, .int .u8 d0, .int .u8 d1, .int .u8 d2, .int .u8 d3, .int .u8 d4, .int .u8 d5, .int .u8 d6, .int .u8 d7] FT))
  have CK := hid (fun w => data_c id rtr len d0 d1 d2 d3 d4 d5 d6 d7 w)
  obtain ⟨m, hm⟩ : ∃ m, Is (Fr.has (⟨id, rtr, len, d0, d1, d2, d3, d4, d5, d6, d7⟩ : Fr)) m := ⟨_, Is.refl _⟩
  have hg : Fr.bytes (⟨id, rtr, len, d0, d1, d2, d3, d4, d5, d6, d7⟩ : Fr) = if m then [d0, d1, d2, d3, d4, d5, d6, d7].take len.toNat else [] := by rw [← hm.eq]; rfl
  rw [hg]
  rw [hm.eq] at CK
  clear hg
  cases m
  · simp only [Bool.false_eq_true, if_false]
    go_enter Try.func32, Try.ntmps32
    go_wp2_with fail
    (with_reducible refine (CK.out _).mono ?_); rintro e w1 ⟨rfl, k1⟩
    go_wp2_with fail
    go_ret
    exact ⟨_, rfl, Own8.nil _ _, (by repeat (first | with_reducible exact Ext.refl _ | with_reducible assumption | with_reducible apply Ext.alloc | with_reducible apply Ext.drew | with_reducible apply Ext.drewN | (with_reducible refine Ext.set' ?_ (by first | omega | (simp only [World.size_alloc, World.size_setCell]; omega))) | (with_reducible refine Ext.trans ?_ (by with_reducible assumption)) | (with_reducible refine Ext.only ?_ (by with_reducible assumption) (by omega))))⟩
  · simp only [if_true]
    have hlen : 0 ≤ len ∧ len ≤ 8 := by
      have h := hm.eq
      unfold Fr.has Fr.chk at h
      simp only [Bool.and_eq_true, beq_iff_eq] at h
      have h1 := h.1
      split at h1
      · omega
      · split at h1
        · omega
        · omega
    obtain ⟨k, rfl⟩ := Int.eq_ofNat_of_zero_le hlen.1
    rw [Int.toNat_natCast]
    have hk : k ≤ 8 := by omega
    have hk2 : (k : Int) ≤ 8 := by omega
    have hk0 : (0 : Int) ≤ (k : Int) := by omega
    clear hm hlen
    obtain ⟨L, hL⟩ : ∃ L, Is ([d0, d1, d2, d3, d4, d5, d6, d7].take k) L := ⟨_, Is.refl _⟩
    rw [hL.eq]
    go_enter Try.func32, Try.ntmps32
    go_wp2_with fail
    (with_reducible refine (CK.out _).mono ?_); rintro e w1 ⟨rfl, k1⟩
    have b1 := HB.out w1 (by repeat (first | with_reducible exact Ext.refl _ | with_reducible assumption | with_reducible apply Ext.alloc | with_reducible apply Ext.drew | with_reducible apply Ext.drewN | (with_reducible refine Ext.set' ?_ (by first | omega | (simp only [World.size_alloc, World.size_setCell]; omega))) | (with_reducible refine Ext.trans ?_ (by with_reducible assumption)) | (with_reducible refine Ext.only ?_ (by with_reducible assumption) (by omega))))
    obtain ⟨pc0, pc1, pc2, pc3, pc4, pc5, pc6, pc7, pc8, pc9, pc10, pf0, pf1, pf2, pf3, pf4, pf5, pf6, pf7, pf8, pf9, pf10⟩ := Blk.cells11 b1
    clear pf0 pf1 pf2 pf3 pf4 pf5 pf6 pf7 pf8 pf9 pf10
    have KE : Ext w w1 := (by repeat (first | with_reducible exact Ext.refl _ | with_reducible assumption | with_reducible apply Ext.alloc | with_reducible apply Ext.drew | with_reducible apply Ext.drewN | (with_reducible refine Ext.set' ?_ (by first | omega | (simp only [World.size_alloc, World.size_setCell]; omega))) | (with_reducible refine Ext.trans ?_ (by with_reducible assumption)) | (with_reducible refine Ext.only ?_ (by with_reducible assumption) (by omega))))
    have hbs : Bs w1 (.slice (some ⟨w.heap.size, 3, none⟩) k 8) ([d0, d1, d2, d3, d4, d5, d6, d7].take k) := by
      refine Bs.of_row (bl := w.heap.size) (o := 3) (by simp; omega) hk ⟨by simp; omega, fun _ => ⟨rfl, b1.lt⟩, fun i hi => ?_⟩ (hd.take k)
      rw [List.length_take] at hi
      simp only [List.length_cons, List.length_nil] at hi
      have e : ([d0, d1, d2, d3, d4, d5, d6, d7].take k).getD i 0 = [d0, d1, d2, d3, d4, d5, d6, d7].getD i 0 := by
        rw [List.getD_eq_getElem?_getD, List.getD_eq_getElem?_getD, List.getElem?_take, if_pos (by omega)]
      rw [e]
      rcases (by omega : i = 0 ∨ i = 1 ∨ i = 2 ∨ i = 3 ∨ i = 4 ∨ i = 5 ∨ i = 6 ∨ i = 7) with rfl | rfl | rfl | rfl | rfl | rfl | rfl | rfl <;> assumption
    clear CK HB k1
    have hlt : ([d0, d1, d2, d3, d4, d5, d6, d7].take k).length ≤ 8 := by simp; omega
    rw [hL.eq] at hbs hlt
    go_wp2_with (at_builtin; go_must (refine app8r rfl (.const (.slice none 0 0)) (.tmp 9) rfl w.heap.size rfl rfl hbs (Own8.nil _ _) (by first | omega | (simp only [List.length_append, List.length_cons, List.length_nil]; omega)) (Ext.le (by repeat (first | with_reducible exact Ext.refl _ | with_reducible assumption | with_reducible apply Ext.alloc | with_reducible apply Ext.drew | with_reducible apply Ext.drewN | (with_reducible refine Ext.set' ?_ (by first | omega | (simp only [World.size_alloc, World.size_setCell]; omega))) | (with_reducible refine Ext.trans ?_ (by with_reducible assumption)) | (with_reducible refine Ext.only ?_ (by with_reducible assumption) (by omega))))) ?_); intro v2 w2 o2 k2 kk2; have K2 : Ext w w2 := Ext.back (by repeat (first | with_reducible exact Ext.refl _ | with_reducible assumption | with_reducible apply Ext.alloc | with_reducible apply Ext.drew | with_reducible apply Ext.drewN | (with_reducible refine Ext.set' ?_ (by first | omega | (simp only [World.size_alloc, World.size_setCell]; omega))) | (with_reducible refine Ext.trans ?_ (by with_reducible assumption)) | (with_reducible refine Ext.only ?_ (by with_reducible assumption) (by omega)))) k2; clear k2; (skip))
    rw [List.nil_append] at o2
    go_ret
    exact ⟨_, rfl, o2, (by repeat (first | with_reducible exact Ext.refl _ | with_reducible assumption | with_reducible apply Ext.alloc | with_reducible apply Ext.drew | with_reducible apply Ext.drewN | (with_reducible refine Ext.set' ?_ (by first | omega | (simp only [World.size_alloc, World.size_setCell]; omega))) | (with_reducible refine Ext.trans ?_ (by with_reducible assumption)) | (with_reducible refine Ext.only ?_ (by with_reducible assumption) (by omega))))⟩

theorem bytes_byt {f : Fr} (hd : Byt f.data) : Byt f.bytes := by
  unfold Fr.bytes
  split
  · exact hd.take _
  · exact Byt.nil

end Go.Proofs.Ytocogmboocjjaaa
