import Derived.Test.YtjlhbgkmebinjaaCrc
set_option linter.unusedSimpArgs false
set_option linter.unusedVariables false
set_option linter.unnecessarySimpa false
namespace Go.Proofs.Ytjlhbgkmebinjaa
open Go.RowKit Go.Proofs.YtjlhbgkmebinjaaW.PrintWords
open Go.Proofs.Ytjlhbgkmebinjaa.Pure (foldO nat fd ps remV wholeV ofV crc16V crc15V)
attribute [local go_sem] max2_max min2_min max_of_two min_of_two

/-- 'Rem', its row's length and its answer under names of their own. -/
theorem rem_len (W L s R : Int) (A : Option Addr) (bl o c n : Nat) (l : List Int) (w : World) (h0 : 0 ≤ L) (h1 : L ≤ 4294967295) (hs0 : 0 ≤ s) (hs1 : s ≤ 4294967295) (hl : Row8 w A bl o l) (hb : Hid (∀ x ∈ l, 0 ≤ x ∧ x ≤ 255)) (hn : Hid (l.length = n)) (hR : Hid (remV W L s l = R)) :
    Calls Try.prog 9 #[.agg #[.int .i64 W, .int .u32 L], .int .u32 s, .slice A n c] w fun e w' => e = .returned (.int .u32 R) ∧ Below w.heap.size w w' := by
  obtain rfl := hn.out
  obtain rfl := hR.out
  exact rem_any W L s A bl o c l w h0 h1 hs0 hs1 hl hb.out

theorem bytes_take {l : List Int} (h : ∀ x ∈ l, 0 ≤ x ∧ x ≤ 255) (k : Nat) : ∀ x ∈ l.take k, 0 ≤ x ∧ x ≤ 255 := fun x hx => h x (List.mem_of_mem_take hx)
theorem bytes_drop {l : List Int} (h : ∀ x ∈ l, 0 ≤ x ∧ x ≤ 255) (k : Nat) : ∀ x ∈ l.drop k, 0 ≤ x ∧ x ≤ 255 := fun x hx => h x (List.mem_of_mem_drop hx)

set_option maxHeartbeats 2000000 in
theorem pieces_bad (W L s : Int) (A : Option Addr) (bl o c : Nat) (l : List Int) (x : Int) (w : World) (h0 : 0 ≤ L) (h1 : L ≤ 4294967295) (hs0 : 0 ≤ s) (hs1 : s ≤ 4294967295) (hl : Row8 w A bl o l) (hb : ∀ x ∈ l, 0 ≤ x ∧ x ≤ 255) (hW : W < 1 ∨ 31 < W) (hx0 : 0 ≤ x) (hx1 : x ≤ 255) :
    Calls Try.prog 3 #[.int .i64 W, .int .u32 L, .int .u32 s, .slice A l.length c, .int .u8 x] w fun e w' => e = .returned (.bool true) ∧ Below w.heap.size w w' := by
  have hlen := hl.1
  have HL := hid hl
  have HB := hid hb
  have hr : remV W L s l = 0 := by
    unfold remV
    rw [if_neg]
    intro h
    have := Pure.mayP_iff.1 h
    omega
  have HR := hid hr
  clear hl hb hr
  have hd : (decide (W < 1) = true) ∨ (decide (W < 1) = false ∧ decide (31 < W) = true) := by
    by_cases h : W < 1
    · exact .inl (by simpa using h)
    · exact .inr ⟨by simpa using h, by simp; omega⟩
  clear hW
  rcases hd with d1 | ⟨d1, d2⟩
  all_goals
    go_enter Try.func3, Try.ntmps3
    go_wp2_with fail
    have bk := Blk.new w #[.int .i64 W, .int .u32 L] PT
    have K0 := hid ((Below.refl w.heap.size w).alloc (Nat.le_refl _) (.cells #[.int .i64 W, .int .u32 L] PT))
    refine (live_any _).mono ?_
    rintro e w1 ⟨rfl, k1⟩
    have bk1 := bk.below k1 (by simp)
    have c0 := bk1.cell 0 (.int .i64 W) rfl
    have c1 := bk1.cell 1 (.int .u32 L) rfl
    have K1 := hid (K0.out.trans (k1.mono (by simp)))
    have HL1 := hid (HL.out.below K1.out)
    clear bk bk1 k1 K0
    go_wp2_with fail
    refine (rem_len W L s 0 _ bl o c _ l _ h0 h1 hs0 hs1 HL1.out HB (hid rfl) HR).mono ?_
    rintro e w2 ⟨rfl, k2⟩
    have K2 := hid (K1.out.trans (k2.mono K1.out.size))
    clear k2
    go_wp2_with fail
    go_ret
    exact ⟨rfl, K2.out⟩

set_option maxHeartbeats 4000000 in
theorem pieces_some (W L s : Int) (bl o c k : Nat) (l : List Int) (x : Int) (w : World) (h0 : 0 ≤ L) (h1 : L ≤ 4294967295) (hs0 : 0 ≤ s) (hs1 : s ≤ 4294967295) (hl : Row8 w (some ⟨bl, o, none⟩) bl o l) (hb : ∀ x ∈ l, 0 ≤ x ∧ x ≤ 255) (hW0 : 1 ≤ W) (hW1 : W ≤ 31) (hx0 : 0 ≤ x) (hx1 : x ≤ 255)
    (hc : l.length ≤ c) (hc2 : c ≤ maxLen) (hk : min x (l.length : Int) = k) (hck : ¬ c = k) :
    Calls Try.prog 3 #[.int .i64 W, .int .u32 L, .int .u32 s, .slice (some ⟨bl, o, none⟩) l.length c, .int .u8 x] w fun e w' => e = .returned (.bool true) ∧ Below w.heap.size w w' := by
  have hlen := hl.1
  unfold maxLen at hc2
  have hkl : k ≤ l.length := by omega
  have hR2 := Pure.remV_range W L s (l.take k)
  have hR : remV W L s l = remV W L (remV W L s (l.take k)) (l.drop k) := by
    rw [← Pure.remV_append W L s _ _ hs0, List.take_append_drop]
  have HBt := hid (bytes_take hb k)
  have HBd := hid (bytes_drop hb k)
  have HNt : Hid ((l.take k).length = k) := hid (by rw [List.length_take]; omega)
  have HNd : Hid ((l.drop k).length = l.length - k) := hid (by rw [List.length_drop])
  have HL := hid hl
  have HB := hid hb
  generalize hr2 : remV W L s (l.take k) = r2 at *
  generalize hr1 : remV W L s l = r at *
  have HR1 := hid hr1
  have HR2 := hid hr2
  have HR3 := hid hR.symm
  obtain ⟨hr20, hr21⟩ := hR2
  have d1 : decide (W < 1) = false := by simp; omega
  have d2 : decide (31 < W) = false := by simp; omega
  clear hl hb hR hr1 hr2
  have hk0 : (0 : Int) ≤ (k : Int) := by omega
  have hk1 : (k : Int) ≤ (l.length : Int) := by omega
  have hk2 : (k : Int) ≤ (c : Int) := by omega
  have hk3 : (l.length : Int) ≤ (c : Int) := by omega
  go_enter Try.func3, Try.ntmps3
  go_wp2_with fail
  have bk := Blk.new w #[.int .i64 W, .int .u32 L] PT
  have K0 := hid ((Below.refl w.heap.size w).alloc (Nat.le_refl _) (.cells #[.int .i64 W, .int .u32 L] PT))
  have c0 := bk.cell 0 (.int .i64 W) rfl
  have c1 := bk.cell 1 (.int .u32 L) rfl
  have HL1 := hid (HL.out.below K0.out)
  have HLt := hid (HL1.out.take k)
  have hlt : w.heap.size < (w.alloc (.cells #[.int .i64 W, .int .u32 L] PT)).heap.size := by simp
  clear bk
  generalize w.alloc (.cells #[.int .i64 W, .int .u32 L] PT) = w0 at *
  have HLd := hid (HL1.out.drop k)
  have KS := hid (fun w' => keepP (N := w0.heap.size) (w' := w') hlt c0 c1)
  have R0 := hid (Below.refl w0.heap.size w0)
  go_region_held3 (fun w' => Hid (Below w0.heap.size w0 w') ∧ w'.cell? ⟨w.heap.size, 0, none⟩ = some (.int .i64 W) ∧ w'.cell? ⟨w.heap.size, 1, none⟩ = some (.int .u32 L)) (first | exact KS.out _ (by assumption) | exact KS.out _ (ext_drew (by assumption)))
    (first | (go_at_call 8; refine (live_any _).mono ?_; rintro e w2 ⟨rfl, k2⟩; have hq := ext_next (by assumption) (Nat.le_refl _) k2; clear k2) | (go_at_call 9; (with_reducible refine (rem_len W L s r _ bl o _ l.length l _ h0 h1 hs0 hs1 (row_ext HL1 (by assumption)) HB (hid rfl) HR1).mono ?_); rintro e w2 ⟨rfl, k2⟩; have hq := ext_next (by assumption) (Nat.le_refl _) k2; clear k2) | (go_at_call 9; (with_reducible refine (rem_len W L s r2 _ bl o _ k (l.take k) _ h0 h1 hs0 hs1 (row_ext HLt (by assumption)) HBt HNt HR2).mono ?_); rintro e w2 ⟨rfl, k2⟩; have hq := ext_next (by assumption) (Nat.le_refl _) k2; clear k2) | (go_at_call 9; (with_reducible refine (rem_len W L r2 r _ bl (o + k) _ (l.length - k) (l.drop k) _ h0 h1 hr20 hr21 (row_ext HLd (by assumption)) HBd HNd HR3).mono ?_); rintro e w2 ⟨rfl, k2⟩; have hq := ext_next (by assumption) (Nat.le_refl _) k2; clear k2) | (go_at_call 9; trace_state; fail))
  all_goals
    go_wp2_with fail
    go_ret
    exact ⟨rfl, ext_end K0 (Nat.le_of_lt hlt) (by assumption)⟩

set_option maxHeartbeats 4000000 in
theorem pieces_full (W L s : Int) (bl o c k : Nat) (l : List Int) (x : Int) (w : World) (h0 : 0 ≤ L) (h1 : L ≤ 4294967295) (hs0 : 0 ≤ s) (hs1 : s ≤ 4294967295) (hl : Row8 w (some ⟨bl, o, none⟩) bl o l) (hb : ∀ x ∈ l, 0 ≤ x ∧ x ≤ 255) (hW0 : 1 ≤ W) (hW1 : W ≤ 31) (hx0 : 0 ≤ x) (hx1 : x ≤ 255)
    (hc : l.length ≤ c) (hc2 : c ≤ maxLen) (hk : min x (l.length : Int) = k) (hck : c = k) :
    Calls Try.prog 3 #[.int .i64 W, .int .u32 L, .int .u32 s, .slice (some ⟨bl, o, none⟩) l.length c, .int .u8 x] w fun e w' => e = .returned (.bool true) ∧ Below w.heap.size w w' := by
  have hlen := hl.1
  subst hck
  unfold maxLen at hc2
  have hkl : c ≤ l.length := by omega
  have hR2 := Pure.remV_range W L s (l.take c)
  have hR : remV W L s l = remV W L (remV W L s (l.take c)) (l.drop c) := by
    rw [← Pure.remV_append W L s _ _ hs0, List.take_append_drop]
  have HBt := hid (bytes_take hb c)
  have HBd := hid (bytes_drop hb c)
  have HNt : Hid ((l.take c).length = c) := hid (by rw [List.length_take]; omega)
  have HNd : Hid ((l.drop c).length = 0) := hid (by rw [List.length_drop]; omega)
  have HL := hid hl
  have HB := hid hb
  generalize hr2 : remV W L s (l.take c) = r2 at *
  generalize hr1 : remV W L s l = r at *
  have HR1 := hid hr1
  have HR2 := hid hr2
  have HR3 := hid hR.symm
  obtain ⟨hr20, hr21⟩ := hR2
  have d1 : decide (W < 1) = false := by simp; omega
  have d2 : decide (31 < W) = false := by simp; omega
  clear hl hb hR hr1 hr2
  have hk0 : (0 : Int) ≤ (c : Int) := by omega
  have hk1 : (c : Int) ≤ (l.length : Int) := by omega
  have hk2 : (c : Int) ≤ (c : Int) := by omega
  have hk3 : (l.length : Int) ≤ (c : Int) := by omega
  go_enter Try.func3, Try.ntmps3
  go_wp2_with fail
  have bk := Blk.new w #[.int .i64 W, .int .u32 L] PT
  have K0 := hid ((Below.refl w.heap.size w).alloc (Nat.le_refl _) (.cells #[.int .i64 W, .int .u32 L] PT))
  have c0 := bk.cell 0 (.int .i64 W) rfl
  have c1 := bk.cell 1 (.int .u32 L) rfl
  have HL1 := hid (HL.out.below K0.out)
  have HLt := hid (HL1.out.take c)
  have hlt : w.heap.size < (w.alloc (.cells #[.int .i64 W, .int .u32 L] PT)).heap.size := by simp
  clear bk
  generalize w.alloc (.cells #[.int .i64 W, .int .u32 L] PT) = w0 at *
  have HLd : Hid (Row8 w0 (some ⟨bl, o, none⟩) bl o (l.drop c)) := by rw [List.drop_eq_nil_of_le hc]; exact Row8.nil
  have KS := hid (fun w' => keepP (N := w0.heap.size) (w' := w') hlt c0 c1)
  have R0 := hid (Below.refl w0.heap.size w0)
  go_region_held3 (fun w' => Hid (Below w0.heap.size w0 w') ∧ w'.cell? ⟨w.heap.size, 0, none⟩ = some (.int .i64 W) ∧ w'.cell? ⟨w.heap.size, 1, none⟩ = some (.int .u32 L)) (first | exact KS.out _ (by assumption) | exact KS.out _ (ext_drew (by assumption)))
    (first | (go_at_call 8; refine (live_any _).mono ?_; rintro e w2 ⟨rfl, k2⟩; have hq := ext_next (by assumption) (Nat.le_refl _) k2; clear k2) | (go_at_call 9; (with_reducible refine (rem_len W L s r _ bl o _ l.length l _ h0 h1 hs0 hs1 (row_ext HL1 (by assumption)) HB (hid rfl) HR1).mono ?_); rintro e w2 ⟨rfl, k2⟩; have hq := ext_next (by assumption) (Nat.le_refl _) k2; clear k2) | (go_at_call 9; (with_reducible refine (rem_len W L s r2 _ bl o _ c (l.take c) _ h0 h1 hs0 hs1 (row_ext HLt (by assumption)) HBt HNt HR2).mono ?_); rintro e w2 ⟨rfl, k2⟩; have hq := ext_next (by assumption) (Nat.le_refl _) k2; clear k2) | (go_at_call 9; (with_reducible refine (rem_len W L r2 r _ bl o _ 0 (l.drop c) _ h0 h1 hr20 hr21 (row_ext HLd (by assumption)) HBd HNd HR3).mono ?_); rintro e w2 ⟨rfl, k2⟩; have hq := ext_next (by assumption) (Nat.le_refl _) k2; clear k2) | (go_at_call 9; trace_state; fail))
  all_goals
    go_wp2_with fail
    go_ret
    exact ⟨rfl, ext_end K0 (Nat.le_of_lt hlt) (by assumption)⟩

set_option maxHeartbeats 4000000 in
theorem pieces_empty (W L s : Int) (A : Option Addr) (c : Nat) (x : Int) (w : World) (h0 : 0 ≤ L) (h1 : L ≤ 4294967295) (hs0 : 0 ≤ s) (hs1 : s ≤ 4294967295) (hW0 : 1 ≤ W) (hW1 : W ≤ 31) (hx0 : 0 ≤ x) (hx1 : x ≤ 255)
    (hc2 : c ≤ maxLen) (hn : (A = none ∧ c = 0) ∨ ∃ y, A = some y) :
    Calls Try.prog 3 #[.int .i64 W, .int .u32 L, .int .u32 s, .slice A 0 c, .int .u8 x] w fun e w' => e = .returned (.bool true) ∧ Below w.heap.size w w' := by
  unfold maxLen at hc2
  have hr1 := Pure.remV_range W L s []
  have hr : remV W L (remV W L s []) [] = remV W L s [] := by
    rw [← Pure.remV_append W L s _ _ hs0, List.append_nil]
  generalize hrr : remV W L s [] = r at *
  have HR1 := hid hrr
  have HR3 := hid hr
  obtain ⟨hr0, hr2⟩ := hr1
  have HBn : Hid (∀ x ∈ ([] : List Int), 0 ≤ x ∧ x ≤ 255) := hid (by simp)
  have d1 : decide (W < 1) = false := by simp; omega
  have d2 : decide (31 < W) = false := by simp; omega
  have hm : min x 0 = 0 := by omega
  clear hrr hr
  have hcc : (0 : Int) ≤ (c : Int) := by omega
  have hcase : (A = none ∧ c = 0) ∨ (∃ y, A = some y ∧ c = 0) ∨ (∃ y, A = some y ∧ ¬ c = 0) := by
    rcases hn with h | ⟨y, rfl⟩
    · exact .inl h
    · by_cases h : c = 0
      · exact .inr (.inl ⟨y, rfl, h⟩)
      · exact .inr (.inr ⟨y, rfl, h⟩)
  clear hn
  rcases hcase with ⟨rfl, rfl⟩ | ⟨y, rfl, rfl⟩ | ⟨y, rfl, hc0⟩
  all_goals
    go_enter Try.func3, Try.ntmps3
    go_wp2_with fail
    have bk := Blk.new w #[.int .i64 W, .int .u32 L] PT
    have K0 := hid ((Below.refl w.heap.size w).alloc (Nat.le_refl _) (.cells #[.int .i64 W, .int .u32 L] PT))
    have c0 := bk.cell 0 (.int .i64 W) rfl
    have c1 := bk.cell 1 (.int .u32 L) rfl
    have hlt : w.heap.size < (w.alloc (.cells #[.int .i64 W, .int .u32 L] PT)).heap.size := by simp
    clear bk
    generalize w.alloc (.cells #[.int .i64 W, .int .u32 L] PT) = w0 at *
    have KS := hid (fun w' => keepP (N := w0.heap.size) (w' := w') hlt c0 c1)
    have R0 := hid (Below.refl w0.heap.size w0)
    go_region_held3 (fun w' => Hid (Below w0.heap.size w0 w') ∧ w'.cell? ⟨w.heap.size, 0, none⟩ = some (.int .i64 W) ∧ w'.cell? ⟨w.heap.size, 1, none⟩ = some (.int .u32 L)) (first | exact KS.out _ (by assumption) | exact KS.out _ (ext_drew (by assumption)))
      (first | (go_at_call 8; refine (live_any _).mono ?_; rintro e w2 ⟨rfl, k2⟩; have hq := ext_next (by assumption) (Nat.le_refl _) k2; clear k2) | (go_at_call 9; (with_reducible refine (rem_len W L s r _ 0 0 _ 0 [] _ h0 h1 hs0 hs1 Row8.nil HBn (hid rfl) HR1).mono ?_); rintro e w2 ⟨rfl, k2⟩; have hq := ext_next (by assumption) (Nat.le_refl _) k2; clear k2) | (go_at_call 9; (with_reducible refine (rem_len W L r r _ 0 0 _ 0 [] _ h0 h1 hr0 hr2 Row8.nil HBn (hid rfl) HR3).mono ?_); rintro e w2 ⟨rfl, k2⟩; have hq := ext_next (by assumption) (Nat.le_refl _) k2; clear k2) | (go_at_call 9; trace_state; fail))
    all_goals
      go_wp2_with fail
      go_ret
      exact ⟨rfl, ext_end K0 (Nat.le_of_lt hlt) (by assumption)⟩

theorem pieces_entry (v0 v1 v2 v3 v4 : Value) (W : World) {base : Nat} (h0 : Rd Try.prog W 3 v0.cells.toList) (o0 : Value.okWide Try.prog W .any base 3 v0)
    (h1 : Rd Try.prog W 22 v1.cells.toList) (o1 : Value.okWide Try.prog W .any base 22 v1)
    (h2 : Rd Try.prog W 22 v2.cells.toList) (o2 : Value.okWide Try.prog W .any base 22 v2)
    (h3 : Rd Try.prog W 23 v3.cells.toList) (o3 : Value.okWide Try.prog W .any base 23 v3)
    (h4 : Rd Try.prog W 5 v4.cells.toList) (o4 : Value.okWide Try.prog W .any base 5 v4) :
    Calls Try.prog 3 #[v0, v1, v2, v3, v4] W fun e w' => e = .returned (.bool true) ∧ Below W.heap.size W w' := by
  obtain ⟨wd, rfl, _⟩ := opn_int Try.underlying3 h0 o0
  obtain ⟨lw, rfl, wl⟩ := opn_int Try.underlying22 h1 o1
  obtain ⟨s, rfl, ws⟩ := opn_int Try.underlying22 h2 o2
  obtain ⟨A, bl, o, l, c, rfl, hlc, hcm, _, hn, hrow, hb⟩ := opn_bytes Try.underlying23 Try.underlying5 (by kernel_rfl) (by kernel_rfl) h3 o3
  obtain ⟨x, rfl, wx⟩ := opn_int Try.underlying5 h4 o4
  have hl := wf_u32 wl
  have hs := wf_u32 ws
  have hx := wf_u8 wx
  by_cases hW : wd < 1 ∨ 31 < wd
  · exact pieces_bad wd lw s A bl o c l x W hl.1 hl.2 hs.1 hs.2 hrow hb hW hx.1 hx.2
  · by_cases hl0 : 0 < l.length
    · obtain ⟨rfl, _⟩ := hrow.2.1 hl0
      obtain ⟨k, hk⟩ : ∃ k : Nat, min x (l.length : Int) = k := ⟨(min x (l.length : Int)).toNat, by omega⟩
      by_cases hck : c = k
      · exact pieces_full wd lw s bl o c k l x W hl.1 hl.2 hs.1 hs.2 hrow hb (by omega) (by omega) hx.1 hx.2 hlc hcm hk hck
      · exact pieces_some wd lw s bl o c k l x W hl.1 hl.2 hs.1 hs.2 hrow hb (by omega) (by omega) hx.1 hx.2 hlc hcm hk hck
    · have e : l.length = 0 := by omega
      rw [e]
      refine pieces_empty wd lw s A c x W hl.1 hl.2 hs.1 hs.2 (by omega) (by omega) hx.1 hx.2 hcm ?_
      cases A with
      | none => exact .inl ⟨rfl, hn rfl⟩
      | some y => exact .inr ⟨y, rfl⟩

end Go.Proofs.Ytjlhbgkmebinjaa
