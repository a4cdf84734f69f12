/- A receiver of blocks. -/
import Derived.Test.YtpdomjinhbnmfaaSd3
set_option linter.unusedSimpArgs false
set_option linter.unusedVariables false
set_option linter.unnecessarySimpa false
set_option maxRecDepth 100000
namespace Go.Proofs.Ytpdomjinhbnmfaa
open Go.RowKit Go.Proofs.YtpdomjinhbnmfaaW.PrintWords
attribute [local go_sem] max2_max min2_min max_of_two min_of_two alL_v bdL_none bdL_one bxL_ln lnguard_eq lnguard_ne lnbin_eq lnbin_ne
attribute [local go_sem ↓] ldL_in bxL_in stL_in alL_in bdL_in cvS_in
attribute [local go_sem] gUpon gStill
attribute [local go_sem ↓] ap8_in

abbrev MT : TypeId := 84
structure Td where
  size : Int
  n : Int
  b : List Int
  last : Bool
def Td.cells (t : Td) (u : Value) : Array Value := #[.int .i64 t.size, .int .i64 t.n, u, .bool t.last]
def TdAt (w : World) (B g : Nat) (t : Td) : Prop := ∃ u, Blk w g (t.cells u) MT ∧ Own8 w B u t.b ∧ Byt t.b ∧ t.b.length ≤ 100
theorem TdAt.ext {a w : World} {B g : Nat} {t : Td} (h : TdAt a B g t) (k : Ext a w) : TdAt w B g t := by
  obtain ⟨u, h1, h2, h3⟩ := h
  exact ⟨u, k.blk h1, h2.below k, h3⟩
/-- But for one block, and rows of bytes behind a place, all stays. -/
structure O8 (B g : Nat) (w w' : World) : Prop where
  below : Below B w w'
  keep : ∀ k cs t, Blk w k cs t → t ≠ U8 → k ≠ g → Blk w' k cs t
theorem O8.refl (B g : Nat) (w : World) : O8 B g w w := ⟨Below.refl _ _, fun _ _ _ h _ _ => h⟩
theorem O8.of_ext {B g : Nat} {w w' : World} (h : Ext w w') (hB : B ≤ w.heap.size) : O8 B g w w' := ⟨h.mono hB, fun _ _ _ hb _ _ => h.blk hb⟩
theorem O8.of_only {B g : Nat} {w w' : World} (h : Only g w w') (hB : B ≤ w.heap.size) (hg : B ≤ g) : O8 B g w w' := ⟨h.below hg hB, fun _ _ _ hb _ hk => hb.kept h hk⟩
theorem O8.trans {B g : Nat} {a b c : World} (h : O8 B g a b) (k : O8 B g b c) : O8 B g a c := ⟨h.below.trans k.below, fun i cs t hb h1 h2 => k.keep i cs t (h.keep i cs t hb h1 h2) h1 h2⟩
theorem O8.of_app {B g : Nat} {w w' : World} (h : Below B w w') (k : Keep8 w w') : O8 B g w w' := ⟨h, fun _ _ _ hb ht _ => k.blk hb ht⟩
theorem newtake_no (n : Int) (w : World) (hm : mayN n = false) : Calls Try.prog 19 #[.int .i64 n] w fun e w' => e = .returned (.tuple #[.pointer none, .int .i64 2]) ∧ w = w' := by
  have MC := hid (fun w => may_c n w)
  rw [hm] at MC
  go_enter Try.func19, Try.ntmps19
  go_wp2_with fail
  (with_reducible refine (MC.out _).mono ?_); rintro e w1 ⟨rfl, rfl⟩
  go_wp2_with fail
  go_ret2
  exact ⟨rfl, rfl⟩
theorem newtake_c (n : Int) (w : World) (hm : mayN n = true) : Calls Try.prog 19 #[.int .i64 n] w fun e w' => ∃ g, e = .returned (.tuple #[.pointer (some ⟨g, 0, none⟩), .int .i64 0]) ∧ TdAt w' w.heap.size g ⟨n, 0, [], false⟩ ∧ w.heap.size ≤ g ∧ Ext w w' := by
  have MC := hid (fun w => may_c n w)
  rw [hm] at MC
  go_enter Try.func19, Try.ntmps19
  go_wp2_with fail
  (with_reducible refine (MC.out _).mono ?_); rintro e w1 ⟨rfl, rfl⟩
  go_wp2_with fail
  go_ret2
  exact ⟨_, rfl, ⟨.slice none 0 0, Blk.new w _ MT, Own8.nil _ _, Byt.nil, by simp⟩, Nat.le_refl _, (Ext.refl w).alloc⟩
theorem whole_nil (w : World) : Calls Try.prog 23 #[.pointer none] w fun e w' => e = .returned (.bool false) ∧ w = w' := by
  go_enter Try.func23, Try.ntmps23
  go_wp2_with fail
  go_ret
  exact ⟨rfl, rfl⟩
theorem whole_c (g : Nat) (q : Bool) (w : World) (h : w.cell? ⟨g, 3, none⟩ = some (.bool q)) : Calls Try.prog 23 #[.pointer (some ⟨g, 0, none⟩)] w fun e w' => e = .returned (.bool q) ∧ w = w' := by
  go_enter Try.func23, Try.ntmps23
  go_wp2_with fail
  go_ret
  exact ⟨rfl, rfl⟩
theorem tack_nil (w : World) : Calls Try.prog 22 #[.pointer none] w fun e w' => e = .returned (.tuple #[.int .i64 0, .int .i64 0]) ∧ w = w' := by
  go_enter Try.func22, Try.ntmps22
  go_wp2_with fail
  go_ret2
  exact ⟨rfl, rfl⟩
theorem put_nil (x : Ln) (w : World) : Calls Try.prog 20 #[.pointer none, x.val] w fun e w' => e = .returned (.tuple #[.bool false, .int .i64 134217762]) ∧ Ext w w' := by
  have K0 : Ext w (w.alloc (.cells x.cells LT)) := (by repeat (first | with_reducible exact Ext.refl _ | with_reducible assumption | with_reducible apply Ext.alloc | with_reducible apply Ext.drew | with_reducible apply Ext.drewN | (with_reducible refine Ext.set' ?_ (by first | omega | (simp only [World.size_alloc, World.size_setCell]; omega))) | (with_reducible refine Ext.trans ?_ (by with_reducible assumption)) | (with_reducible refine Ext.only ?_ (by with_reducible assumption) (by omega))))
  go_enter Try.func20, Try.ntmps20
  go_wp2_with fail
  go_ret2
  exact ⟨rfl, K0⟩
theorem tend_nil (n : Int) (w : World) : Calls Try.prog 21 #[.pointer none, .int .i64 n] w fun e w' => e = .returned (.tuple #[.slice none 0 0, .int .i64 134217762]) ∧ w = w' := by
  go_enter Try.func21, Try.ntmps21
  go_wp2_with fail
  (with_reducible refine (whole_nil _).mono ?_); rintro e w1 ⟨rfl, rfl⟩
  go_wp2_with fail
  go_ret2
  exact ⟨rfl, rfl⟩
def Td.put (t : Td) (x : Ln) : Td × Bool × Int :=
  if t.last = true then (t, false, 134217762) else if x.at 0 % 128 = 0 ∨ t.size < x.at 0 % 128 then (t, false, 84148227)
  else if x.at 0 % 128 = t.n + 1 then (if 70 ≤ t.b.length then (t, false, 101122066) else (⟨t.size, t.n + 1, t.b ++ x.l.drop 1, decide (128 ≤ x.at 0)⟩, decide (128 ≤ x.at 0) || (x.at 0 % 128 == t.size), 0))
  else (t, decide (128 ≤ x.at 0) || (x.at 0 % 128 == t.size), 0)

theorem bt_drop {l : List Int} (h : Byt l) (k : Nat) : Byt (l.drop k) := fun x hx => h x (List.mem_of_mem_drop hx)
theorem bt_app {l m : List Int} (h : Byt l) (k : Byt m) : Byt (l ++ m) := fun x hx => by
  rcases List.mem_append.1 hx with h' | h'
  · exact h x h'
  · exact k x h'
theorem own8_form {w : World} {B : Nat} {v : Value} {l : List Int} (h : Own8 w B v l) : ∃ A c, v = .slice A l.length c := by
  rcases h.2 with ⟨rfl, h0⟩ | ⟨g, cap, cur, rfl, _⟩
  · exact ⟨none, 0, by rw [h0]⟩
  · exact ⟨_, _, rfl⟩
set_option maxHeartbeats 4000000 in
theorem put_c (B g : Nat) (t : Td) (x : Ln) (w : World) (h : TdAt w B g t) (hx : Byt x.l) (hB : B ≤ g) (hBw : B ≤ w.heap.size) (hn : 0 ≤ t.n ∧ t.n ≤ 1000) :
    Calls Try.prog 20 #[.pointer (some ⟨g, 0, none⟩), x.val] w fun e w' => e = .returned (.tuple #[.bool (t.put x).2.1, .int .i64 (t.put x).2.2]) ∧ TdAt w' B g (t.put x).1 ∧ O8 B g w w' := by
  obtain ⟨u, hb, ho, hbt, hlen⟩ := h
  have hx0 := hx (x.at 0) (by
    show x.l.getD 0 0 ∈ x.l
    rw [getD_at (by rw [x.h]; omega)]
    exact List.getElem_mem _)
  have K0 : Ext w (w.alloc (.cells x.cells LT)) := (by repeat (first | with_reducible exact Ext.refl _ | with_reducible assumption | with_reducible apply Ext.alloc | with_reducible apply Ext.drew | with_reducible apply Ext.drewN | (with_reducible refine Ext.set' ?_ (by first | omega | (simp only [World.size_alloc, World.size_setCell]; omega))) | (with_reducible refine Ext.trans ?_ (by with_reducible assumption)) | (with_reducible refine Ext.only ?_ (by with_reducible assumption) (by omega))))
  have HL := hid (Blk.new w x.cells LT)
  have hw1 : Hid (B ≤ (w.alloc (.cells x.cells LT)).heap.size) := hid (Nat.le_trans hBw K0.le)
  have hb1 := K0.blk hb
  have HO := hid (ho.below K0)
  have OE := hid (O8.of_ext (g := g) K0 hBw)
  have HX := hid hx
  obtain ⟨P, hP⟩ : ∃ P, Is (t.put x) P := ⟨_, Is.refl _⟩
  rw [hP.eq]
  have hPE := hP.eq
  unfold Td.put at hPE
  generalize hw1 : (w.alloc (.cells x.cells LT)) = w1 at *
  have c3 : w1.cell? ⟨g, 3, none⟩ = some (.bool t.last) := hb1.cell 3 _ rfl
  have HB1 := hid hb1
  have HTB := hid (And.intro hbt hlen)
  clear ho hb hbt hlen K0 hb1 hx hP
  by_cases q1 : t.last = true
  · rw [if_pos q1] at hPE
    subst hPE
    rw [q1] at c3
    clear q1
    go_enter Try.func20, Try.ntmps20
    go_wp2_with fail
    go_ret2
    exact ⟨rfl, ⟨u, HB1.out, HO.out, HTB.out⟩, OE.out⟩
  rw [if_neg q1] at hPE
  have q1' : t.last = false := by simpa using q1
  rw [q1'] at c3
  obtain ⟨S, hS⟩ : ∃ S, x.at 0 % 128 = S := ⟨_, rfl⟩
  obtain ⟨Q, hQ⟩ : ∃ Q, decide (128 ≤ x.at 0) = Q := ⟨_, rfl⟩
  have hS0 : 0 ≤ S ∧ S ≤ 127 := by omega
  have HW1 := hid (show B ≤ w1.heap.size from by have := HL.out.lt; omega)
  have US := hid (unseg_c x w1 HX.out)
  rw [hS, hQ] at US
  have ld1 := ldL_blk HL.out
  obtain ⟨dd, hdd⟩ : ∃ dd, Is (x.l.drop 1) dd := ⟨_, Is.refl _⟩
  rw [hS, hQ, hdd.eq] at hPE
  rw [hdd.eq] at US
  have HDD := hid (show Byt dd ∧ dd.length = 7 from by rw [← hdd.eq]; exact ⟨bt_drop HX.out 1, by rw [List.length_drop, x.h]⟩)
  clear q1 hx0 hS hQ HL
  by_cases q2 : S = 0
  · rw [if_pos (.inl q2)] at hPE
    subst hPE
    have e1 : (S == 0) = true := by simpa using q2
    clear q2
    go_enter Try.func20, Try.ntmps20
    go_wp2_with fail
    (with_reducible refine (US.out).mono ?_); rintro e w2 ⟨u2, rfl, ho2, k2⟩
    have HB2 := hid (Ext.blk k2 HB1.out)
    have HO2 := hid (HO.out.below k2)
    have OE2 := hid (OE.out.trans (O8.of_ext k2 HW1.out))
    have HU2 := hid (Bs.own ho2 HDD.out.1)
    have HBw2 := hid (Nat.le_trans HW1.out k2.le)
    have c0 : w2.cell? ⟨g, 0, none⟩ = some (.int .i64 t.size) := HB2.out.cell 0 _ rfl
    have c1 : w2.cell? ⟨g, 1, none⟩ = some (.int .i64 t.n) := HB2.out.cell 1 _ rfl
    clear ho2 k2
    go_wp2_with fail
    go_ret2
    exact ⟨rfl, ⟨_, HB2.out, HO2.out, HTB.out⟩, OE2.out⟩

  have e1 : (S == 0) = false := by simpa using q2
  by_cases q3 : t.size < S
  · rw [if_pos (.inr q3)] at hPE
    subst hPE
    have e2 : decide (t.size < S) = true := by simpa using q3
    clear q2 q3
    go_enter Try.func20, Try.ntmps20
    go_wp2_with fail
    (with_reducible refine (US.out).mono ?_); rintro e w2 ⟨u2, rfl, ho2, k2⟩
    have HB2 := hid (Ext.blk k2 HB1.out)
    have HO2 := hid (HO.out.below k2)
    have OE2 := hid (OE.out.trans (O8.of_ext k2 HW1.out))
    have HU2 := hid (Bs.own ho2 HDD.out.1)
    have HBw2 := hid (Nat.le_trans HW1.out k2.le)
    have c0 : w2.cell? ⟨g, 0, none⟩ = some (.int .i64 t.size) := HB2.out.cell 0 _ rfl
    have c1 : w2.cell? ⟨g, 1, none⟩ = some (.int .i64 t.n) := HB2.out.cell 1 _ rfl
    clear ho2 k2
    go_wp2_with fail
    go_ret2
    exact ⟨rfl, ⟨_, HB2.out, HO2.out, HTB.out⟩, OE2.out⟩

  rw [if_neg (by rintro (h | h); exact q2 h; exact q3 h)] at hPE
  have e2 : decide (t.size < S) = false := by simpa using q3
  have wn : IntKind.i64.wrap (t.n + 1) = t.n + 1 := IntWalk.i64_in _ (by omega)
  clear q2 q3
  by_cases q4 : S = t.n + 1
  · rw [if_pos q4] at hPE
    have e3 : (S == t.n + 1) = true := by simpa using q4
    clear q4
    by_cases q5 : 70 ≤ t.b.length
    · rw [if_pos q5] at hPE
      subst hPE
      have e4 : decide (70 ≤ (t.b.length : Int)) = true := by simp; omega
      clear q5
      go_enter Try.func20, Try.ntmps20
      go_wp2_with fail
      (with_reducible refine (US.out).mono ?_); rintro e w2 ⟨u2, rfl, ho2, k2⟩
      have HB2 := hid (Ext.blk k2 HB1.out)
      have HO2 := hid (HO.out.below k2)
      have OE2 := hid (OE.out.trans (O8.of_ext k2 HW1.out))
      have HU2 := hid (Bs.own ho2 HDD.out.1)
      have HBw2 := hid (Nat.le_trans HW1.out k2.le)
      have c0 : w2.cell? ⟨g, 0, none⟩ = some (.int .i64 t.size) := HB2.out.cell 0 _ rfl
      have c1 : w2.cell? ⟨g, 1, none⟩ = some (.int .i64 t.n) := HB2.out.cell 1 _ rfl
      clear ho2 k2
      obtain ⟨A1, z1, hv1⟩ := own8_form HO2.out
      subst hv1
      have c2 : w2.cell? ⟨g, 2, none⟩ = some (.slice A1 t.b.length z1) := HB2.out.cell 2 _ rfl
      obtain ⟨A2, z2, hv2⟩ := HU2.out.form
      subst hv2
      go_wp2_with fail
      go_ret2
      exact ⟨rfl, ⟨_, HB2.out, HO2.out, HTB.out⟩, OE2.out⟩

    · rw [if_neg q5] at hPE
      obtain ⟨nb, hnb⟩ : ∃ nb, Is (t.b ++ dd) nb := ⟨_, Is.refl _⟩
      rw [hnb.eq] at hPE
      subst hPE
      have e4 : decide (70 ≤ (t.b.length : Int)) = false := by simp; omega
      cases Q
      · go_enter Try.func20, Try.ntmps20
        go_wp2_with fail
        (with_reducible refine (US.out).mono ?_); rintro e w2 ⟨u2, rfl, ho2, k2⟩
        have HB2 := hid (Ext.blk k2 HB1.out)
        have HO2 := hid (HO.out.below k2)
        have OE2 := hid (OE.out.trans (O8.of_ext k2 HW1.out))
        have HU2 := hid (Bs.own ho2 HDD.out.1)
        have HBw2 := hid (Nat.le_trans HW1.out k2.le)
        have c0 : w2.cell? ⟨g, 0, none⟩ = some (.int .i64 t.size) := HB2.out.cell 0 _ rfl
        have c1 : w2.cell? ⟨g, 1, none⟩ = some (.int .i64 t.n) := HB2.out.cell 1 _ rfl
        clear ho2 k2
        obtain ⟨A1, z1, hv1⟩ := own8_form HO2.out
        subst hv1
        have c2 : w2.cell? ⟨g, 2, none⟩ = some (.slice A1 t.b.length z1) := HB2.out.cell 2 _ rfl
        obtain ⟨A2, z2, hv2⟩ := HU2.out.form
        subst hv2
        have hl7 : t.b.length + dd.length ≤ 140737488355328 := by have := HTB.out.2; have := HDD.out.2; omega
        go_wp2_with (at_builtin; go_must (refine app8r rfl (.tmp 52) (.tmp 53) rfl B rfl rfl HU2.out HO2.out hl7 HBw2.out ?_); intro v7 w7 o7 k7 kk7; rw [hnb.eq] at o7; have HB7 := hid (kk7.blk HB2.out (by decide)); have HO7 := hid o7; have OE7 := hid (OE2.out.trans (O8.of_app (g := g) k7 kk7)); have c27 : w7.cell? ⟨g, 2, none⟩ = some (.slice A1 t.b.length z1) := HB7.out.cell 2 _ rfl; have z27 := HB7.out.free 2; have HW7 := hid (show B ≤ w7.heap.size from Nat.le_trans HBw2.out k7.size); obtain ⟨A7, z7, hv7⟩ := own8_form o7; subst hv7; have HD7 := hid ((HB7.out.set 2 (.slice A7 nb.length z7)).set 1 (.int .i64 (t.n + 1)) |>.set 3 (.bool false)); have OD7 := hid ((((Only.refl g w7).set 2 (.slice A7 nb.length z7)).set 1 (.int .i64 (t.n + 1))).set 3 (.bool false)); have c17 := (HB7.out.set 2 (.slice A7 nb.length z7)).cell 1 (.int .i64 t.n) rfl; have z17 := (HB7.out.set 2 (.slice A7 nb.length z7)).free 1; have c37 := ((HB7.out.set 2 (.slice A7 nb.length z7)).set 1 (.int .i64 (t.n + 1))).cell 3 (.bool t.last) rfl; have z37 := ((HB7.out.set 2 (.slice A7 nb.length z7)).set 1 (.int .i64 (t.n + 1))).free 3; have c07 := ((((HB7.out.set 2 (.slice A7 nb.length z7)).set 1 (.int .i64 (t.n + 1))).set 3 (.bool false))).cell 0 (.int .i64 t.size) rfl; clear o7 k7 kk7)
        go_ret2
        refine ⟨rfl, ⟨_, HD7.out, ?_, ?_, ?_⟩, OE7.out.trans (O8.of_only OD7.out HW7.out hB)⟩
        · exact ((HO7.out.far HB7.out (by decide)).far (HB7.out.set 2 _) (by decide)).far ((HB7.out.set 2 _).set 1 _) (by decide)
        · rw [← hnb.eq]; exact bt_app HTB.out.1 HDD.out.1
        · rw [← hnb.eq, List.length_append, HDD.out.2]; omega

      · go_enter Try.func20, Try.ntmps20
        go_wp2_with fail
        (with_reducible refine (US.out).mono ?_); rintro e w2 ⟨u2, rfl, ho2, k2⟩
        have HB2 := hid (Ext.blk k2 HB1.out)
        have HO2 := hid (HO.out.below k2)
        have OE2 := hid (OE.out.trans (O8.of_ext k2 HW1.out))
        have HU2 := hid (Bs.own ho2 HDD.out.1)
        have HBw2 := hid (Nat.le_trans HW1.out k2.le)
        have c0 : w2.cell? ⟨g, 0, none⟩ = some (.int .i64 t.size) := HB2.out.cell 0 _ rfl
        have c1 : w2.cell? ⟨g, 1, none⟩ = some (.int .i64 t.n) := HB2.out.cell 1 _ rfl
        clear ho2 k2
        obtain ⟨A1, z1, hv1⟩ := own8_form HO2.out
        subst hv1
        have c2 : w2.cell? ⟨g, 2, none⟩ = some (.slice A1 t.b.length z1) := HB2.out.cell 2 _ rfl
        obtain ⟨A2, z2, hv2⟩ := HU2.out.form
        subst hv2
        have hl7 : t.b.length + dd.length ≤ 140737488355328 := by have := HTB.out.2; have := HDD.out.2; omega
        go_wp2_with (at_builtin; go_must (refine app8r rfl (.tmp 52) (.tmp 53) rfl B rfl rfl HU2.out HO2.out hl7 HBw2.out ?_); intro v7 w7 o7 k7 kk7; rw [hnb.eq] at o7; have HB7 := hid (kk7.blk HB2.out (by decide)); have HO7 := hid o7; have OE7 := hid (OE2.out.trans (O8.of_app (g := g) k7 kk7)); have c27 : w7.cell? ⟨g, 2, none⟩ = some (.slice A1 t.b.length z1) := HB7.out.cell 2 _ rfl; have z27 := HB7.out.free 2; have HW7 := hid (show B ≤ w7.heap.size from Nat.le_trans HBw2.out k7.size); obtain ⟨A7, z7, hv7⟩ := own8_form o7; subst hv7; have HD7 := hid ((HB7.out.set 2 (.slice A7 nb.length z7)).set 1 (.int .i64 (t.n + 1)) |>.set 3 (.bool true)); have OD7 := hid ((((Only.refl g w7).set 2 (.slice A7 nb.length z7)).set 1 (.int .i64 (t.n + 1))).set 3 (.bool true)); have c17 := (HB7.out.set 2 (.slice A7 nb.length z7)).cell 1 (.int .i64 t.n) rfl; have z17 := (HB7.out.set 2 (.slice A7 nb.length z7)).free 1; have c37 := ((HB7.out.set 2 (.slice A7 nb.length z7)).set 1 (.int .i64 (t.n + 1))).cell 3 (.bool t.last) rfl; have z37 := ((HB7.out.set 2 (.slice A7 nb.length z7)).set 1 (.int .i64 (t.n + 1))).free 3; have c07 := ((((HB7.out.set 2 (.slice A7 nb.length z7)).set 1 (.int .i64 (t.n + 1))).set 3 (.bool true))).cell 0 (.int .i64 t.size) rfl; clear o7 k7 kk7)
        go_ret2
        refine ⟨rfl, ⟨_, HD7.out, ?_, ?_, ?_⟩, OE7.out.trans (O8.of_only OD7.out HW7.out hB)⟩
        · exact ((HO7.out.far HB7.out (by decide)).far (HB7.out.set 2 _) (by decide)).far ((HB7.out.set 2 _).set 1 _) (by decide)
        · rw [← hnb.eq]; exact bt_app HTB.out.1 HDD.out.1
        · rw [← hnb.eq, List.length_append, HDD.out.2]; omega

  · rw [if_neg q4] at hPE
    subst hPE
    have e3 : (S == t.n + 1) = false := by simpa using q4
    clear q4
    cases Q
    · go_enter Try.func20, Try.ntmps20
      go_wp2_with fail
      (with_reducible refine (US.out).mono ?_); rintro e w2 ⟨u2, rfl, ho2, k2⟩
      have HB2 := hid (Ext.blk k2 HB1.out)
      have HO2 := hid (HO.out.below k2)
      have OE2 := hid (OE.out.trans (O8.of_ext k2 HW1.out))
      have HU2 := hid (Bs.own ho2 HDD.out.1)
      have HBw2 := hid (Nat.le_trans HW1.out k2.le)
      have c0 : w2.cell? ⟨g, 0, none⟩ = some (.int .i64 t.size) := HB2.out.cell 0 _ rfl
      have c1 : w2.cell? ⟨g, 1, none⟩ = some (.int .i64 t.n) := HB2.out.cell 1 _ rfl
      clear ho2 k2
      go_wp2_with fail
      go_ret2
      exact ⟨rfl, ⟨_, HB2.out, HO2.out, HTB.out⟩, OE2.out⟩

    · go_enter Try.func20, Try.ntmps20
      go_wp2_with fail
      (with_reducible refine (US.out).mono ?_); rintro e w2 ⟨u2, rfl, ho2, k2⟩
      have HB2 := hid (Ext.blk k2 HB1.out)
      have HO2 := hid (HO.out.below k2)
      have OE2 := hid (OE.out.trans (O8.of_ext k2 HW1.out))
      have HU2 := hid (Bs.own ho2 HDD.out.1)
      have HBw2 := hid (Nat.le_trans HW1.out k2.le)
      have c0 : w2.cell? ⟨g, 0, none⟩ = some (.int .i64 t.size) := HB2.out.cell 0 _ rfl
      have c1 : w2.cell? ⟨g, 1, none⟩ = some (.int .i64 t.n) := HB2.out.cell 1 _ rfl
      clear ho2 k2
      go_wp2_with fail
      go_ret2
      exact ⟨rfl, ⟨_, HB2.out, HO2.out, HTB.out⟩, OE2.out⟩


end Go.Proofs.Ytpdomjinhbnmfaa
