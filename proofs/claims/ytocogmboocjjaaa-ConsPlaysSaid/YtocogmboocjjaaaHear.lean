/- Package cons: Hear. -/
import Derived.Test.YtocogmboocjjaaaTkB
import Derived.Deep.Cut
import Derived.Deep.CutBlock
import Derived.Deep.CutRange
import Derived.Deep.DeepCutAuto
import Derived.Deep.RegionWith
set_option linter.unusedSimpArgs false
set_option linter.unusedVariables false
set_option linter.unnecessarySimpa false
namespace Go.Proofs.Ytocogmboocjjaaa
open Go.RowKit Go.Proofs.YtocogmboocjjaaaW.PrintWords
attribute [local go_sem] max2_max min2_min max_of_two min_of_two bxF_fr stF_fr stF_fr2 stF_put ldF_put ldV_put ldF_new guard_eq guard_ne bin_eq bin_ne alF_fr bdF_none bdF_ask bdF_len bdF_dat ext_drew' ext_alloc
attribute [local go_sem ↓] ldF_in ldV_in bxF_in stF_in cvS_in alF_in bdF_in ixS_in
attribute [local go_sem] bxC_ch chguard_eq chguard_ne chbin_eq chbin_ne ldC_new bxT_v alT_v stT_put stT_new bdT_none bdT_failed bdT_v bdW_v gUpon gStill
attribute [local go_sem ↓] ldC_in bxC_in stC_in ldT_in bxT_in stT_in alT_in bdT_in bdW_in

def causeOf (t : Int) : Int := if t = 3 then 1 else if t = 4 then 2 else if t = 5 then 3 else 0
theorem cause_c (t : Int) (w : World) : Calls Try.prog 37 #[.int .i64 t] w fun e w' => e = .returned (.int .i64 (causeOf t)) ∧ w = w' := by
  by_cases h3 : t = 3
  · subst h3
    go_enter Try.func37, Try.ntmps37
    go_wp2_with fail
    go_ret
    exact ⟨rfl, rfl⟩
  · by_cases h4 : t = 4
    · subst h4
      go_enter Try.func37, Try.ntmps37
      go_wp2_with fail
      go_ret
      exact ⟨rfl, rfl⟩
    · by_cases h5 : t = 5
      · subst h5
        go_enter Try.func37, Try.ntmps37
        go_wp2_with fail
        go_ret
        exact ⟨rfl, rfl⟩
      · have e3 : (t == 3) = false := by simpa using h3
        have e4 : (t == 4) = false := by simpa using h4
        have e5 : (t == 5) = false := by simpa using h5
        have hc : causeOf t = 0 := by unfold causeOf; rw [if_neg h3, if_neg h4, if_neg h5]
        rw [hc]
        clear h3 h4 h5 hc
        go_enter Try.func37, Try.ntmps37
        go_wp2_with fail
        go_ret
        exact ⟨rfl, rfl⟩
theorem cause_k (t c : Int) (hc : causeOf t = c) (w : World) : Calls Try.prog 37 #[.int .i64 t] w fun e w' => e = .returned (.int .i64 c) ∧ w = w' := hc ▸ cause_c t w
/-- A taker at work, in its three parts. -/
def P3 (w : World) (b cb gb : Nat) (x : Ch) (ck : Ck) (gd : Gd) : Prop := Blk w b (Tr.cells ⟨some ⟨cb, 0, none⟩, some ⟨gb, 0, none⟩, x, true, 0⟩) TT ∧ CkAt w cb ck ∧ Blk w gb gd.cells GT
theorem P3.ext {a w : World} {b cb gb : Nat} {x : Ch} {ck : Ck} {gd : Gd} (h : P3 a b cb gb x ck gd) (k : Ext a w) : P3 w b cb gb x ck gd := ⟨k.blk h.1, h.2.1.ext k, k.blk h.2.2⟩
theorem P3.ck {a w : World} {b cb gb : Nat} {x : Ch} {ck ck' : Ck} {gd : Gd} (h : P3 a b cb gb x ck gd) (hc : CkAt w cb ck') (k : Only cb a w) : P3 w b cb gb x ck' gd := by
  obtain ⟨cs, hcs⟩ := h.2.1.blk
  exact ⟨h.1.kept k (h.1.only_type hcs (by decide)), hc, h.2.2.kept k (h.2.2.only_type hcs (by decide))⟩
theorem P3.gd {a w : World} {b cb gb : Nat} {x : Ch} {ck : Ck} {gd gd' : Gd} (h : P3 a b cb gb x ck gd) (hg : Blk w gb gd'.cells GT) (k : Only gb a w) : P3 w b cb gb x ck gd' := by
  obtain ⟨vb, vv, h1, h2, h3⟩ := h.2.1
  exact ⟨h.1.kept k (h.1.only_type h.2.2 (by decide)), ⟨vb, vv, h1.kept k (h1.only_type h.2.2 (by decide)), h2.only h.2.2 (by decide) k, h3.only h.2.2 (by decide) k⟩, hg⟩
theorem P3.c0 {w : World} {b cb gb : Nat} {x : Ch} {ck : Ck} {gd : Gd} (h : P3 w b cb gb x ck gd) : w.cell? ⟨b, 0, none⟩ = some (.pointer (some ⟨cb, 0, none⟩)) := h.1.cell 0 _ rfl
theorem P3.c1 {w : World} {b cb gb : Nat} {x : Ch} {ck : Ck} {gd : Gd} (h : P3 w b cb gb x ck gd) : w.cell? ⟨b, 1, none⟩ = some (.pointer (some ⟨gb, 0, none⟩)) := h.1.cell 1 _ rfl
theorem P3.c5 {w : World} {b cb gb : Nat} {x : Ch} {ck : Ck} {gd : Gd} (h : P3 w b cb gb x ck gd) : w.cell? ⟨b, 5, none⟩ = some (.int .i64 (x.at 3)) := h.1.cell 5 _ (Tr.cx _ (j := 3) (by omega))
theorem P3.c6 {w : World} {b cb gb : Nat} {x : Ch} {ck : Ck} {gd : Gd} (h : P3 w b cb gb x ck gd) : w.cell? ⟨b, 6, none⟩ = some (.int .i64 (x.at 4)) := h.1.cell 6 _ (Tr.cx _ (j := 4) (by omega))
theorem P3.ckat {w : World} {b cb gb : Nat} {x : Ch} {ck : Ck} {gd : Gd} (h : P3 w b cb gb x ck gd) : CkAt w cb ck := h.2.1
theorem P3.gdat {w : World} {b cb gb : Nat} {x : Ch} {ck : Ck} {gd : Gd} (h : P3 w b cb gb x ck gd) : Blk w gb gd.cells GT := h.2.2
theorem P3.tb {w : World} {b cb gb : Nat} {x : Ch} {ck : Ck} {gd : Gd} (h : P3 w b cb gb x ck gd) : TB w b := ⟨_, h.1⟩
theorem P3.tk {w : World} {b cb gb : Nat} {x : Ch} {ck : Ck} {gd : Gd} (h : P3 w b cb gb x ck gd) (ok : gd.Ok) (h1 : ck.b.length ≤ 8) (h2 : ck.value.length ≤ 8) : TkAt w b cb gb ⟨true, x, 0, ck, gd⟩ := .inl ⟨rfl, h.1, h.2.1, h.2.2, rfl, ok, h1, h2⟩
theorem P3.byt {w : World} {b cb gb : Nat} {x : Ch} {ck : Ck} {gd : Gd} (h : P3 w b cb gb x ck gd) : Byt ck.value := by
  obtain ⟨_, ⟨_, _, _, _, q⟩, _⟩ := h
  exact q.2
def Ts.told (t : Ts) (f : Fr) : Ck × Int := if f.id = t.x.at 3 then t.ck.plain f.bytes else if f.id = t.x.at 4 then t.ck.turned f.bytes else (t.ck, 0)
def Ts.heard (t : Ts) (now : Int) (r : Ck × Int) : Ts × List Int × Int :=
  if r.2 = 1 then (⟨true, t.x, 0, r.1, t.gd.half now⟩, [], 0)
  else if r.2 = 2 then (⟨true, t.x, 0, r.1, t.gd.whole now⟩, r.1.value, 0)
  else if r.2 = 0 then (t, [], 0) else (Ts.rest (causeOf r.2), [], causeOf r.2)
def Ts.hear (t : Ts) (now : Int) (f : Fr) : Ts × List Int × Int :=
  if t.works = false ∨ tkB now = false ∨ f.chk ≠ 0 ∨ f.rtr = true then (t, [], 0) else t.heard now (t.told f)
theorem fr_bytes_len (f : Fr) : f.bytes.length ≤ 8 := by
  unfold Fr.bytes
  have hd : f.data.length = 8 := rfl
  split
  · rw [List.length_take]; omega
  · simp
theorem plain_tl (s : Ck) (l : List Int) : (s.plain l).2 = 1 ∨ (s.plain l).2 = 3 ∨ (s.plain l).2 = 4 := by
  unfold Ck.plain
  split
  · exact .inr (.inr rfl)
  · split
    · exact .inr (.inl rfl)
    · exact .inl rfl
theorem turned_tl (s : Ck) (l : List Int) : (s.turned l).2 = 2 ∨ (s.turned l).2 = 3 ∨ (s.turned l).2 = 4 ∨ (s.turned l).2 = 5 := by
  unfold Ck.turned
  split
  · exact .inr (.inr (.inl rfl))
  · split
    · exact .inr (.inl rfl)
    · split
      · exact .inr (.inr (.inr rfl))
      · exact .inl rfl
theorem plain_len {s : Ck} {l : List Int} (hb : s.b.length ≤ 8) (hv : s.value.length ≤ 8) (hl : l.length ≤ 8) : (s.plain l).1.b.length ≤ 8 ∧ (s.plain l).1.value.length ≤ 8 := by
  unfold Ck.plain Ck.clear
  split
  · exact ⟨Nat.zero_le _, hv⟩
  · split
    · exact ⟨Nat.zero_le _, hv⟩
    · exact ⟨hl, hv⟩
theorem turned_len {s : Ck} {l : List Int} (hb : s.b.length ≤ 8) (hv : s.value.length ≤ 8) : (s.turned l).1.b.length ≤ 8 ∧ (s.turned l).1.value.length ≤ 8 := by
  unfold Ck.turned Ck.clear
  split
  · exact ⟨Nat.zero_le _, hv⟩
  · split
    · exact ⟨Nat.zero_le _, hv⟩
    · split
      · exact ⟨Nat.zero_le _, hv⟩
      · exact ⟨Nat.zero_le _, hb⟩

set_option maxRecDepth 100000 in
set_option maxHeartbeats 8000000 in
theorem hear_c (b cb gb : Nat) (t : Ts) (now : Int) (f : Fr) (w : World) (h : TkAt w b cb gb t) (hd : Byt f.data) :
    Calls Try.prog 13 #[.pointer (some ⟨b, 0, none⟩), .int .i64 now, f.val] w fun e w' => ∃ u, e = .returned (.tuple #[u, .int .i64 (t.hear now f).2.2]) ∧ Bt w' u (t.hear now f).2.1 ∧ (∃ cb' gb', TkAt w' b cb' gb' (t.hear now f).1 ∧ Nx w b cb cb' ∧ Nx w b gb gb') ∧ O3 b cb gb w w' := by
  have K0 : Ext w (w.alloc (.cells f.cells FT)) := (by repeat (first | with_reducible exact Ext.refl _ | with_reducible assumption | with_reducible apply Ext.alloc | with_reducible apply Ext.drew | with_reducible apply Ext.drewN | (with_reducible refine Ext.set' ?_ (by first | omega | (simp only [World.size_alloc, World.size_setCell]; omega))) | (with_reducible refine Ext.trans ?_ (by with_reducible assumption)) | (with_reducible refine Ext.only ?_ (by with_reducible assumption) (by omega))))
  have HX := hid (Blk.new w f.cells FT)
  have H1 := hid (h.ext K0)
  obtain ⟨R, hR⟩ : ∃ R, Is (t.hear now f) R := ⟨_, Is.refl _⟩
  rw [hR.eq]
  have HD := hid hd
  clear h hd
  go_enter Try.func13, Try.ntmps13
  go_wp2_with fail
  generalize (w.alloc (.cells f.cells FT)) = w1 at *
  obtain ⟨xb, hxb⟩ : ∃ q, Is w.heap.size q := ⟨_, Is.refl _⟩
  rw [hxb.eq] at HX ⊢
  obtain ⟨wk, hwk⟩ : ∃ q, Is t.works q := ⟨_, Is.refl _⟩
  have cw := H1.out.cw
  rw [hwk.eq] at cw
  have WK := hid (works_c b wk w1 cw)
  have KE : Hid (O3 b cb gb w w1) := hid (.of_ext K0)
  have FE : Hid (∀ w', Ext w1 w' → O3 b cb gb w w') := hid (fun w' k => KE.out.trans (.of_ext k))
  have TK := hid (fun w => ctick_c now w)
  obtain ⟨q1, hq1⟩ : ∃ q, Is (tkB now) q := ⟨_, Is.refl _⟩
  rw [hq1.eq] at TK
  have l1 := ldF_blk HX.out
  have CK := hid (fun w => check_v f w)
  obtain ⟨ch, hch⟩ : ∃ q, Is f.chk q := ⟨_, Is.refl _⟩
  rw [hch.eq] at CK
  (with_reducible refine (WK.out).mono ?_); rintro e w2 ⟨rfl, rfl⟩
  cases wk
  · obtain rfl : R = (t, [], 0) := by rw [← hR.eq]; unfold Ts.hear; rw [if_pos (.inl hwk.eq)]
    clear hR hq1 hch
    go_wp2_with fail
    go_ret2
    exact ⟨_, rfl, Bt.nil _, ⟨cb, gb, H1.out, .inl rfl, .inl rfl⟩, KE.out⟩
  cases q1
  · obtain rfl : R = (t, [], 0) := by rw [← hR.eq]; unfold Ts.hear; rw [if_pos (.inr (.inl hq1.eq))]
    clear hR hq1 hch
    go_wp2_with fail
    (with_reducible refine (TK.out _).mono ?_); rintro e w2 ⟨rfl, rfl⟩
    go_wp2_with fail
    go_ret2
    exact ⟨_, rfl, Bt.nil _, ⟨cb, gb, H1.out, .inl rfl, .inl rfl⟩, KE.out⟩
  by_cases hc0 : ch = 0
  case neg =>
    have e1 : (ch != 0) = true := by simpa using hc0
    obtain rfl : R = (t, [], 0) := by rw [← hR.eq]; unfold Ts.hear; rw [if_pos (.inr (.inr (.inl (by rw [hch.eq]; exact hc0))))]
    clear hR hq1 hch hc0
    go_wp2_with fail
    (with_reducible refine (TK.out _).mono ?_); rintro e w2 ⟨rfl, rfl⟩
    go_wp2_with fail
    (with_reducible refine (CK.out _).mono ?_); rintro e w3 ⟨rfl, k3⟩
    have HT3 := hid (H1.out.ext k3)
    have HE3 := hid (FE.out w3 k3)
    clear k3
    go_wp2_with fail
    go_ret2
    exact ⟨_, rfl, Bt.nil _, ⟨cb, gb, HT3.out, .inl rfl, .inl rfl⟩, HE3.out⟩
  subst hc0
  obtain ⟨rt, hrt⟩ : ∃ q, Is f.rtr q := ⟨_, Is.refl _⟩
  go_wp2_with fail
  (with_reducible refine (TK.out _).mono ?_); rintro e w2 ⟨rfl, rfl⟩
  go_wp2_with fail
  (with_reducible refine (CK.out _).mono ?_); rintro e w3 ⟨rfl, k3⟩
  have HX3 := k3.blk HX.out
  have c1 : w3.cell? ⟨xb, 1, none⟩ = some (.bool f.rtr) := HX3.cell 1 _ rfl
  rw [hrt.eq] at c1
  have c0 : w3.cell? ⟨xb, 0, none⟩ = some (.int .i64 f.id) := HX3.cell 0 _ rfl
  have HX3' := hid HX3
  have HT3 := hid (H1.out.ext k3)
  have HE3 := hid (FE.out w3 k3)
  have HS3 : Hid (w.heap.size ≤ w3.heap.size) := hid (Nat.le_trans K0.le k3.le)
  clear k3 HX3 l1 cw WK CK TK FE KE H1 HX
  cases rt
  case true =>
    obtain rfl : R = (t, [], 0) := by rw [← hR.eq]; unfold Ts.hear; rw [if_pos (.inr (.inr (.inr hrt.eq)))]
    clear hR hq1 hch
    go_wp2_with fail
    go_ret2
    exact ⟨_, rfl, Bt.nil _, ⟨cb, gb, HT3.out, .inl rfl, .inl rfl⟩, HE3.out⟩
  have hR0 : Is (t.heard now (t.told f)) R := Is.mk (by rw [← hR.eq]; unfold Ts.hear; rw [if_neg (by rw [hwk.eq, hq1.eq, hch.eq, hrt.eq]; simp)])
  obtain ⟨tw, tx, tf, tck, tgd⟩ := t
  obtain rfl : tw = true := hwk.eq
  obtain ⟨hP, hfl, hok, hlb, hlv⟩ : P3 w3 b cb gb tx tck tgd ∧ tf = 0 ∧ tgd.Ok ∧ tck.b.length ≤ 8 ∧ tck.value.length ≤ 8 := by
    rcases HT3.out with ⟨_, h2, h3, h4, h5, h6, h7, h8⟩ | ⟨h1, _⟩
    · exact ⟨⟨h2, h3, h4⟩, h5, h6, h7, h8⟩
    · cases h1
  subst hfl
  have HP := hid hP
  have HL := hid (And.intro hok (And.intro hlb hlv))
  have c5 := hP.c5
  have c6 := hP.c6
  have HF3 : Hid (∀ w', O3 b cb gb w3 w' → O3 b cb gb w w') := hid (fun w' o => HE3.out.trans o)
  have SD : Hid (∀ w', O3 b cb gb w3.drew w' → O3 b cb gb w w') := hid (fun w' o => HF3.out w' ((O3.of_ext ((Ext.refl w3).drew)).trans o))
  have PD := hid (HP.out.ext ((Ext.refl w3).drew))
  have l3 : (ldF (.pointer (some ⟨xb, 0, none⟩))).run Try.prog w3.drew = .ok f.val w3.drew := ldF_blk HX3'.out.drew
  have BY := hid (fun w => bytes_v f w HD.out)
  have hyl := hid (fr_bytes_len f)
  have BYT := hid (bytes_byt (f := f) HD.out)
  have HTW := hid HT3.out
  have c00 := hP.c0
  clear hR hq1 hch hrt hwk hP hok hlb hlv HT3 HX3' K0 HD
  unfold Ts.told at hR0
  simp only at hR0
  generalize f.bytes = l at *
  obtain ⟨id, hid0⟩ : ∃ q, Is f.id q := ⟨_, Is.refl _⟩
  rw [hid0.eq] at c0 hR0
  generalize tx.at 3 = p3 at *
  generalize tx.at 4 = p4 at *
  obtain ⟨r, hr⟩ : ∃ r, Is (if id = p3 then tck.plain l else if id = p4 then tck.turned l else (tck, 0)) r := ⟨_, Is.refl _⟩
  rw [hr.eq] at hR0
  have htl : (r.1 = tck ∧ r.2 = 0) ∨ r.2 = 1 ∨ r.2 = 2 ∨ r.2 = 3 ∨ r.2 = 4 ∨ r.2 = 5 := by
    rw [← hr.eq]
    have h1 := plain_tl tck l
    have h2 := turned_tl tck l
    split
    · omega
    · split
      · omega
      · exact .inl ⟨rfl, rfl⟩
  have LN : Hid (r.1.b.length ≤ 8 ∧ r.1.value.length ≤ 8) := hid (by
    rw [← hr.eq]
    split
    · exact plain_len HL.out.2.1 HL.out.2.2 hyl.out
    · split
      · exact turned_len HL.out.2.1 HL.out.2.2
      · exact HL.out.2)
  obtain ⟨ck', tl⟩ := r
  simp only at htl LN
  have HTL := hid htl
  clear htl
  go_upto_block 0 with fail
  go_cut [8] (fun u8 wx => u8 = .int .i64 tl ∧ P3 wx b cb gb tx ck' tgd ∧ O3 b cb gb w wx)
  case first =>
    have HHR := hid hr.eq
    clear hr hR0
    by_cases hp : id = p3
    · have hr2 : Is (tck.plain l) (ck', tl) := Is.mk (by rw [← HHR.out, if_pos hp])
      have e3 : (id == p3) = true := by simpa using hp
      clear hp
      have PC : Hid (∀ w' v, CkAt w' cb tck → Bs w' v l → Calls Try.prog 31 #[.pointer (some ⟨cb, 0, none⟩), v] w' fun e w'' => e = .returned (.int .i64 (tck.plain l).2) ∧ CkAt w'' cb (tck.plain l).1 ∧ Only cb w' w'') := hid (fun w' v h1 h2 => plain_c cb tck v l w' h1 h2 (by have := hyl.out; omega))
      rw [hr2.eq] at PC
      simp only at PC
      clear hr2 HHR
      go_wp2_with fail
      go_region_with (first | (go_at_call 32; (with_reducible refine (BY.out _).mono ?_); rintro e w4 ⟨v, rfl, ho, k4⟩; have hbs := hid (Bs.own ho BYT.out); have P4 := hid (PD.out.ext k4); have O4 := hid (SD.out w4 (.of_ext k4)); have c04 := P4.out.c0; clear ho k4) | (go_at_call 31; (with_reducible refine (PC.out _ _ P4.out.ckat hbs.out).mono ?_); rintro e w5 ⟨rfl, hc5, k5⟩; have P5 := hid (P4.out.ck hc5 k5); have O5 := hid (O4.out.trans (.of2 k5)); clear hc5 k5))
      all_goals
        go_wp2_with fail
        go_meet
        case rel => exact ⟨rfl, P5.out, O5.out⟩
    · have e3 : (id == p3) = false := by simpa using hp
      by_cases hq : id = p4
      · have hr2 : Is (tck.turned l) (ck', tl) := Is.mk (by rw [← HHR.out, if_neg hp, if_pos hq])
        have e4 : (id == p4) = true := by simpa using hq
        clear hp hq
        have PC : Hid (∀ w' v, CkAt w' cb tck → Bs w' v l → Calls Try.prog 33 #[.pointer (some ⟨cb, 0, none⟩), v] w' fun e w'' => e = .returned (.int .i64 (tck.turned l).2) ∧ CkAt w'' cb (tck.turned l).1 ∧ Only cb w' w'') := hid (fun w' v h1 h2 => turned_c cb tck v l w' h1 h2 (by have := HL.out.2.1; omega))
        rw [hr2.eq] at PC
        simp only at PC
        clear hr2 HHR
        go_wp2_with fail
        go_region_with (first | (go_at_call 32; (with_reducible refine (BY.out _).mono ?_); rintro e w4 ⟨v, rfl, ho, k4⟩; have hbs := hid (Bs.own ho BYT.out); have P4 := hid (PD.out.ext k4); have O4 := hid (SD.out w4 (.of_ext k4)); have c04 := P4.out.c0; clear ho k4) | (go_at_call 33; (with_reducible refine (PC.out _ _ P4.out.ckat hbs.out).mono ?_); rintro e w5 ⟨rfl, hc5, k5⟩; have P5 := hid (P4.out.ck hc5 k5); have O5 := hid (O4.out.trans (.of2 k5)); clear hc5 k5))
        all_goals
          go_wp2_with fail
          go_meet
          case rel => exact ⟨rfl, P5.out, O5.out⟩
      · have hr2 : ck' = tck ∧ tl = 0 := by have h := HHR.out; rw [if_neg hp, if_neg hq] at h; injection h with h1 h2; exact ⟨h1.symm, h2.symm⟩
        have e4 : (id == p4) = false := by simpa using hq
        obtain ⟨rfl, rfl⟩ := hr2
        clear hp hq HHR
        go_wp2_with fail
        go_meet
        case rel => exact ⟨rfl, HP.out, HE3.out⟩
  case rest =>
    obtain ⟨rfl, hP5, hO5⟩ := hcut
    obtain ⟨w5, hw5⟩ : ∃ w5, w5 = wc := ⟨_, rfl⟩
    subst hw5
    have P5 := hid hP5
    have O5 := hid hO5
    have c05 := hP5.c0
    have c15 := hP5.c1
    clear hP5 hO5 SD PD BY l3 c0 c1 c5 c6 c00 hr HP
    rcases HTL.out with ⟨rfl, rfl⟩ | rfl | rfl | rfl | rfl | rfl
    · obtain rfl : R = (⟨true, tx, 0, ck', tgd⟩, [], 0) := by rw [← hR0.eq]; rfl
      clear hR0
      go_wp2_with fail
      (with_reducible refine (cause_k 0 0 rfl _).mono ?_); rintro e w6 ⟨rfl, rfl⟩
      go_wp2_with fail
      (with_reducible refine (fail0_c b _).mono ?_); rintro e w7 ⟨rfl, rfl⟩
      go_wp2_with fail
      go_ret2
      exact ⟨_, rfl, Bt.nil _, ⟨cb, gb, P5.out.tk HL.out.1 LN.out.1 LN.out.2, .inl rfl, .inl rfl⟩, O5.out⟩
    · obtain rfl : R = (⟨true, tx, 0, ck', tgd.half now⟩, [], 0) := by rw [← hR0.eq]; rfl
      clear hR0
      go_wp2_with fail
      (with_reducible refine (half_any gb tgd now w5 P5.out.gdat).mono ?_); rintro e w6 ⟨rfl, hg6, k6⟩
      have P6 := hid (P5.out.gd hg6 k6)
      have O6 := hid (O5.out.trans (.of3 k6))
      clear hg6 k6
      go_wp2_with fail
      (with_reducible refine (cause_k 1 0 rfl _).mono ?_); rintro e w7 ⟨rfl, rfl⟩
      go_wp2_with fail
      (with_reducible refine (fail0_c b _).mono ?_); rintro e w8 ⟨rfl, rfl⟩
      go_wp2_with fail
      go_ret2
      exact ⟨_, rfl, Bt.nil _, ⟨cb, gb, P6.out.tk (HL.out.1.half now) LN.out.1 LN.out.2, .inl rfl, .inl rfl⟩, O6.out⟩
    · obtain rfl : R = (⟨true, tx, 0, ck', tgd.whole now⟩, ck'.value, 0) := by rw [← hR0.eq]; rfl
      clear hR0
      go_wp2_with fail
      (with_reducible refine (whole_any gb tgd now w5 P5.out.gdat).mono ?_); rintro e w6 ⟨rfl, hg6, k6⟩
      have P6 := hid (P5.out.gd hg6 k6)
      have O6 := hid (O5.out.trans (.of3 k6))
      have cz := P6.out.c0
      clear hg6 k6
      go_wp2_with fail
      (with_reducible refine (value_k cb _ _ P6.out.ckat (by have := LN.out.2; omega)).mono ?_); rintro e w7 ⟨u, rfl, ho, k7⟩
      have hbt := Bt.own ho P6.out.byt
      have P7 := hid (P6.out.ext k7)
      have O7 := hid (O6.out.trans (.of_ext k7))
      clear ho k7
      go_wp2_with fail
      go_ret2
      exact ⟨_, rfl, hbt, ⟨cb, gb, P7.out.tk (HL.out.1.whole now) LN.out.1 LN.out.2, .inl rfl, .inl rfl⟩, O7.out⟩
    · obtain rfl : R = (Ts.rest 1, [], 1) := by rw [← hR0.eq]; rfl
      clear hR0
      go_wp2_with fail
      (with_reducible refine (cause_k 3 1 rfl _).mono ?_); rintro e w6 ⟨rfl, rfl⟩
      go_wp2_with fail
      (with_reducible refine (fail1_c b _ _ (by decide) P5.out.tb).mono ?_); rintro e w7 ⟨rfl, hr, k7⟩
      have O7 := hid (O5.out.trans (.of1 k7))
      have HR7 := hid hr
      clear hr k7
      go_wp2_with fail
      go_ret2
      exact ⟨_, rfl, Bt.nil _, ⟨b, b, HR7.out, .inr (.inl rfl), .inr (.inl rfl)⟩, O7.out⟩
    · obtain rfl : R = (Ts.rest 2, [], 2) := by rw [← hR0.eq]; rfl
      clear hR0
      go_wp2_with fail
      (with_reducible refine (cause_k 4 2 rfl _).mono ?_); rintro e w6 ⟨rfl, rfl⟩
      go_wp2_with fail
      (with_reducible refine (fail1_c b _ _ (by decide) P5.out.tb).mono ?_); rintro e w7 ⟨rfl, hr, k7⟩
      have O7 := hid (O5.out.trans (.of1 k7))
      have HR7 := hid hr
      clear hr k7
      go_wp2_with fail
      go_ret2
      exact ⟨_, rfl, Bt.nil _, ⟨b, b, HR7.out, .inr (.inl rfl), .inr (.inl rfl)⟩, O7.out⟩
    · obtain rfl : R = (Ts.rest 3, [], 3) := by rw [← hR0.eq]; rfl
      clear hR0
      go_wp2_with fail
      (with_reducible refine (cause_k 5 3 rfl _).mono ?_); rintro e w6 ⟨rfl, rfl⟩
      go_wp2_with fail
      (with_reducible refine (fail1_c b _ _ (by decide) P5.out.tb).mono ?_); rintro e w7 ⟨rfl, hr, k7⟩
      have O7 := hid (O5.out.trans (.of1 k7))
      have HR7 := hid hr
      clear hr k7
      go_wp2_with fail
      go_ret2
      exact ⟨_, rfl, Bt.nil _, ⟨b, b, HR7.out, .inr (.inl rfl), .inr (.inl rfl)⟩, O7.out⟩

end Go.Proofs.Ytocogmboocjjaaa
