/- The law ProdApart. -/
import Derived.Test.YtbjfhdkgbhkodaaTick
import Derived.StillTailTactics
set_option linter.unusedSimpArgs false
set_option linter.unusedVariables false
set_option linter.unnecessarySimpa false
namespace Go.Proofs.Ytbjfhdkgbhkodaa
open Go.RowKit Go.Proofs.YtbjfhdkgbhkodaaW.PrintWords
attribute [local go_sem] max2_max min2_min max_of_two min_of_two bxF_fr stF_fr stF_fr2 stF_put ldF_put ldV_put ldF_new guard_eq guard_ne bin_eq bin_ne alF_fr bdF_none bdF_ask bdF_len bdF_dat ext_drew' ext_alloc
attribute [local go_sem ↓] ldF_in ldV_in bxF_in stF_in cvS_in alF_in bdF_in ixS_in
attribute [local go_sem] bxC_ch chguard_eq chguard_ne chbin_eq chbin_ne ldC_new bxM_v alM_v stM_put stM_new bxR_v alR_v stR_put stR_new ldM_new ldR_new bdM_none bdR_v stC_mk gUpon gStill
attribute [local go_sem ↓] ldC_in bxC_in stC_in ldM_in bxM_in stM_in alM_in ldR_in bxR_in stR_in alR_in bdM_in bdR_in
attribute [local go_sem] alC_v bdC_tab stC_new stC_new1 stS_tab stC_old ldC_new1
attribute [local go_sem ↓] alC_in bdC_in stS_in

theorem tab_snd {T : Int} (h0 : 1 ≤ T) (h1 : T ≤ 65535) : (tab T).snd = true := by
  have : (tab T).sz = 1 := by rfl
  have e : (tab T).snd = sndB 1 T 1 257 258 := by unfold Ch.snd; rw [this]; rfl
  rw [e]
  unfold sndB idB
  simp [h0, h1]
theorem tkB_in {n : Int} (h0 : 0 ≤ n) (h1 : n ≤ 2147483647) : tkB n = true := by unfold tkB; simp [h0, h1]
theorem step_off {k : Mk} {now : Int} {x : Ch} {l : List Int} (h0 : 0 ≤ now) (h1 : now ≤ 2147483647) : k.step now false x l = (⟨false, k.x, k.last, k.sent⟩, []) := by
  unfold Mk.step goes; rw [tkB_in h0 h1]; rfl
theorem step_due {k : Mk} {now : Int} {x : Ch} {l : List Int} (h0 : 0 ≤ now) (h1 : now ≤ 2147483647) (hs : x.snd = true) (hl : (l.length : Int) = x.sz) (hd : k.due now x = true) : k.step now true x l = (⟨true, x, now, k.sent + 1⟩, two x l) := by
  unfold Mk.step goes; rw [tkB_in h0 h1, hs, decide_eq_true hl, hd]; rfl
theorem step_wait {k : Mk} {now : Int} {x : Ch} {l : List Int} (h0 : 0 ≤ now) (h1 : now ≤ 2147483647) (hs : x.snd = true) (hl : (l.length : Int) = x.sz) (hd : k.due now x = false) : k.step now true x l = (k, []) := by
  unfold Mk.step goes; rw [tkB_in h0 h1, hs, decide_eq_true hl, hd]; rfl
/-- What the law knows of its maker. -/
def AI (k : Mk) (last now T : Int) : Prop := (k.works = true → k.last = last ∧ 0 ≤ last ∧ k.x = tab T) ∧ (k.works = false → last = -1) ∧ 0 ≤ k.last ∧ k.last ≤ now

set_option maxRecDepth 100000 in
set_option maxHeartbeats 8000000 in
theorem apart_c (tm : Int) (A : Option Addr) (bl o : Nat) (c : Nat) (l : List Tk) (w : World) (ht0 : 0 ≤ tm) (ht1 : tm ≤ 255) (hl : RowOf Tk.cells 12 w A bl o l) (hlc : l.length ≤ c) (hP : ∀ x ∈ l, x.ok) :
    Calls Try.prog 3 #[.int .u8 tm, .slice A l.length c] w fun e w' => e = .returned (.bool true) ∧ Ext w w' := by
  obtain ⟨T, hT⟩ : ∃ T, Is (1 + tm % 30) T := ⟨_, Is.refl _⟩
  have HT : Hid (1 ≤ T ∧ T ≤ 30) := hid (by have := hT.eq; omega)
  have TB := hid (fun w => table_c T w)
  have HP := hid hP
  have hl0 := hl.1
  have K00 := Ext.refl w
  clear hP
  go_enter Try.func3, Try.ntmps3
  go_wp2_with fail
  rw [hT.eq]
  (with_reducible refine (TB.out _).mono ?_); rintro e w1 ⟨rfl, k1⟩
  have HX := hid (Blk.new w1 (tab T).cells CT)
  have kx : Ext w (w1.alloc (.cells (tab T).cells CT)) := (by repeat (first | with_reducible exact Ext.refl _ | with_reducible assumption | with_reducible apply Ext.alloc | with_reducible apply Ext.drew | with_reducible apply Ext.drewN | (with_reducible refine Ext.set' ?_ (by first | omega | (simp only [World.size_alloc, World.size_setCell]; omega))) | (with_reducible refine Ext.trans ?_ (by with_reducible assumption)) | (with_reducible refine Ext.only ?_ (by with_reducible assumption) (by omega))))
  have hx0 : w.heap.size ≤ w1.heap.size := k1.le
  go_wp2_with fail
  (with_reducible refine (mnew_c _).mono ?_); rintro e w2 ⟨kb, rfl, hb, hkb, k2⟩
  have hx2 : Blk w2 w1.heap.size (tab T).cells CT := k2.blk HX.out
  have K2 : Ext w w2 := kx.trans k2
  have hk1 : w1.heap.size < kb := by have := hkb; simp only [World.size_alloc] at this; omega
  have hai : AI Mk.zero (-1) 0 T := ⟨fun h => (by cases h), fun _ => rfl, by decide, by decide⟩
  generalize w1.heap.size = xb at *
  clear HX kx k1 k2 hkb TB
  go_wp2_with fail
  go_loopg [7, 8, 9] 80 (fun g u7 u8 u9 wr => ∃ (i : Nat) (now last : Int) (k : Mk), i + g = 80 ∧ i ≤ l.length ∧ u9 = .int .i64 i ∧ u7 = .int .i64 now ∧ u8 = .int .i64 last ∧ 0 ≤ now ∧ now ≤ 7 * i ∧ Hid (AI k last now T) ∧ Hid (0 ≤ k.sent ∧ k.sent ≤ i) ∧ Blk wr kb k.cells MT ∧ Blk wr xb (tab T).cells CT ∧ Ext w wr)
  case atStart => exact ⟨0, 0, -1, Mk.zero, rfl, by omega, rfl, rfl, rfl, by omega, by omega, hid hai, hid ⟨by decide, by decide⟩, hb, hx2, K2⟩
  case round =>
    clear hai hb hx2 K2
    obtain ⟨i, now, last, k, hig, hil, rfl, rfl, rfl, hn0, hn1, hai, hse, hb, hx, K⟩ := hrel
    by_cases hlt : i < l.length ∧ i < 80
    · obtain ⟨hlt, h80⟩ := hlt
      have e1 : decide ((i : Int) < (l.length : Int)) = true := by simpa using hlt
      have e2 : decide ((i : Int) < 80) = true := by simp; omega
      have i0 : (0 : Int) ≤ (i : Int) := by omega
      have i1 : (i : Int) < (l.length : Int) := by omega
      obtain ⟨rfl, hcell⟩ := hl.at K hlt
      have HPi := hid (HP.out l[i] (List.getElem_mem _))
      have HR := hid (hl.at (Ext.refl w) hlt).2
      have hblt := (hl.2.1 (by omega)).2
      generalize l[i] = tk at *
      have c0 : wr.cell? ⟨bl, o + i * 12, none⟩ = some (.int .u8 tk.s) := hcell 0 _ rfl
      have s0 := HPi.out.1
      have s1 := HPi.out.2.1
      have C1 := hid (fun (w' : World) (q : Ext w w') => (show w'.cell? ⟨bl, o + i * 12 + 1, none⟩ = some (.bool tk.on) from q.cell (HR.out 1 _ rfl)))
      have CB := hid (fun (w' : World) (q : Ext w w') => Tk.bs (w := w') (bl := bl) (o := o + i * 12) (t := tk) (fun j v hv => q.cell (HR.out j v hv)) (Nat.lt_of_lt_of_le hblt q.le) HPi.out (n := 1) (by omega))
      clear hcell
      have HB := hid hb
      have HX := hid hx
      clear hb hx
      go_wp2_with fail
      (with_reducible refine (mfork_c kb k wr HB.out).mono ?_); rintro e w3 ⟨gf, rfl, hgf, hgw, k3⟩
      obtain ⟨nw, hnw⟩ : ∃ n, Is (now + tk.s % 8) n := ⟨_, Is.refl _⟩
      have HN : Hid (now ≤ nw ∧ 0 ≤ nw ∧ nw ≤ 7 * (i + 1)) := hid (by have := hnw.eq; omega)
      rw [hnw.eq]
      have hk3 : Blk w3 kb k.cells MT := k3.blk HB.out
      have hx3 : Blk w3 xb (tab T).cells CT := k3.blk HX.out
      have K3 : Ext w w3 := K.trans k3
      have hbx : xb ≠ kb := by omega
      have hgk : kb < gf := Nat.lt_of_lt_of_le HB.out.lt hgw
      have hgx : xb ≠ gf := by omega
      have hwg : w.heap.size ≤ gf := by omega
      have hwk : w.heap.size ≤ kb := by omega
      have c1 := C1.out _ K3
      have D : ∀ p : Addr, w3.drew.cell? p = w3.cell? p := fun p => rfl
      have lx := ldC_blk hx3.drew
      have lg : Blk w3.drew gf k.cells MT := Blk.drew hgf
      have hbs := CB.out _ K3.drew
      have hlb : (tk.b.take 1) = [tk.d0] := rfl
      rw [hlb] at hbs
      have hby : Byt [tk.d0] := hbs.byt
      have hk3d : Blk w3.drew kb k.cells MT := hk3.drew
      have hx3d : Blk w3.drew xb (tab T).cells CT := hx3.drew
      have K3d : Ext w w3.drew := K3.drew
      have hl0' : 0 ≤ k.last := hai.out.2.2.1
      have hl1' : k.last ≤ 2147483647 := by have := hai.out.2.2.2; omega
      have hs0' := hse.out.1
      have hs1' : k.sent ≤ 1000000 := by have := hse.out.2; omega
      obtain ⟨on, hon⟩ : ∃ q, tk.on = q := ⟨_, rfl⟩
      rw [hon] at c1 C1
      obtain ⟨R, hR⟩ : ∃ R, Is (k.step nw on (tab T) [tk.d0]) R := ⟨_, Is.refl _⟩
      have S1 := hid (step_c gf k nw on (tab T) _ [tk.d0] w3.drew lg hbs hl0' hl1' hs0' hs1')
      have S2 := hid (fun w' (h : Blk w' kb k.cells MT) (q : Ext w w') => step_c kb k nw on (tab T) _ [tk.d0] w' h (by have := CB.out _ q; rw [hlb] at this; exact this) hl0' hl1' hs0' hs1')
      rw [hR.eq] at S1 S2
      have HK := hid (And.intro hk3d (And.intro hx3d (And.intro K3d lg.lt)))
      have C1' := hid (C1.out)
      have CB' := hid (CB.out)
      clear hk3 hx3 K3 hgf lg hbs hlb hk3d hx3d K3d k3 K hl0' hl1' hs0' hs1' HB HX C1 CB HR
      go_wp2_with fail
      go_still_tail 13, (by kernel_rfl)
      change wpList _ _ _ _ _ w3.drew
      go_wp2_with fail
      (with_reducible refine (S1.out).mono ?_); rintro e w4 ⟨ua, rfl, hua, hg4, k4⟩
      have hk4 : Blk w4 kb k.cells MT := HK.out.1.kept k4 (by omega)
      have hx4 : Blk w4 xb (tab T).cells CT := HK.out.2.1.kept k4 hgx
      have K4 : Ext w w4 := Ext.only HK.out.2.2.1 k4 hwg
      have hkx : kb < w3.drew.heap.size := Nat.lt_of_lt_of_le hgk (Nat.le_of_lt HK.out.2.2.2)
      have c1 := C1'.out _ K4
      have D : ∀ p : Addr, w4.drew.cell? p = w4.cell? p := fun p => rfl
      have lx := ldC_blk hx4.drew
      have S3 := hid (S2.out w4.drew hk4.drew K4.drew)
      have HU := hid hua
      have HX4 := hid hx4
      have HK4 := hid K4
      clear hua hg4 k4 hk4 hx4 HK K4 S1 S2
      go_wp2_with fail
      go_still_tail 13, (by kernel_rfl)
      change wpList _ _ _ _ _ w4.drew
      go_wp2_with fail
      (with_reducible refine (S3.out).mono ?_); rintro e w5 ⟨ub, rfl, hub, hk5, k5⟩
      have hua5 := (HU.out.ext ((Ext.refl w4).drew)).only k5 hkx
      have hx5 : Blk w5 xb (tab T).cells CT := HX4.out.drew.kept k5 hbx
      have K5 : Ext w w5 := Ext.only HK4.out.drew k5 hwk
      have c1 := C1'.out _ K5
      have hx51 := hx5.chat (j := 1) (by omega)
      have hx51' : w5.cell? ⟨xb, 1, none⟩ = some (.int .i64 T) := hx51
      have SM : Hid (∀ w', Ext w5 w' → R.2.length ≤ 1000000 → Calls Try.prog 10 #[ua, ub] w' fun e w'' => e = .returned (.bool true) ∧ Ext w' w'') := hid (fun w' q hn => same_c ua ub R.2 _ _ w' (hua5.ext q) (hub.ext q) hn)
      have HUB := hid hub
      have HK5 := hid hk5
      have HX5 := hid hx5
      clear S3 HU HX4 HK4 hua5 hub hk5 k5 hx51 hx5 lx D
      cases on
      · obtain rfl : R = (⟨false, k.x, k.last, k.sent⟩, []) := by rw [← hR.eq]; exact step_off HN.out.2.1 (by have := HN.out; omega)
        have SM1 := hid (SM.out w5 (Ext.refl w5) (by show (0 : Nat) ≤ 1000000; omega))
        obtain rfl : ub = .slice none 0 0 := by
          rcases HUB.out with ⟨_, h⟩ | ⟨h, _⟩
          · exact h
          · exact absurd rfl h
        go_wp2_with fail
        (with_reducible refine (SM1.out).mono ?_); rintro e w6 ⟨rfl, k6⟩
        have K6 := K5.trans k6
        have c1 := C1'.out _ K6
        have hk6 := k6.blk HK5.out
        have hx6 := k6.blk HX5.out
        go_wp2_with fail
        go_roundg (gk - 1)
        case rel => exact ⟨i + 1, nw, -1, ⟨false, k.x, k.last, k.sent⟩, by omega, by omega, by go_num, rfl, rfl, HN.out.2.1, HN.out.2.2, hid ⟨fun h => (by cases h), fun _ => rfl, hai.out.2.2.1, by have := hai.out.2.2.2; have := HN.out; show k.last ≤ nw; omega⟩, hid ⟨hse.out.1, by have := hse.out.2; show k.sent ≤ ((i + 1 : Nat) : Int); omega⟩, hk6, hx6, K6⟩
        case measure => omega
      · have hsn : (tab T).snd = true := tab_snd HT.out.1 (by have := HT.out; omega)
        have hln : (([tk.d0].length : Nat) : Int) = (tab T).sz := rfl
        obtain ⟨du, hdu⟩ : ∃ q, Is (k.due nw (tab T)) q := ⟨_, Is.refl _⟩
        cases du
        · obtain rfl : R = (k, []) := by rw [← hR.eq]; exact step_wait HN.out.2.1 (by have := HN.out; omega) hsn hln hdu.eq
          have hw : k.works = true ∧ chEq k.x (tab T) = true ∧ ¬ T ≤ nw - k.last := by
            have h := hdu.eq
            unfold Mk.due at h
            simp only [Bool.or_eq_false_iff, Bool.not_eq_false', decide_eq_false_iff_not] at h
            exact ⟨h.1, h.2.1, h.2.2⟩
          obtain ⟨a1, a2, a3⟩ := hai.out.1 hw.1
          have hnw : ¬ T ≤ nw - last := by rw [← a1]; exact hw.2.2
          have f1 : decide (last < 0) = false := by simpa using a2
          have f2 : decide (T ≤ nw - last) = false := by simpa using hnw
          have hwr : IntKind.i64.wrap (nw - last) = nw - last := IntWalk.i64_in _ (by have := HN.out; have := HT.out; have := hai.out.2.2; omega)
          have HA := hid (And.intro hw.1 (And.intro a1 (And.intro a2 a3)))
          have SM1 := hid (SM.out w5 (Ext.refl w5) (by show (0 : Nat) ≤ 1000000; omega))
          obtain rfl : ub = .slice none 0 0 := by
            rcases HUB.out with ⟨_, h⟩ | ⟨h, _⟩
            · exact h
            · exact absurd rfl h
          clear hw a1 a2 a3 hnw hdu hR hsn hln hx51'
          go_wp2_with fail
          (with_reducible refine (SM1.out).mono ?_); rintro e w6 ⟨rfl, k6⟩
          have K6 := K5.trans k6
          have c1 := C1'.out _ K6
          have hk6 := k6.blk HK5.out
          have hx6 := k6.blk HX5.out
          have hx61 : w6.cell? ⟨xb, 1, none⟩ = some (.int .i64 T) := hx6.chat (j := 1) (by omega)
          go_wp2_with fail
          go_roundg (gk - 1)
          case rel => exact ⟨i + 1, nw, last, k, by omega, by omega, by go_num, rfl, rfl, HN.out.2.1, HN.out.2.2, hid ⟨fun _ => HA.out.2, fun h => (by rw [HA.out.1] at h; cases h), hai.out.2.2.1, by have := hai.out.2.2.2; have := HN.out; omega⟩, hid ⟨hse.out.1, by have := hse.out.2; omega⟩, hk6, hx6, K6⟩
          case measure => omega
        · obtain rfl : R = (⟨true, tab T, nw, k.sent + 1⟩, two (tab T) [tk.d0]) := by rw [← hR.eq]; exact step_due HN.out.2.1 (by have := HN.out; omega) hsn hln hdu.eq
          have SM1 := hid (SM.out w5 (Ext.refl w5) (by show (2 : Nat) ≤ 1000000; omega))
          obtain ⟨gu, cu, rfl⟩ : ∃ gu cu, ub = .slice (some ⟨gu, 0, none⟩) 2 cu := by
            rcases HUB.out with ⟨h, _⟩ | ⟨h, h2⟩
            · exact absurd h (by unfold two; simp)
            · obtain ⟨gu, cu, e, _⟩ := h2.frs h
              exact ⟨gu, cu, e⟩
          have hcs : (last = -1) ∨ (decide (0 ≤ last) = true ∧ decide (nw - last < T) = false ∧ IntKind.i64.wrap (nw - last) = nw - last) := by
            by_cases hwk' : k.works = true
            · obtain ⟨a1, a2, a3⟩ := hai.out.1 hwk'
              have h := hdu.eq
              unfold Mk.due at h
              have h1 : (tab T).at 1 = T := rfl
              rw [hwk', a3, chEq_refl, h1] at h
              have h' : T ≤ nw - k.last := by simpa using h
              rw [a1] at h'
              exact .inr ⟨by simpa using a2, by simp; omega, IntWalk.i64_in _ (by have := HN.out; have := HT.out; have := hai.out.2.2; omega)⟩
            · exact .inl (hai.out.2.1 (by simpa using hwk'))
          have HSE : Hid (0 ≤ k.sent + 1 ∧ k.sent + 1 ≤ ((i + 1 : Nat) : Int)) := hid (by have := hse.out; omega)
          clear hdu hR hsn hln hx51' HUB
          rcases hcs with rfl | ⟨f1, f2, hwr⟩
          all_goals
            go_wp2_with fail
            (with_reducible refine (SM1.out).mono ?_); rintro e w6 ⟨rfl, k6⟩
            have K6 := K5.trans k6
            have c1 := C1'.out _ K6
            have hk6 := k6.blk HK5.out
            have hx6 := k6.blk HX5.out
            have hx61 : w6.cell? ⟨xb, 1, none⟩ = some (.int .i64 T) := hx6.chat (j := 1) (by omega)
            go_wp2_with fail
            go_roundg (gk - 1)
            case rel => exact ⟨i + 1, nw, nw, ⟨true, tab T, nw, k.sent + 1⟩, by omega, by omega, by go_num, rfl, rfl, HN.out.2.1, HN.out.2.2, hid ⟨fun _ => ⟨rfl, HN.out.2.1, rfl⟩, fun h => (by cases h), HN.out.2.1, Int.le_refl _⟩, HSE, hk6, hx6, K6⟩
            case measure => omega
    · by_cases hi : i = l.length
      · subst hi
        have e1 : decide ((l.length : Int) < (l.length : Int)) = false := by simp
        clear hlt
        go_wp2_with fail
        (with_reducible refine (live_c _).mono ?_); rintro e w3 ⟨rfl, k3⟩
        have K3 := K.trans k3
        go_wp2_with fail
        go_ret
        exact ⟨rfl, K3⟩
      · obtain rfl : i = 80 := by omega
        have d : (80 : Int) < (l.length : Int) := by omega
        have d' : decide ((80 : Int) < (l.length : Int)) = true := by simpa using d
        clear hlt hi
        go_wp2_with fail
        (with_reducible refine (live_c _).mono ?_); rintro e w3 ⟨rfl, k3⟩
        have K3 := K.trans k3
        go_wp2_with fail
        go_ret
        exact ⟨rfl, K3⟩

theorem apart_entry (v0 v1 : Value) (W : World) {base : Nat} (h0 : Rd Try.prog W 5 v0.cells.toList) (o0 : Value.okWide Try.prog W .any base 5 v0)
    (h1 : Rd Try.prog W 22 v1.cells.toList) (o1 : Value.okWide Try.prog W .any base 22 v1) :
    Calls Try.prog 3 #[v0, v1] W fun e w' => e = .returned (.bool true) ∧ Below W.heap.size W w' := by
  obtain ⟨tm, rfl, ht⟩ := opn_int Try.underlying5 h0 o0
  obtain ⟨A, bl, o, l, c, rfl, hlc, _, _, _, hrow, hP⟩ := opn_rows Tk.cells Tk.ok 12 (by decide) Try.underlying22 (by kernel_rfl) dec_tick h1 o1
  exact apart_c tm A bl o c l W (wf_u8 ht).1 (wf_u8 ht).2 hrow hlc hP

end Go.Proofs.Ytbjfhdkgbhkodaa
