/- The law PairTells: its walk. -/
import Derived.Test.YtfjmflkfnccohaaPTells2
import Derived.Deep.RegionHeldLaw
import Derived.Deep.AppendLies
set_option linter.unusedSimpArgs false
set_option linter.unusedVariables false
set_option linter.unnecessarySimpa false
namespace Go.Proofs.Ytfjmflkfnccohaa
open Go.RowKit Go.Proofs.YtfjmflkfnccohaaW.PrintWords
attribute [local go_sem] max2_max min2_min max_of_two min_of_two bxF_fr stF_fr stF_fr2 stF_put ldF_put ldV_put ldF_new guard_eq guard_ne bin_eq bin_ne alF_fr bdF_none bdF_ask bdF_len bdF_dat ext_drew' ext_alloc
attribute [local go_sem ↓] ldF_in ldV_in bxF_in stF_in cvS_in alF_in bdF_in ixS_in
attribute [local go_sem] gUpon cvB_run
attribute [local go_sem ↓] cvB_in

/-- One more behind a row of the call's own, at a step of a region that draws its order. -/
theorem stepR {α : Type} (L : Lay α) {ops : Array Oper} {o : Oper} {a : Act} {K : Act → World → Prop} {Q : Exit → Act → World → Prop} {E : Prop} {W : World} (hgd : o.guard = none) (s x : Operand)
    (ho : o.op = .call { callee := .builtin .append, args := #[s, x], argTypes := #[L.S, L.S] }) (base : Nat) {v : Value} {l : List α} {f : α} (hs : a.eval s = v) {B : Nat} (hx : a.eval x = .slice (some ⟨B, 0, none⟩) 1 1) (hB : B = W.heap.size)
    (hown : OwnR L W base v l) (hlen : l.length + 1 ≤ 1000000) (hbase : base ≤ W.heap.size)
    (h : ∀ v' w', OwnR L w' base v' (l ++ [f]) → Below base W w' → KeepR L.T W w' → K (a.put o.dst v') w') : if Region.wanted o (yielded ops a.tmps) = true then Oper.wp Try.prog o a (W.alloc (.cells (L.enc f).toArray L.T)) K Q else E := by
  have hw : Region.wanted o (yielded ops a.tmps) = true := by simp [Region.wanted, hgd]
  rw [if_pos hw]
  subst hB
  obtain ⟨i0, hi, hz0, hz1, hz2⟩ := info_parts L.info
  refine wp_append_own _ s x L.S ho base L.T i0 L.z L.k L.bytes L.under hi hz0 hz1 hz2 L.hz L.hk v l.length (L.cs l) hs (World.ownsRow.alloc hown _) ⟨W.heap.size, 0, none⟩ 1 1 (L.enc f) hx (by rw [L.len, Nat.one_mul]) ?_ (L.one f) ?_ ?_ ?_ ?_
  · intro j u hj
    have := (Blk.new W (L.enc f).toArray L.T).cell j u (by simpa using hj)
    rw [Addr.add_mid]
    simpa using this
  · unfold maxLen; omega
  · have := Nat.mul_le_mul hlen L.hb
    omega
  · simp; omega
  · intro v' w' h1 hg _
    have hsz := hg.size
    refine h v' w' ?_ ?_ ⟨by simp at hsz; omega, fun g cs t hb ht => ?_⟩
    · show w'.ownsRow base L.T L.k v' (l ++ [f]).length (L.cs (l ++ [f]))
      rw [L.cs_append]
      simpa [Lay.cs] using h1
    · refine ((Below.refl base W).alloc hbase _).grown hg (by simp; omega) (fun k hk => ?_)
      rcases hown.2 with ⟨rfl, _⟩ | ⟨g', cap, cur, rfl, hb', _⟩
      · simp [Value.ownBlock] at hk
      · have : g' = k := by simpa [Value.ownBlock] using hk
        omega
    · have h2 := hown.apart hb ht
      have hlt := hb.lt
      have := hg.block g (by simp; omega) (fun e => h2 e.symm)
      unfold Blk at hb ⊢
      rw [this, Below.heap_alloc _ _ _ hlt]
      exact hb
theorem stepC {ops : Array Oper} {o : Oper} {a : Act} {K : Act → World → Prop} {Q : Exit → Act → World → Prop} {E : Prop} {W : World} (hgd : o.guard = none) (s x : Operand)
    (ho : o.op = .call { callee := .builtin .append, args := #[s, x], argTypes := #[37, 37] }) (base : Nat) {v : Value} {l : List (Bool × List Int)} {tn : Bool} {b : List Int} (hs : a.eval s = v) {B : Nat} (hx : a.eval x = .slice (some ⟨B, 0, none⟩) 1 1) (hB : B = W.heap.size)
    (hown : OwnR LC W base v l) (hlen : l.length + 1 ≤ 1000000) (hbase : base ≤ W.heap.size)
    (h : ∀ v' w', OwnR LC w' base v' (l ++ [(tn, b)]) → Below base W w' → KeepR 39 W w' → K (a.put o.dst v') w') : if Region.wanted o (yielded ops a.tmps) = true then Oper.wp Try.prog o a (W.alloc (.cells #[.bool tn, .string (mkS b)] 39)) K Q else E :=
  stepR LC (f := (tn, b)) hgd s x ho base hs hx hB hown hlen hbase h

theorem OwnR.rows2 {w : World} {base : Nat} {A : Option Addr} {n c : Nat} {l : List (Bool × List Int)} (h : OwnR LC w base (.slice A n c) l) (hn : l.length ≤ 1000000) : ∃ bl, n = l.length ∧ l.length ≤ c ∧ RowOf cenc 2 w A bl 0 l := by
  obtain ⟨A', bl, c', he, hc, hr⟩ := h.rows hn
  injection he with h1 h2 h3
  subst h1 h2 h3
  exact ⟨bl, rfl, hc, hr⟩

set_option maxRecDepth 100000 in
set_option maxHeartbeats 4000000 in
theorem tells_yes (size : Int) (A : Option Addr) (bl o c : Nat) (l : List Cm) (w : World) (hl : RowOf Cm.cells 4 w A bl o l) (hc : l.length ≤ c) (hP : ∀ x ∈ l, Bs w x.v x.b ∧ x.b.length ≤ reachBytes) (s1 : 1 ≤ size) (s8 : size ≤ 8) :
    Calls Try.prog 4 #[.int .i64 size, .slice A l.length c] w fun e w' => e = .returned (.bool true) ∧ Ext w w' := by
  have hl0 := hl.1
  have HP := hid hP
  clear hP
  have t1 : decide (size < 1) = false := by simp; omega
  have t8 : decide (8 < size) = false := by simp; omega
  go_enter Try.func4, Try.ntmps4
  go_wp2_with fail
  (with_reducible refine (knew_c size _).mono ?_); rintro e w1 hk
  rw [if_neg (by omega)] at hk
  obtain ⟨cc0, rfl, hcc, hgc, k1⟩ := hk
  have hst : Qt size (tell size []) ⟨size, false, [], []⟩ [] := ⟨rfl, rfl, fun e => (by cases e), rfl, rfl, by simp, by simp, Byt.nil⟩
  have own0 := OwnR.zero (L := LC) w1 w.heap.size k1.le
  have K1 : Ext w (w1.alloc (.cells #[] 39)) := (by repeat (first | with_reducible exact Ext.refl _ | with_reducible assumption | with_reducible apply Ext.alloc | with_reducible apply Ext.drew | with_reducible apply Ext.drewN | (with_reducible refine Ext.set' ?_ (by first | omega | (simp only [World.size_alloc, World.size_setCell]; omega))) | (with_reducible refine Ext.trans ?_ (by with_reducible assumption)) | (with_reducible refine Ext.only ?_ (by with_reducible assumption) (by omega))))
  have hcc1 := hcc.ext ((Ext.refl w1).alloc (o := .cells #[] 39))
  clear k1 hcc
  go_wp2_with fail
  go_loopg [5, 7, 8, 9] 40 (fun g u5 u7 u8 u9 wr => ∃ (i : Nat) (cc : Nat) (s : Ck) (cs : List (Bool × List Int)) (good : List Int), i + g = 40 ∧ i ≤ l.length ∧ u9 = .int .i64 i ∧ u5 = .pointer (some ⟨cc, 0, none⟩) ∧ u8 = .string (mkS good) ∧ True ∧ w.heap.size ≤ cc ∧ CkAt wr cc s ∧ OwnR LC wr w.heap.size u7 cs ∧ Hid (Qt size (tell size cs) s good) ∧ Hid (∀ x ∈ cs, Byt x.2 ∧ x.2.length ≤ 1000000) ∧ Hid (cs.length ≤ i) ∧ Ext w wr)
  case atStart => exact ⟨0, cc0, _, [], [], rfl, by omega, rfl, rfl, rfl, trivial, hgc, hcc1, own0, hid hst, hid (by simp), hid (by simp), K1⟩
  case round =>
    clear hst hcc1 K1 own0 hgc
    obtain ⟨i, cc, s, cs, good, hig, hil, rfl, rfl, rfl, _, hgc, hck, own, hq, hPc, HLN, K⟩ := hrel
    obtain ⟨VA, vc, rfl⟩ := own.form
    by_cases hlt : i < l.length ∧ i < 40
    · obtain ⟨hlt, h40⟩ := hlt
      have e1 : decide ((i : Int) < (l.length : Int)) = true := by simpa using hlt
      have e2 : decide ((i : Int) < 40) = true := by simp; omega
      have i0 : (0 : Int) ≤ (i : Int) := by omega
      have i1 : (i : Int) < (l.length : Int) := by omega
      obtain ⟨rfl, hcell⟩ := hl.at K hlt
      have hPi := HP.out l[i] (List.getElem_mem _)
      have K0 := hid (hl.at (Ext.refl w) hlt).2
      generalize l[i] = cm at *
      obtain ⟨tn, cl, fk, v, b⟩ := cm
      obtain ⟨hb, hbl⟩ := hPi
      simp only at hb hbl
      have c0 : wr.cell? ⟨bl, o + i * 4, none⟩ = some (.bool tn) := hcell 0 (.bool tn) rfl
      have c1 : wr.cell? ⟨bl, o + i * 4 + 1, none⟩ = some (.bool cl) := hcell 1 (.bool cl) rfl
      have c2 : wr.cell? ⟨bl, o + i * 4 + 2, none⟩ = some (.bool fk) := hcell 2 (.bool fk) rfl
      have c3 := hcell 3 v rfl
      clear hcell
      obtain ⟨B, bb, bo, bc, rfl, hbc, _⟩ := id hb
      obtain ⟨nb, hnb⟩ : ∃ nb, min b.length 12 = nb := ⟨_, rfl⟩
      have hmn : min (b.length : Int) 12 = (nb : Int) := by omega
      have hbt0 := hb.cut nb (by omega)
      have hbt := hbt0.ext K
      have hln : (b.take nb).length = nb := by rw [List.length_take]; omega
      have n0 : (0 : Int) ≤ (nb : Int) := by omega
      have n1 : (nb : Int) ≤ (bc : Int) := by omega
      have hsd := (hbt.ext ((Ext.refl wr).drew)).str
      have hsd2 := (hbt.ext (((Ext.refl wr).drew).drew)).str
      have D : ∀ a : Addr, wr.drew.cell? a = wr.cell? a := fun a => rfl
      have D2 : ∀ a : Addr, wr.drew.drew.cell? a = wr.cell? a := fun a => rfl
      have hbyt := hbt.byt
      have h12 : (b.take nb).length ≤ 12 := by omega
      generalize b.take nb = bs at *
      have HC0 := hid (fun (w' : World) (q : Ext w w') => (show w'.cell? ⟨bl, o + i * 4, none⟩ = some (.bool tn) from (q.cell (K0.out 0 (.bool tn) rfl))))
      have HBT := hid (fun (w' : World) (q : Ext w w') => hbt0.ext q)
      have HB := hid (And.intro hbyt h12)
      have KR := K.drew
      have ckr := hck.ext ((Ext.refl wr).drew)
      have ownr := own.below ((Ext.refl wr).drew)
      have own2 : OwnR LC wr.drew.drew w.heap.size (.slice VA cs.length vc) cs := own.below (((Ext.refl wr).drew).drew)
      have ck2 : CkAt wr.drew.drew cc s := hck.ext (((Ext.refl wr).drew).drew)
      have KR2 : Ext w wr.drew.drew := K.drew.drew
      have hcl : cs.length + 1 ≤ 1000000 := by have := HLN.out; omega
      clear hnb hb hbt hbt0 hbyt h12 K0 hln hck own K
      cases cl
      · cases fk
        · cases tn
          · go_wp2_with fail
            go_region
            go_wp2_with fail
            go_region_held_law (fun w' => w'.cell? ⟨bl, o + i * 4, none⟩ = some (.bool false) ∧ (cvS (.slice B nb bc)).run Try.prog w' = .ok (.string (mkS bs)) w') (first | exact ⟨HC0.out _ KR2, (HBT.out _ KR2).str⟩ | exact ⟨HC0.out _ KR2.alloc, (HBT.out _ KR2.alloc).str⟩ | exact ⟨HC0.out _ (Ext.back KR2 (by assumption)), (HBT.out _ (Ext.back KR2 (by assumption))).str⟩) ((refine stepC (by rfl) (.tmp 84) (.tmp 93) (by rfl) w.heap.size (by rfl) (by rfl) (by first | with_reducible rfl | simp only [World.size_alloc, World.size_drew] | rfl | simp) own2 hcl (Ext.le KR2) ?_; intro v5 w5 o5 k5 kk5))
            have ck5 := ck2.keep kk5 (by decide) (by decide)
            have K5 : Ext w w5 := Ext.back KR2 k5
            clear ck2 own2 k5 kk5 KR2 ckr ownr KR hsd hsd2 c0 c1 c2 c3 D D2
            have HP2 : Hid (∀ x ∈ cs ++ [(false, bs)], Byt x.2 ∧ x.2.length ≤ 1000000) := hid (by
              intro x hx
              rcases List.mem_append.1 hx with h | h
              · exact hPc.out x h
              · rw [List.mem_singleton.1 h]; exact ⟨HB.out.1, by have := HB.out.2; show bs.length ≤ 1000000; omega⟩)
            have HLN2 : Hid ((cs ++ [(false, bs)]).length ≤ i + 1) := hid (by have := HLN.out; simp; omega)
            obtain ⟨V5, vc5, rfl⟩ := o5.form
            obtain ⟨hp1, hp2, hp3⟩ := hq.out.plain (bs := bs) HB.out.2
            rw [← tell_snoc] at hp1 hp2 hp3
            generalize cs ++ [(false, bs)] = cs2 at *
            obtain ⟨vbl5, _, hvc5, hrw5⟩ := o5.rows2 (by have := HLN2.out; omega)
            have TC := hid (tell_c size V5 vbl5 vc5 cs2 w5 hrw5 hvc5 (by have := HLN2.out; omega) HP2.out)
            have Q2 := hid hp3
            obtain ⟨rt, hrt⟩ : ∃ rt, Is (tell size cs2).t rt := ⟨_, Is.refl _⟩
            rw [hrt.eq] at hp1 hp2 TC
            generalize (tell size cs2).value = rv at TC
            generalize (tell size cs2).has = rh at TC
            have HS := hid hp1
            have d2 : (rt == 2) = false := by simpa using hp2
            have d3 : (rt == rt) = true := by simp
            clear hp1 hp2 hp3 hrw5 hvc5 hq
            cases rh
            all_goals
              go_wp2_with fail
              (with_reducible refine (TC.out).mono ?_); rintro e w6 ⟨rfl, k6⟩
              have ck6 := ck5.ext k6
              have own6 := o5.below k6
              have K6 := K5.trans k6
              have hb6 := HBT.out w6 K6
              have c0' := HC0.out w6 K6
              clear k6
              go_wp2_with fail
              (with_reducible refine (plain_c cc s _ bs _ ck6 hb6 (by have := HB.out.2; omega)).mono ?_); rintro e w7 ⟨rfl, ck7, k7⟩
              rw [HS.out]
              have own7 := own6.only ck6 k7
              have K7 := Ext.only K6 k7 hgc
              clear k7 ck6 own6 hb6 c0' TC ck5 o5
              generalize (s.plain bs).1 = s2 at *
              obtain ⟨vbl, -, hvc, hrw⟩ := own7.rows2 (by have := HLN2.out; omega)
              have HHF := hid (Q2.out.2.1.trans Q2.out.2.2.2.1.symm)
              have hvl := Q2.out.2.2.2.2.1
              have hgb := Q2.out.2.2.2.2.2.2.2
              have hgl := Q2.out.2.2.2.2.2.2.1
              have HG := hid (And.intro hvl (And.intro hgb hgl))
              have RH := hid (fun w' (k : Ext w7 w') => rhalf_c size V5 vbl vc5 cs2 w' (hrw.ext k) hvc (by have := HLN2.out; omega) HP2.out)
              try simp only [List.length_nil] at RH
              have VK := hid (fun w' (k : CkAt w' cc s2) => value_k cc s2 w' k (by rw [hvl]; omega))
              have HC := hid (half_c cc s2 w7 ck7)
              clear hvl hgb hgl hrw hvc
              obtain ⟨hf, hhf⟩ : ∃ hf, Is (Ck.half s2) hf := ⟨_, Is.refl _⟩
              rw [hhf.eq] at HC HHF
              go_wp2_with fail
              (with_reducible refine (HC.out).mono ?_); rintro e wa ⟨rfl, ka⟩
              go_wp2_with fail
              (with_reducible refine (RH.out _ ka).mono ?_); rintro e wb ⟨rfl, kb⟩
              rw [← HHF.out]
              have kab := ka.trans kb
              have e8 : (hf == hf) = true := by simp
              have ckb := ck7.ext kab
              have ownb := own7.below kab
              have KB := K7.trans kab
              clear ka kb HC RH
              go_wp2_with fail
              (with_reducible refine (VK.out _ ckb).mono ?_); rintro e wd ⟨vv, rfl, ov, kd⟩
              rw [HG.out.1] at ov
              have hsv := (Bs.own ov HG.out.2.1).str
              have e9 : ((mkS good).toList == (mkS good).toList) = true := by simp
              have ckd := ckb.ext kd
              have ownd := ownb.below kd
              have KD := KB.trans kd
              clear ov kd ckb ownb KB kab VK own7 ck7
              go_wp2_with fail
              go_roundg (gk - 1)
              case rel => exact ⟨i + 1, cc, s2, cs2, good, by omega, by omega, by go_num, rfl, rfl, trivial, hgc, ckd, ownd, Q2, HP2, hid (by have := HLN2.out; omega), KD⟩
              case measure => omega
          · go_wp2_with fail
            go_region
            go_wp2_with fail
            go_region_held_law (fun w' => w'.cell? ⟨bl, o + i * 4, none⟩ = some (.bool true) ∧ (cvS (.slice B nb bc)).run Try.prog w' = .ok (.string (mkS bs)) w') (first | exact ⟨HC0.out _ KR2, (HBT.out _ KR2).str⟩ | exact ⟨HC0.out _ KR2.alloc, (HBT.out _ KR2.alloc).str⟩ | exact ⟨HC0.out _ (Ext.back KR2 (by assumption)), (HBT.out _ (Ext.back KR2 (by assumption))).str⟩) ((refine stepC (by rfl) (.tmp 84) (.tmp 93) (by rfl) w.heap.size (by rfl) (by rfl) (by first | with_reducible rfl | simp only [World.size_alloc, World.size_drew] | rfl | simp) own2 hcl (Ext.le KR2) ?_; intro v5 w5 o5 k5 kk5))
            have hsb : Byt s.b := by obtain ⟨_, _, _, h, _⟩ := ck2; exact h.2
            have HSB := hid hq.out.2.2.2.2.2.1
            have ck5 := ck2.keep kk5 (by decide) (by decide)
            have K5 : Ext w w5 := Ext.back KR2 k5
            clear ck2 own2 k5 kk5 KR2 ckr ownr KR hsd hsd2 c0 c1 c2 c3 D D2
            have HP2 : Hid (∀ x ∈ cs ++ [(true, bs)], Byt x.2 ∧ x.2.length ≤ 1000000) := hid (by
              intro x hx
              rcases List.mem_append.1 hx with h | h
              · exact hPc.out x h
              · rw [List.mem_singleton.1 h]; exact ⟨HB.out.1, by have := HB.out.2; show bs.length ≤ 1000000; omega⟩)
            have HLN2 : Hid ((cs ++ [(true, bs)]).length ≤ i + 1) := hid (by have := HLN.out; simp; omega)
            obtain ⟨V5, vc5, rfl⟩ := o5.form
            obtain ⟨hp1, hp2, hp3⟩ := hq.out.turned hsb HB.out.2
            rw [← tell_snoc] at hp1 hp2 hp3
            generalize cs ++ [(true, bs)] = cs2 at *
            obtain ⟨vbl5, _, hvc5, hrw5⟩ := o5.rows2 (by have := HLN2.out; omega)
            have TC := hid (tell_c size V5 vbl5 vc5 cs2 w5 hrw5 hvc5 (by have := HLN2.out; omega) HP2.out)
            obtain ⟨rt, hrt⟩ : ∃ rt, Is (tell size cs2).t rt := ⟨_, Is.refl _⟩
            obtain ⟨rv, hrv⟩ : ∃ rv, Is (tell size cs2).value rv := ⟨_, Is.refl _⟩
            obtain ⟨rh, hrh⟩ : ∃ rh, Is (tell size cs2).has rh := ⟨_, Is.refl _⟩
            rw [hrt.eq, hrv.eq, hrh.eq] at TC
            rw [hrt.eq] at hp1
            rw [hrt.eq, hrh.eq] at hp2
            rw [hrt.eq, hrv.eq] at hp3
            have HS := hid hp1
            have d3 : (rt == rt) = true := by simp
            clear hp1 hrw5 hvc5 hq hsb
            by_cases h2 : rt = 2
            · subst h2
              obtain rfl : rh = true := hp2 rfl
              rw [if_pos rfl] at hp3
              have Q2 := hid hp3
              clear hp2 hp3
              go_wp2_with fail
              (with_reducible refine (TC.out).mono ?_); rintro e w6 ⟨rfl, k6⟩
              have ck6 := ck5.ext k6
              have own6 := o5.below k6
              have K6 := K5.trans k6
              have hb6 := HBT.out w6 K6
              have c0' := HC0.out w6 K6
              clear k6
              go_wp2_with fail
              (with_reducible refine (turned_c cc s _ bs _ ck6 hb6 (by have := HSB.out; omega)).mono ?_); rintro e w7 ⟨rfl, ck7, k7⟩
              rw [HS.out]
              have own7 := own6.only ck6 k7
              have K7 := Ext.only K6 k7 hgc
              clear k7 ck6 own6 hb6 c0' TC ck5 o5
              generalize (s.turned bs).1 = s2 at *
              obtain ⟨vbl, -, hvc, hrw⟩ := own7.rows2 (by have := HLN2.out; omega)
              have HHF := hid (Q2.out.2.1.trans Q2.out.2.2.2.1.symm)
              have hvl := Q2.out.2.2.2.2.1
              have hgb := Q2.out.2.2.2.2.2.2.2
              have hgl := Q2.out.2.2.2.2.2.2.1
              have HG := hid (And.intro hvl (And.intro hgb hgl))
              have RH := hid (fun w' (k : Ext w7 w') => rhalf_c size V5 vbl vc5 cs2 w' (hrw.ext k) hvc (by have := HLN2.out; omega) HP2.out)
              try simp only [List.length_nil] at RH
              have VK := hid (fun w' (k : CkAt w' cc s2) => value_k cc s2 w' k (by rw [hvl]; omega))
              have HC := hid (half_c cc s2 w7 ck7)
              clear hvl hgb hgl hrw hvc
              obtain ⟨hf, hhf⟩ : ∃ hf, Is (Ck.half s2) hf := ⟨_, Is.refl _⟩
              rw [hhf.eq] at HC HHF
              go_wp2_with fail
              (with_reducible refine (HC.out).mono ?_); rintro e wa ⟨rfl, ka⟩
              go_wp2_with fail
              (with_reducible refine (RH.out _ ka).mono ?_); rintro e wb ⟨rfl, kb⟩
              rw [← HHF.out]
              have kab := ka.trans kb
              have e8 : (hf == hf) = true := by simp
              have ckb := ck7.ext kab
              have ownb := own7.below kab
              have KB := K7.trans kab
              clear ka kb HC RH
              go_wp2_with fail
              (with_reducible refine (VK.out _ ckb).mono ?_); rintro e wd ⟨vv, rfl, ov, kd⟩
              rw [HG.out.1] at ov
              have hsv := (Bs.own ov HG.out.2.1).str
              have e9 : ((mkS rv).toList == (mkS rv).toList) = true := by simp
              have ckd := ckb.ext kd
              have ownd := ownb.below kd
              have KD := KB.trans kd
              clear ov kd ckb ownb KB kab VK own7 ck7
              go_wp2_with fail
              go_roundg (gk - 1)
              case rel => exact ⟨i + 1, cc, s2, cs2, rv, by omega, by omega, by go_num, rfl, rfl, trivial, hgc, ckd, ownd, Q2, HP2, hid (by have := HLN2.out; omega), KD⟩
              case measure => omega
            · rw [if_neg h2] at hp3
              have d2 : (rt == 2) = false := by simpa using h2
              have Q2 := hid hp3
              clear hp2 hp3 h2
              cases rh
              all_goals
                go_wp2_with fail
                (with_reducible refine (TC.out).mono ?_); rintro e w6 ⟨rfl, k6⟩
                have ck6 := ck5.ext k6
                have own6 := o5.below k6
                have K6 := K5.trans k6
                have hb6 := HBT.out w6 K6
                have c0' := HC0.out w6 K6
                clear k6
                go_wp2_with fail
                (with_reducible refine (turned_c cc s _ bs _ ck6 hb6 (by have := HSB.out; omega)).mono ?_); rintro e w7 ⟨rfl, ck7, k7⟩
                rw [HS.out]
                have own7 := own6.only ck6 k7
                have K7 := Ext.only K6 k7 hgc
                clear k7 ck6 own6 hb6 c0' TC ck5 o5
                generalize (s.turned bs).1 = s2 at *
                obtain ⟨vbl, -, hvc, hrw⟩ := own7.rows2 (by have := HLN2.out; omega)
                have HHF := hid (Q2.out.2.1.trans Q2.out.2.2.2.1.symm)
                have hvl := Q2.out.2.2.2.2.1
                have hgb := Q2.out.2.2.2.2.2.2.2
                have hgl := Q2.out.2.2.2.2.2.2.1
                have HG := hid (And.intro hvl (And.intro hgb hgl))
                have RH := hid (fun w' (k : Ext w7 w') => rhalf_c size V5 vbl vc5 cs2 w' (hrw.ext k) hvc (by have := HLN2.out; omega) HP2.out)
                try simp only [List.length_nil] at RH
                have VK := hid (fun w' (k : CkAt w' cc s2) => value_k cc s2 w' k (by rw [hvl]; omega))
                have HC := hid (half_c cc s2 w7 ck7)
                clear hvl hgb hgl hrw hvc
                obtain ⟨hf, hhf⟩ : ∃ hf, Is (Ck.half s2) hf := ⟨_, Is.refl _⟩
                rw [hhf.eq] at HC HHF
                go_wp2_with fail
                (with_reducible refine (HC.out).mono ?_); rintro e wa ⟨rfl, ka⟩
                go_wp2_with fail
                (with_reducible refine (RH.out _ ka).mono ?_); rintro e wb ⟨rfl, kb⟩
                rw [← HHF.out]
                have kab := ka.trans kb
                have e8 : (hf == hf) = true := by simp
                have ckb := ck7.ext kab
                have ownb := own7.below kab
                have KB := K7.trans kab
                clear ka kb HC RH
                go_wp2_with fail
                (with_reducible refine (VK.out _ ckb).mono ?_); rintro e wd ⟨vv, rfl, ov, kd⟩
                rw [HG.out.1] at ov
                have hsv := (Bs.own ov HG.out.2.1).str
                have e9 : ((mkS good).toList == (mkS good).toList) = true := by simp
                have ckd := ckb.ext kd
                have ownd := ownb.below kd
                have KD := KB.trans kd
                clear ov kd ckb ownb KB kab VK own7 ck7
                go_wp2_with fail
                go_roundg (gk - 1)
                case rel => exact ⟨i + 1, cc, s2, cs2, good, by omega, by omega, by go_num, rfl, rfl, trivial, hgc, ckd, ownd, Q2, HP2, hid (by have := HLN2.out; omega), KD⟩
                case measure => omega
        · have hbs : s.b.length ≤ 12 := hq.out.2.2.2.2.2.1
          have hvs : s.value.length ≤ 12 := by rw [hq.out.2.2.2.2.1]; exact hq.out.2.2.2.2.2.2.1
          have HN := hid (And.intro hbs hvs)
          have HPB : Hid ((s.plain bs).1.b.length ≤ 12) := hid (by have := HB.out.2; unfold Ck.plain Ck.clear; (repeat' split) <;> simp <;> omega)
          have HLN2 : Hid (cs.length ≤ i + 1) := hid (by have := HLN.out; omega)
          have hcl : cc < wr.drew.heap.size := by obtain ⟨_, _, h, _⟩ := ckr; exact h.lt
          clear ck2 own2 KR2 hsd2 D2 hbs hvs
          go_wp2_with fail
          go_region
          go_wp2_with fail
          (with_reducible refine (fork_c cc s _ ckr (by have := HN.out.1; omega) (by have := HN.out.2; omega)).mono ?_); rintro e w5 ⟨gg, rfl, ckg, hgg, k5⟩
          have hne : gg ≠ cc := by omega
          have ck5 := ckr.ext k5
          have own5 := ownr.below k5
          have K5 := KR.trans k5
          have hg2 : w.heap.size ≤ gg := Nat.le_trans KR.le hgg
          have hb5 := HBT.out w5 K5
          clear k5 ckr ownr KR hsd c0 c1 c2 c3 D
          go_wp2_with fail
          (with_reducible refine (plain_c cc s _ bs _ ck5 hb5 (by have := HB.out.2; omega)).mono ?_); rintro e w6 ⟨rfl, ck6, k6⟩
          have ckg6 := ckg.far ck5 hne k6
          have own6 := own5.only ck5 k6
          have K6 := Ext.only K5 k6 hgc
          have hb6 := HBT.out w6 K6
          clear k6 ckg ck5 own5 K5 hb5
          go_wp2_with fail
          (with_reducible refine (rflip2_c _ bs _ hb6 (by have := HB.out.2; omega)).mono ?_); rintro e wf ⟨vf, rfl, of, kf⟩
          have hbf := Bs.own of (flipL_byt HB.out.1)
          have ckgf := ckg6.ext kf
          have ckf := ck6.ext kf
          have ownf := own6.below kf
          have Kf := K6.trans kf
          clear of kf ckg6 ck6 own6 K6 hb6
          go_wp2_with fail
          (with_reducible refine (turned_c cc _ _ (flipL bs) _ ckf hbf (by have := HPB.out; omega)).mono ?_); rintro e w7 ⟨rfl, _, k7⟩
          have ck7 := ckgf.far ckf hne k7
          have own7 := ownf.only ckf k7
          have K7 := Ext.only Kf k7 hgc
          clear k7 ckgf ckf ownf Kf hbf
          obtain ⟨vbl, -, hvc, hrw⟩ := own7.rows2 (by have := HLN2.out; omega)
          have HHF := hid (hq.out.2.1.trans hq.out.2.2.2.1.symm)
          have hvl := hq.out.2.2.2.2.1
          have hgb := hq.out.2.2.2.2.2.2.2
          have hgl := hq.out.2.2.2.2.2.2.1
          have HG := hid (And.intro hvl (And.intro hgb hgl))
          have RH := hid (fun w' (k : Ext w7 w') => rhalf_c size VA vbl vc cs w' (hrw.ext k) hvc (by have := HLN2.out; omega) hPc.out)
          try simp only [List.length_nil] at RH
          have VK := hid (fun w' (k : CkAt w' gg s) => value_k gg s w' k (by rw [hvl]; omega))
          have HC := hid (half_c gg s w7 ck7)
          clear hvl hgb hgl hrw hvc
          obtain ⟨hf, hhf⟩ : ∃ hf, Is (Ck.half s) hf := ⟨_, Is.refl _⟩
          rw [hhf.eq] at HC HHF
          go_wp2_with fail
          (with_reducible refine (HC.out).mono ?_); rintro e wa ⟨rfl, ka⟩
          go_wp2_with fail
          (with_reducible refine (RH.out _ ka).mono ?_); rintro e wb ⟨rfl, kb⟩
          rw [← HHF.out]
          have kab := ka.trans kb
          have e8 : (hf == hf) = true := by simp
          have ckb := ck7.ext kab
          have ownb := own7.below kab
          have KB := K7.trans kab
          clear ka kb HC RH
          go_wp2_with fail
          (with_reducible refine (VK.out _ ckb).mono ?_); rintro e wd ⟨vv, rfl, ov, kd⟩
          rw [HG.out.1] at ov
          have hsv := (Bs.own ov HG.out.2.1).str
          have e9 : ((mkS good).toList == (mkS good).toList) = true := by simp
          have ckd := ckb.ext kd
          have ownd := ownb.below kd
          have KD := KB.trans kd
          clear ov kd ckb ownb KB kab VK own7 ck7
          go_wp2_with fail
          go_roundg (gk - 1)
          case rel => exact ⟨i + 1, gg, s, cs, good, by omega, by omega, by go_num, rfl, rfl, trivial, hg2, ckd, ownd, hq, hPc, hid (by have := HLN2.out; omega), KD⟩
          case measure => omega
      · have HLN2 : Hid (([] : List (Bool × List Int)).length ≤ i + 1) := hid (by simp)
        have Q2 : Hid (Qt size (tell size []) s.clear good) := hid hq.out.clear
        have HP2 : Hid (∀ x ∈ ([] : List (Bool × List Int)), Byt x.2 ∧ x.2.length ≤ 1000000) := hid (by simp)
        clear ck2 own2 KR2 hsd2 D2
        go_wp2_with fail
        go_region
        go_wp2_with fail
        (with_reducible refine (clear_c cc s _ ckr).mono ?_); rintro e w7 ⟨rfl, ck7, k7⟩
        have K7 := Ext.only KR k7 hgc
        have own7 := OwnR.nil (L := LC) w7 w.heap.size
        clear k7 ckr ownr KR hsd c0 c1 c2 c3 D hq
        generalize s.clear = s2 at *
        obtain ⟨vbl, -, hvc, hrw⟩ := own7.rows2 (by have := HLN2.out; omega)
        have HHF := hid (Q2.out.2.1.trans Q2.out.2.2.2.1.symm)
        have hvl := Q2.out.2.2.2.2.1
        have hgb := Q2.out.2.2.2.2.2.2.2
        have hgl := Q2.out.2.2.2.2.2.2.1
        have HG := hid (And.intro hvl (And.intro hgb hgl))
        have RH := hid (fun w' (k : Ext w7 w') => rhalf_c size none vbl 0 [] w' (hrw.ext k) hvc (by have := HLN2.out; omega) HP2.out)
        try simp only [List.length_nil] at RH
        have VK := hid (fun w' (k : CkAt w' cc s2) => value_k cc s2 w' k (by rw [hvl]; omega))
        have HC := hid (half_c cc s2 w7 ck7)
        clear hvl hgb hgl hrw hvc
        obtain ⟨hf, hhf⟩ : ∃ hf, Is (Ck.half s2) hf := ⟨_, Is.refl _⟩
        rw [hhf.eq] at HC HHF
        go_wp2_with fail
        (with_reducible refine (HC.out).mono ?_); rintro e wa ⟨rfl, ka⟩
        go_wp2_with fail
        (with_reducible refine (RH.out _ ka).mono ?_); rintro e wb ⟨rfl, kb⟩
        rw [← HHF.out]
        have kab := ka.trans kb
        have e8 : (hf == hf) = true := by simp
        have ckb := ck7.ext kab
        have ownb := own7.below kab
        have KB := K7.trans kab
        clear ka kb HC RH
        go_wp2_with fail
        (with_reducible refine (VK.out _ ckb).mono ?_); rintro e wd ⟨vv, rfl, ov, kd⟩
        rw [HG.out.1] at ov
        have hsv := (Bs.own ov HG.out.2.1).str
        have e9 : ((mkS good).toList == (mkS good).toList) = true := by simp
        have ckd := ckb.ext kd
        have ownd := ownb.below kd
        have KD := KB.trans kd
        clear ov kd ckb ownb KB kab VK own7 ck7
        go_wp2_with fail
        go_roundg (gk - 1)
        case rel => exact ⟨i + 1, cc, s2, [], good, by omega, by omega, by go_num, rfl, rfl, trivial, hgc, ckd, ownd, Q2, HP2, hid (by have := HLN2.out; omega), KD⟩
        case measure => omega
    · by_cases hi : i = l.length
      · subst hi
        clear hlt
        go_wp2_with fail
        (with_reducible refine (live_c _).mono ?_); rintro e w2 ⟨rfl, k2⟩
        go_wp2_with fail
        go_ret
        exact ⟨rfl, (by repeat (first | with_reducible exact Ext.refl _ | with_reducible assumption | with_reducible apply Ext.alloc | with_reducible apply Ext.drew | with_reducible apply Ext.drewN | (with_reducible refine Ext.set' ?_ (by first | omega | (simp only [World.size_alloc, World.size_setCell]; omega))) | (with_reducible refine Ext.trans ?_ (by with_reducible assumption)) | (with_reducible refine Ext.only ?_ (by with_reducible assumption) (by omega))))⟩
      · obtain rfl : i = 40 := by omega
        have d : (40 : Int) < (l.length : Int) := by omega
        have d' : decide ((40 : Int) < (l.length : Int)) = true := by simpa using d
        clear hlt hi
        go_wp2_with fail
        (with_reducible refine (live_c _).mono ?_); rintro e w2 ⟨rfl, k2⟩
        go_wp2_with fail
        go_ret
        exact ⟨rfl, (by repeat (first | with_reducible exact Ext.refl _ | with_reducible assumption | with_reducible apply Ext.alloc | with_reducible apply Ext.drew | with_reducible apply Ext.drewN | (with_reducible refine Ext.set' ?_ (by first | omega | (simp only [World.size_alloc, World.size_setCell]; omega))) | (with_reducible refine Ext.trans ?_ (by with_reducible assumption)) | (with_reducible refine Ext.only ?_ (by with_reducible assumption) (by omega))))⟩

theorem tells_entry (v0 v1 : Value) (W : World) {base : Nat} (h0 : Rd Try.prog W 3 v0.cells.toList) (o0 : Value.okWide Try.prog W .any base 3 v0)
    (h1 : Rd Try.prog W 22 v1.cells.toList) (o1 : Value.okWide Try.prog W .any base 22 v1) :
    Calls Try.prog 4 #[v0, v1] W fun e w' => e = .returned (.bool true) ∧ Below W.heap.size W w' := by
  obtain ⟨size, rfl, _⟩ := opn_int Try.underlying3 h0 o0
  obtain ⟨A, bl, o, l, c, rfl, hlc, _, _, _, hrow, hP⟩ := opn_rows Cm.cells (fun x => Bs W x.v x.b ∧ x.b.length ≤ reachBytes) 4 (by decide) Try.underlying22 (by kernel_rfl) dec_came h1 o1
  by_cases h : size < 1 ∨ 8 < size
  · exact tells_no size A c l.length W h
  · exact tells_yes size A bl o c l W hrow hlc hP (by omega) (by omega)

end Go.Proofs.Ytfjmflkfnccohaa
