/- Layer 27: the reference's Tell and Half. -/
import Derived.Test.YtfjmflkfnccohaaOwnR
import Derived.Test.YtfjmflkfnccohaaStrB
import Derived.Test.YtfjmflkfnccohaaRFlip2
import Derived.Test.YtfjmflkfnccohaaOrd
set_option linter.unusedSimpArgs false
set_option linter.unusedVariables false
set_option linter.unnecessarySimpa false
namespace Go.Proofs.Ytfjmflkfnccohaa
open Go.RowKit Go.Proofs.YtfjmflkfnccohaaW.PrintWords
attribute [local go_sem] max2_max min2_min max_of_two min_of_two bxF_fr stF_fr stF_fr2 stF_put ldF_put ldV_put ldF_new guard_eq guard_ne bin_eq bin_ne alF_fr bdF_none bdF_ask bdF_len bdF_dat ext_drew' ext_alloc
attribute [local go_sem ↓] ldF_in ldV_in bxF_in stF_in cvS_in alF_in bdF_in ixS_in
attribute [local go_sem] gUpon gStill cvB_run
attribute [local go_sem ↓] cvB_in

/-- What the document's answer knows behind some frames. -/
structure Rt where
  t : Int
  value : List Int
  has : Bool
  half : Bool
  first : List Int
def Rt.step (size : Int) (r : Rt) (c : Bool × List Int) : Rt :=
  if (c.2.length : Int) ≠ size then ⟨4, r.value, r.has, false, r.first⟩
  else if r.half ≠ c.1 then ⟨3, r.value, r.has, false, r.first⟩
  else if c.1 = false then ⟨1, r.value, r.has, true, c.2⟩
  else if flipL r.first ≠ c.2 then ⟨5, r.value, r.has, false, r.first⟩
  else ⟨2, r.first, true, false, r.first⟩
def Rt.zero : Rt := ⟨0, [], false, false, []⟩
def tell (size : Int) (l : List (Bool × List Int)) : Rt := l.foldl (Rt.step size) Rt.zero
theorem tell_snoc (size : Int) (l : List (Bool × List Int)) (c : Bool × List Int) : tell size (l ++ [c]) = (tell size l).step size c := by simp [tell]
def Rt.ok (r : Rt) : Prop := Byt r.first ∧ r.first.length ≤ 1000000 ∧ Byt r.value
theorem Rt.ok_step {size : Int} {r : Rt} {c : Bool × List Int} (h : r.ok) (hb : Byt c.2) (hn : c.2.length ≤ 1000000) : (r.step size c).ok := by
  unfold Rt.step
  (repeat' split) <;> first | exact h | exact ⟨hb, hn, h.2.2⟩ | exact ⟨h.1, h.2.1, h.1⟩

def cenc (c : Bool × List Int) : List Value := [.bool c.1, .string (mkS c.2)]
noncomputable def LC : Lay (Bool × List Int) := ⟨39, 37, 2, 24, .agg #[.bool false, .string (⟨#[]⟩ : ByteArray)], cenc, fun _ => rfl, fun a u hu => by
    simp only [cenc, List.mem_cons, List.not_mem_nil, or_false] at hu
    rcases hu with rfl | rfl <;> rfl, Try.underlying37, by kernel_rfl, rfl, by decide, by decide⟩

set_option maxRecDepth 100000 in
set_option maxHeartbeats 4000000 in
theorem tell_c (size : Int) (A : Option Addr) (bl c : Nat) (l : List (Bool × List Int)) (w : World) (hl : RowOf cenc 2 w A bl 0 l) (hc : l.length ≤ c) (hn : l.length ≤ 1000) (hP : ∀ x ∈ l, Byt x.2 ∧ x.2.length ≤ 1000000) :
    Calls Try.prog 16 #[.int .i64 size, .slice A l.length c] w fun e w' => e = .returned (.tuple #[.int .i64 (tell size l).t, .string (mkS (tell size l).value), .bool (tell size l).has]) ∧ Ext w w' := by
  have HP := hid hP
  clear hP
  obtain ⟨R, hR⟩ : ∃ R, Is (tell size l) R := ⟨_, Is.refl _⟩
  rw [hR.eq]
  have K0 := Ext.refl w
  go_enter Try.func16, Try.ntmps16
  go_wp2_with fail
  go_loopg [4, 5, 6, 7, 8, 9] l.length (fun g u4 u5 u6 u7 u8 u9 wr => ∃ (i : Nat) (r : Rt), i + g = l.length ∧ u9 = .int .i64 i ∧ u4 = .int .i64 r.t ∧ u5 = .string (mkS r.value) ∧ u6 = .bool r.has ∧ u7 = .bool r.half ∧ u8 = .string (mkS r.first) ∧ Hid (tell size (l.take i) = r ∧ r.ok) ∧ Ext w wr)
  case atStart => exact ⟨0, Rt.zero, by omega, rfl, rfl, rfl, rfl, rfl, rfl, hid ⟨rfl, Byt.nil, by decide, Byt.nil⟩, K0⟩
  case round =>
    clear K0
    obtain ⟨i, r, hig, rfl, rfl, rfl, rfl, rfl, rfl, hr, K⟩ := hrel
    by_cases hlt : i < l.length
    · have e1 : decide ((i : Int) < (l.length : Int)) = true := by simpa using hlt
      have i0 : (0 : Int) ≤ (i : Int) := by omega
      have i1 : (i : Int) < (l.length : Int) := by omega
      obtain ⟨rfl, hcell⟩ := hl.at K hlt
      have HC := hid (fun wq (q : Ext w wq) => (hl.at q hlt).2)
      have hPi := HP.out l[i] (List.getElem_mem _)
      have hsn : tell size (l.take (i + 1)) = (tell size (l.take i)).step size l[i] := by
        rw [List.take_add_one, List.getElem?_eq_getElem hlt]; exact tell_snoc size (l.take i) l[i]
      generalize l[i] = x at *
      obtain ⟨tn, b⟩ := x
      simp only at hPi
      obtain ⟨⟨hby, hbl⟩, hrt, hok⟩ := And.intro hPi hr.out
      rw [hrt] at hsn
      have c0 : wr.cell? ⟨bl, i * 2, none⟩ = some (.bool tn) := by simpa using hcell 0 (.bool tn) rfl
      have c1 : wr.cell? ⟨bl, i * 2 + 1, none⟩ = some (.string (mkS b)) := by simpa using hcell 1 (.string (mkS b)) rfl
      have hsz : (mkS b).size = b.length := mkS_size b
      have hst := Rt.ok_step (size := size) (c := (tn, b)) hok hby hbl
      clear hcell hr
      obtain ⟨rt, rv, rh, rf, rb⟩ := r
      simp only at *
      unfold Rt.step at hsn hst
      simp only at hsn hst
      by_cases hs : (b.length : Int) ≠ size
      · rw [if_pos hs] at hsn hst
        have e2 : ((b.length : Int) != size) = true := by simpa using hs
        have HS := hid (And.intro hsn hst)
        clear hsn hst hs hok hby hrt
        go_wp2_with fail
        go_roundg (gk - 1)
        case rel => exact ⟨i + 1, _, by omega, by go_num, rfl, rfl, rfl, rfl, rfl, HS, K⟩
        case measure => omega
      · rw [if_neg hs] at hsn hst
        have e2 : ((b.length : Int) != size) = false := by simpa using hs
        clear hs
        cases rf <;> cases tn
        · rw [if_neg (by decide), if_pos rfl] at hsn hst
          have HS := hid (And.intro hsn hst)
          clear hsn hst hok hby hrt
          go_wp2_with fail
          go_roundg (gk - 1)
          case rel => exact ⟨i + 1, _, by omega, by go_num, rfl, rfl, rfl, rfl, rfl, HS, K⟩
          case measure => omega
        · rw [if_pos (by decide)] at hsn hst
          have HS := hid (And.intro hsn hst)
          clear hsn hst hok hby hrt
          go_wp2_with fail
          go_roundg (gk - 1)
          case rel => exact ⟨i + 1, _, by omega, by go_num, rfl, rfl, rfl, rfl, rfl, HS, K⟩
          case measure => omega
        · rw [if_pos (by decide)] at hsn hst
          have HS := hid (And.intro hsn hst)
          clear hsn hst hok hby hrt
          go_wp2_with fail
          go_roundg (gk - 1)
          case rel => exact ⟨i + 1, _, by omega, by go_num, rfl, rfl, rfl, rfl, rfl, HS, K⟩
          case measure => omega
        · rw [if_neg (by decide), if_neg (by decide)] at hsn hst
          have hfb := flipL_byt hok.1
          have hsd := str_dec hfb hby
          have HB := hid (And.intro hok (And.intro hfb hby))
          have hk1 : Byt rb := hok.1
          have hk2 : rb.length ≤ 1000000 := hok.2.1
          have HK := hid (And.intro hk1 hk2)
          clear hk1 hk2
          obtain ⟨fe, hfe⟩ : ∃ fe, Is (decide (flipL rb = b)) fe := ⟨_, Is.refl _⟩
          rw [hfe.eq] at hsd
          have d1 : ∀ x : After wr, x.wd.cell? ⟨bl, i * 2 + 1, none⟩ = some (.string (mkS b)) := After.cell c1
          have C1 : ∀ x : After wr, x.wd.cell? ⟨bl, i * 2, none⟩ = some (.bool true) := After.cell c0
          clear hok hfb hby hrt
          go_wp2_with fail
          refine wp_region_go (sp := spOf (R := Ext) [(1, Told.bs rb), (2, Told.bs (flipL rb))]) (C := fun w' => ∃ n : After wr, w' = n.wd) (R := Ext) (by kernel_rfl) (by kernel_rfl) (spOf_mono _) (After.drew _) ?_
          repeat (first | ((with_reducible refine go_nil ?_)) | (refine go_skip' (by rfl) ?_; (try simp only [Act.put, List.setIfInBounds_toArray, List.set_cons_zero, List.set_cons_succ])) | (refine go_quiet' (by rfl) (by rfl) (by rfl) ?_; intro K hK; go_big_quiet_op; go_big_quiet_on) | (refine go_nilcheck _ _ rfl rfl (by rfl) (by rfl) ?_; (try simp only [Act.put, List.setIfInBounds_toArray, List.set_cons_zero, List.set_cons_succ])))
          (refine go_act (by rfl) (by rfl) ?_ ?_; (focus (intro w' hC hM; obtain ⟨x, rfl⟩ := hC; ((have hbs := hid (sbW_bs x.wd rb HK.out.1 (by have := HK.out.2; omega)); have hbe := hid (sbW_ext x.wd rb); clear hM c0 c1 d1 C1; go_simp; exact ⟨⟨⟨_, x.ext.trans hbe.out⟩, rfl⟩, hbe.out, hbs.out⟩)))); intro v hv; obtain ⟨_, _, hv, _⟩ := hv; ((revert hv; revert v; intro u1 hv)); (try simp only [Act.put, List.setIfInBounds_toArray, List.set_cons_zero, List.set_cons_succ]))
          (refine go_act (by rfl) (by rfl) ?_ ?_; (focus (intro w' hC hM; obtain ⟨x, rfl⟩ := hC; ((have f1 : Bs x.wd u1 rb := hM _ (.inl rfl) ⟨52, rfl, by decide⟩; have HF1 := hid f1; clear hM c0 c1 d1 C1 f1; go_simp; exact Calls.told_bs HB.out.2.1 (rflip2_c _ _ _ HF1.out (by have := HK.out.2; omega)))))); intro v hv; obtain ⟨_, _, hv, _⟩ := hv; ((revert hv; revert v; intro u2 hv)); (try simp only [Act.put, List.setIfInBounds_toArray, List.set_cons_zero, List.set_cons_succ]))
          refine go_fact (by rfl) (by rfl) (.string (mkS (flipL rb))) ?_ ?_
          · intro w' hC hM
            obtain ⟨x, rfl⟩ := hC
            have f2 : Bs x.wd u2 (flipL rb) := hM _ (.inl rfl) ⟨53, rfl, by decide⟩
            have hs2 := f2.str
            clear hM c0 c1 d1 C1 f2
            go_simp
          (try simp only [Act.put, List.setIfInBounds_toArray, List.set_cons_zero, List.set_cons_succ])
          repeat (first | ((with_reducible refine go_nil ?_)) | (refine go_skip' (by rfl) ?_; (try simp only [Act.put, List.setIfInBounds_toArray, List.set_cons_zero, List.set_cons_succ])) | (refine go_quiet' (by rfl) (by rfl) (by rfl) ?_; intro K hK; go_big_quiet_op; go_big_quiet_on) | (refine go_nilcheck _ _ rfl rfl (by rfl) (by rfl) ?_; (try simp only [Act.put, List.setIfInBounds_toArray, List.set_cons_zero, List.set_cons_succ])))
          intro w1 hC hall
          obtain ⟨x, rfl⟩ := hC
          have KX := Ext.trans K x.ext
          generalize x.wd = wx at *
          clear hall c0 c1 d1 C1 hv
          cases fe
          · have hq : flipL rb ≠ b := of_decide_eq_false hfe.eq
            rw [if_pos hq] at hsn hst
            have HS := hid (And.intro hsn hst)
            clear hsn hst hq hfe
            go_wp2_with fail
            go_roundg (gk - 1)
            case rel => exact ⟨i + 1, _, by omega, by go_num, rfl, rfl, rfl, rfl, rfl, HS, KX⟩
            case measure => omega
          · have hq : flipL rb = b := of_decide_eq_true hfe.eq
            rw [if_neg (by simpa using hq)] at hsn hst
            have HS := hid (And.intro hsn hst)
            clear hsn hst hq hfe
            go_wp2_with fail
            go_roundg (gk - 1)
            case rel => exact ⟨i + 1, _, by omega, by go_num, rfl, rfl, rfl, rfl, rfl, HS, KX⟩
            case measure => omega
    · obtain rfl : i = l.length := by omega
      have hrR : r = R := by rw [← hR.eq, ← hr.out.1, List.take_length]
      subst hrR
      have hlt' : decide ((l.length : Int) < (l.length : Int)) = false := by simp
      obtain ⟨rt, rv, rh, rf, rb⟩ := r
      go_wp2_with fail
      exact bodyPost_ret (v := .tuple #[.int .i64 rt, .string (mkS rv), .bool rh]) (by simp [results, Try.results16, go_sem, *]) rfl ⟨rfl, K⟩

set_option maxHeartbeats 1000000 in
theorem rhalf_c (size : Int) (A : Option Addr) (bl c : Nat) (l : List (Bool × List Int)) (w : World) (hl : RowOf cenc 2 w A bl 0 l) (hc : l.length ≤ c) (hn : l.length ≤ 1000) (hP : ∀ x ∈ l, Byt x.2 ∧ x.2.length ≤ 1000000) :
    Calls Try.prog 17 #[.int .i64 size, .slice A l.length c] w fun e w' => e = .returned (.bool ((tell size l).t == 1)) ∧ Ext w w' := by
  have T := hid (tell_c size A bl c l w hl hc hn hP)
  generalize tell size l = R at *
  obtain ⟨rt, rv, rh, rf, rb⟩ := R
  clear hl hP
  go_enter Try.func17, Try.ntmps17
  go_wp2_with fail
  (with_reducible refine (T.out).mono ?_); rintro e w1 ⟨rfl, k1⟩
  go_wp2_with fail
  go_ret
  exact ⟨rfl, k1⟩

end Go.Proofs.Ytfjmflkfnccohaa
