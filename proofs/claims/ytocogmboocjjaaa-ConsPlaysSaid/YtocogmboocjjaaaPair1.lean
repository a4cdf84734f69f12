/- Package pair: Like, the checker's methods; bytes.Clone, bytes.Equal. -/
import Derived.Test.YtocogmboocjjaaaFrV
import Derived.Test.YtocogmboocjjaaaWFlip
import Derived.Test.YtocogmboocjjaaaOrd
import Derived.Laws.Cover3
set_option linter.unusedSimpArgs false
set_option linter.unusedVariables false
set_option linter.unnecessarySimpa false
namespace Go.Proofs.Ytocogmboocjjaaa
open Go.RowKit Go.Proofs.YtocogmboocjjaaaW.PrintWords
attribute [local go_sem] max2_max min2_min max_of_two min_of_two bxF_fr stF_fr stF_fr2 stF_put ldF_put ldV_put ldF_new guard_eq guard_ne bin_eq bin_ne alF_fr bdF_none bdF_ask bdF_len bdF_dat ext_drew' ext_alloc
attribute [local go_sem ↓] ldF_in ldV_in bxF_in stF_in cvS_in alF_in bdF_in ixS_in

theorem eql_slice_nil (a : Option Addr) (l c : Nat) (w : World) : (binOp .eql 38 (.slice a l c) (.slice none 0 0)).run Try.prog w = .ok (.bool a.isNone) w := by
  simp only [binOp]
  simp [run_equal_slice_nil w 38 5 a l c Try.underlying38]
attribute [local go_sem] eql_slice_nil
theorem Bs.only {w w' : World} {c : Nat} {cs : Array Value} {t : TypeId} {v : Value} {l : List Int} (h : Bs w v l) (hb : Blk w c cs t) (hn : ∀ (i : Nat) (n : Int), cs[i]? ≠ some (Value.int .u8 n)) (k : Only c w w') : Bs w' v l := by
  obtain ⟨A, bl, o, cp, rfl, hlc, hrow, hby⟩ := h
  refine ⟨A, bl, o, cp, rfl, hlc, ⟨hrow.1, fun h0 => ⟨(hrow.2.1 h0).1, Nat.lt_of_lt_of_le (hrow.2.1 h0).2 k.size⟩, fun i hi => ?_⟩, hby⟩
  have hc := hrow.2.2 i hi
  have hlt := (hrow.2.1 (by omega)).2
  have hne : bl ≠ c := by
    rintro rfl
    unfold Blk at hb
    have : cs[o + i]? = some (.int .u8 (l.getD i 0)) := by simpa [World.cell?, hb] using hc
    exact hn _ _ this
  rw [← hc]
  simp only [World.cell?, k.block bl hlt hne]

set_option maxHeartbeats 1000000 in
theorem clone_c (v : Value) (l : List Int) (w : World) (hv : Bs w v l) (hn : l.length ≤ 140737488355000) :
    Calls Try.prog 58 #[v] w fun e w' => ∃ u, e = .returned u ∧ Own8 w' w.heap.size u l ∧ Ext w w' := by
  have hv' := hv
  obtain ⟨A, bl, o, c, rfl, hlc, hrow, hb⟩ := hv'
  rcases A with _ | a
  · have h0 : l = [] := by
      rcases l with _ | ⟨x, t⟩
      · rfl
      · have := (hrow.2.1 (by simp)).1; cases this
    subst h0
    go_enter Try.func58, Try.ntmps58
    go_wp2_with fail
    go_ret
    exact ⟨_, rfl, Own8.nil _ _, (by repeat (first | with_reducible exact Ext.refl _ | with_reducible assumption | with_reducible apply Ext.alloc | with_reducible apply Ext.drew | with_reducible apply Ext.drewN | (with_reducible refine Ext.set' ?_ (by first | omega | (simp only [World.size_alloc, World.size_setCell]; omega))) | (with_reducible refine Ext.trans ?_ (by with_reducible assumption)) | (with_reducible refine Ext.only ?_ (by with_reducible assumption) (by omega))))⟩
  · have o0 := own8_new w w.heap.size (Nat.le_refl _)
    have hs : Bs (w.alloc (.cells #[] 5)) (.slice (some a) l.length c) l := hv.ext (Ext.alloc (Ext.refl _))
    have hl2 : ([] : List Int).length + l.length ≤ 140737488355328 := by simp; omega
    clear hrow hb hlc hv
    go_enter Try.func58, Try.ntmps58
    go_wp2_with (at_builtin; go_must (refine app8r rfl (.tmp 5) (.tmp 6) rfl w.heap.size rfl rfl hs o0 (by first | omega | (simp only [List.length_append, List.length_cons, List.length_nil]; omega)) (Ext.le (by repeat (first | with_reducible exact Ext.refl _ | with_reducible assumption | with_reducible apply Ext.alloc | with_reducible apply Ext.drew | with_reducible apply Ext.drewN | (with_reducible refine Ext.set' ?_ (by first | omega | (simp only [World.size_alloc, World.size_setCell]; omega))) | (with_reducible refine Ext.trans ?_ (by with_reducible assumption)) | (with_reducible refine Ext.only ?_ (by with_reducible assumption) (by omega))))) ?_); intro v5 w5 o5 k5 kk5; have K5 : Ext w w5 := Ext.back (by repeat (first | with_reducible exact Ext.refl _ | with_reducible assumption | with_reducible apply Ext.alloc | with_reducible apply Ext.drew | with_reducible apply Ext.drewN | (with_reducible refine Ext.set' ?_ (by first | omega | (simp only [World.size_alloc, World.size_setCell]; omega))) | (with_reducible refine Ext.trans ?_ (by with_reducible assumption)) | (with_reducible refine Ext.only ?_ (by with_reducible assumption) (by omega)))) k5; clear k5; (skip))
    rw [List.nil_append] at o5
    go_ret
    exact ⟨_, rfl, o5, K5⟩

set_option maxHeartbeats 1000000 in
theorem equal_c (va vb : Value) (a b : List Int) (w : World) (ha : Bs w va a) (hb : Bs w vb b) :
    Calls Try.prog 65 #[va, vb] w fun e w' => e = .returned (.bool (decide (a = b))) ∧ Ext w w' := by
  have h1 := ha.str
  have h2 := hb.str
  have hd := str_dec ha.byt hb.byt
  go_enter Try.func65, Try.ntmps65
  go_wp2_with fail
  go_ret
  exact ⟨rfl, (by repeat (first | with_reducible exact Ext.refl _ | with_reducible assumption | with_reducible apply Ext.alloc | with_reducible apply Ext.drew | with_reducible apply Ext.drewN | (with_reducible refine Ext.set' ?_ (by first | omega | (simp only [World.size_alloc, World.size_setCell]; omega))) | (with_reducible refine Ext.trans ?_ (by with_reducible assumption)) | (with_reducible refine Ext.only ?_ (by with_reducible assumption) (by omega))))⟩

set_option maxHeartbeats 1000000 in
theorem like_c (va vb : Value) (a b : List Int) (w : World) (ha : Bs w va a) (hb : Bs w vb b) (hn : a.length ≤ 140737488355000) :
    Calls Try.prog 60 #[va, vb] w fun e w' => e = .returned (.bool (decide (flipL a = b))) ∧ Ext w w' := by
  have HA := hid ha
  have HB := hid hb
  have HF := hid (flipL_byt ha.byt)
  obtain ⟨R, hR⟩ : ∃ R, Is (decide (flipL a = b)) R := ⟨_, Is.refl _⟩
  rw [hR.eq]
  obtain ⟨A, bl, o, c, rfl, hlc, _⟩ := ha
  obtain ⟨B, bm, om, cm, rfl, hlm, _⟩ := hb
  by_cases hl : a.length = b.length
  · have e1 : decide ((a.length : Int) = (b.length : Int)) = true := by simp; omega
    have e2 : ((a.length : Int) == (b.length : Int)) = true := by simp; omega
    clear hl
    go_enter Try.func60, Try.ntmps60
    go_wp2_with fail
    (with_reducible refine (wflip_c _ _ _ HA.out (by omega)).mono ?_); rintro e w1 ⟨u, rfl, ho, k1⟩
    go_wp2_with fail
    (with_reducible refine (equal_c _ _ _ _ _ (Bs.own ho HF.out) (HB.out.ext k1)).mono ?_); rintro e w2 ⟨rfl, k2⟩
    rw [hR.eq]
    go_wp2_with fail
    go_ret
    exact ⟨rfl, k1.trans k2⟩
  · have e1 : decide ((a.length : Int) = (b.length : Int)) = false := by simp; omega
    have e2 : ((a.length : Int) == (b.length : Int)) = false := by simp; omega
    obtain rfl : false = R := by
      rw [← hR.eq]
      symm
      apply decide_eq_false
      intro e
      apply hl
      rw [← e, flipL_len]
    clear hl hR
    go_enter Try.func60, Try.ntmps60
    go_wp2_with fail
    go_ret
    exact ⟨rfl, (by repeat (first | with_reducible exact Ext.refl _ | with_reducible assumption | with_reducible apply Ext.alloc | with_reducible apply Ext.drew | with_reducible apply Ext.drewN | (with_reducible refine Ext.set' ?_ (by first | omega | (simp only [World.size_alloc, World.size_setCell]; omega))) | (with_reducible refine Ext.trans ?_ (by with_reducible assumption)) | (with_reducible refine Ext.only ?_ (by with_reducible assumption) (by omega))))⟩

/-- A checker. -/
abbrev KT : TypeId := 106
structure Ck where
  size : Int
  half : Bool
  b : List Int
  value : List Int
/-- Bytes in a row of their own. -/
def Bt (w : World) (v : Value) (l : List Int) : Prop := Own8 w 0 v l ∧ Byt l
theorem Bt.bs {w : World} {v : Value} {l : List Int} (h : Bt w v l) : Bs w v l := Bs.own h.1 h.2
theorem Bt.own {w : World} {B : Nat} {v : Value} {l : List Int} (h : Own8 w B v l) (hb : Byt l) : Bt w v l := ⟨h.lower (Nat.zero_le _), hb⟩
theorem Bt.ext {a b : World} {v : Value} {l : List Int} (h : Bt a v l) (k : Ext a b) : Bt b v l := ⟨k.own h.1, h.2⟩
theorem Bt.nil (w : World) : Bt w (.slice none 0 0) [] := ⟨Own8.nil _ _, Byt.nil⟩
theorem Bt.keep {w w' : World} {v : Value} {l : List Int} (h : Bt w v l) (k : ∀ g cs, Blk w g cs U8 → Blk w' g cs U8) : Bt w' v l := by
  obtain ⟨⟨h0, h⟩, hb⟩ := h
  refine ⟨⟨h0, ?_⟩, hb⟩
  rcases h with h | ⟨g, cap, cur, hv, hb, hh, r⟩
  · exact .inl h
  · exact .inr ⟨g, cap, cur, hv, hb, k g cur hh, r⟩
theorem Bt.only {w w' : World} {c : Nat} {cs : Array Value} {t : TypeId} {v : Value} {l : List Int} (h : Bt w v l) (hb : Blk w c cs t) (ht : t ≠ U8) (k : Only c w w') : Bt w' v l :=
  h.keep fun g cs' hg => hg.kept k fun e => by
    subst e
    unfold Blk at hb hg
    rw [hb] at hg
    injection hg with hg
    injection hg with _ h2
    exact ht h2
def CkAt (w : World) (c : Nat) (s : Ck) : Prop := ∃ vb vv, Blk w c #[.int .i64 s.size, .bool s.half, vb, vv] KT ∧ Bt w vb s.b ∧ Bt w vv s.value
theorem bs_not8 {w : World} {v : Value} {l : List Int} (h : Bs w v l) (n : Int) : v ≠ .int .u8 n := by
  obtain ⟨A, bl, o, cp, rfl, _⟩ := h
  intro e
  cases e
theorem ck_not8 {w : World} {s : Ck} {vb vv : Value} (hb : Bs w vb s.b) (hv : Bs w vv s.value) : ∀ (i : Nat) (n : Int), (#[.int .i64 s.size, .bool s.half, vb, vv] : Array Value)[i]? ≠ some (Value.int .u8 n) := by
  intro i n
  match i with
  | 0 => simp
  | 1 => simp
  | 2 => simpa using bs_not8 hb n
  | 3 => simpa using bs_not8 hv n
  | i + 4 => simp
theorem CkAt.ext {a b : World} {c : Nat} {s : Ck} (h : CkAt a c s) (k : Ext a b) : CkAt b c s := by
  obtain ⟨vb, vv, h1, h2, h3⟩ := h
  exact ⟨vb, vv, k.blk h1, h2.ext k, h3.ext k⟩
theorem CkAt.bs {w w' : World} {c : Nat} {s : Ck} {v : Value} {l : List Int} (h : CkAt w c s) (hv : Bs w v l) (k : Only c w w') : Bs w' v l := by
  obtain ⟨vb, vv, h1, h2, h3⟩ := h
  exact hv.only h1 (ck_not8 h2.bs h3.bs) k
theorem CkAt.bt {w w' : World} {c : Nat} {s : Ck} {v : Value} {l : List Int} (h : CkAt w c s) (hv : Bt w v l) (k : Only c w w') : Bt w' v l := by
  obtain ⟨vb, vv, h1, h2, h3⟩ := h
  exact hv.only h1 (by decide) k

def Ck.clear (s : Ck) : Ck := ⟨s.size, false, [], s.value⟩
set_option maxHeartbeats 1000000 in
theorem clear_c (c : Nat) (s : Ck) (w : World) (h : CkAt w c s) :
    Calls Try.prog 57 #[.pointer (some ⟨c, 0, none⟩)] w fun e w' => e = .returned (.tuple #[]) ∧ CkAt w' c s.clear ∧ Only c w w' := by
  have h' := h
  obtain ⟨vb, vv, h1, h2, h3⟩ := h'
  have k1 : Only c w (w.setCell ⟨c, 1, none⟩ (.bool false)) := (Only.refl c w).set 1 _
  have k2 := k1.set 2 (.slice none 0 0)
  have b1 := h1.set 1 (.bool false)
  have b2 := b1.set 2 (.slice none 0 0)
  have c1 := h1.cell 1 _ rfl
  have t1 := h1.free 1
  have c2 := b1.cell 2 vb rfl
  have t2 := b1.free 2
  have HH := hid (And.intro k2 (And.intro b2 (h.bt h3 k2)))
  clear k1 k2 b1 b2 h h1 h2 h3
  go_enter Try.func57, Try.ntmps57
  go_wp2_with fail
  go_end0
  exact ⟨rfl, ⟨_, _, HH.out.2.1, Bt.nil _, HH.out.2.2⟩, HH.out.1⟩

theorem clear_nil (w : World) : Calls Try.prog 57 #[.pointer none] w fun e w' => e = .returned (.tuple #[]) ∧ Ext w w' := by
  go_enter Try.func57, Try.ntmps57
  go_wp2_with fail
  go_end0
  exact ⟨rfl, (by repeat (first | with_reducible exact Ext.refl _ | with_reducible assumption | with_reducible apply Ext.alloc | with_reducible apply Ext.drew | with_reducible apply Ext.drewN | (with_reducible refine Ext.set' ?_ (by first | omega | (simp only [World.size_alloc, World.size_setCell]; omega))) | (with_reducible refine Ext.trans ?_ (by with_reducible assumption)) | (with_reducible refine Ext.only ?_ (by with_reducible assumption) (by omega))))⟩
theorem value_k (c : Nat) (s : Ck) (w : World) (h : CkAt w c s) (hn : s.value.length ≤ 140737488355000) :
    Calls Try.prog 36 #[.pointer (some ⟨c, 0, none⟩)] w fun e w' => ∃ u, e = .returned u ∧ Own8 w' w.heap.size u s.value ∧ Ext w w' := by
  obtain ⟨vb, vv, h1, h2, h3⟩ := h
  have c3 := h1.cell 3 _ rfl
  have H3 := hid h3
  clear h1 h2 h3
  go_enter Try.func36, Try.ntmps36
  go_wp2_with fail
  (with_reducible refine (clone_c _ _ _ H3.out.bs hn).mono ?_); rintro e w1 ⟨u, rfl, ho, k1⟩
  go_wp2_with fail
  go_ret
  exact ⟨_, rfl, ho, k1⟩
theorem value_nil (w : World) : Calls Try.prog 36 #[.pointer none] w fun e w' => e = .returned (.slice none 0 0) ∧ Ext w w' := by
  go_enter Try.func36, Try.ntmps36
  go_wp2_with fail
  go_ret
  exact ⟨rfl, (by repeat (first | with_reducible exact Ext.refl _ | with_reducible assumption | with_reducible apply Ext.alloc | with_reducible apply Ext.drew | with_reducible apply Ext.drewN | (with_reducible refine Ext.set' ?_ (by first | omega | (simp only [World.size_alloc, World.size_setCell]; omega))) | (with_reducible refine Ext.trans ?_ (by with_reducible assumption)) | (with_reducible refine Ext.only ?_ (by with_reducible assumption) (by omega))))⟩
theorem knew_c (n : Int) (w : World) :
    Calls Try.prog 51 #[.int .i64 n] w fun e w' => if n < 1 ∨ 8 < n then e = .returned (.tuple #[.pointer none, .int .i64 2]) ∧ Ext w w' else ∃ g, e = .returned (.tuple #[.pointer (some ⟨g, 0, none⟩), .int .i64 0]) ∧ CkAt w' g ⟨n, false, [], []⟩ ∧ w.heap.size ≤ g ∧ Ext w w' := by
  by_cases h : n < 1 ∨ 8 < n
  · simp only [if_pos h]
    rcases h with h | h
    · have e1 : decide (n < 1) = true := by simpa using h
      go_enter Try.func51, Try.ntmps51
      go_wp2_with fail
      go_ret2
      exact ⟨rfl, (by repeat (first | with_reducible exact Ext.refl _ | with_reducible assumption | with_reducible apply Ext.alloc | with_reducible apply Ext.drew | with_reducible apply Ext.drewN | (with_reducible refine Ext.set' ?_ (by first | omega | (simp only [World.size_alloc, World.size_setCell]; omega))) | (with_reducible refine Ext.trans ?_ (by with_reducible assumption)) | (with_reducible refine Ext.only ?_ (by with_reducible assumption) (by omega))))⟩
    · have e1 : decide (n < 1) = false := by simp; omega
      have e2 : decide (8 < n) = true := by simpa using h
      go_enter Try.func51, Try.ntmps51
      go_wp2_with fail
      go_ret2
      exact ⟨rfl, (by repeat (first | with_reducible exact Ext.refl _ | with_reducible assumption | with_reducible apply Ext.alloc | with_reducible apply Ext.drew | with_reducible apply Ext.drewN | (with_reducible refine Ext.set' ?_ (by first | omega | (simp only [World.size_alloc, World.size_setCell]; omega))) | (with_reducible refine Ext.trans ?_ (by with_reducible assumption)) | (with_reducible refine Ext.only ?_ (by with_reducible assumption) (by omega))))⟩
  · simp only [if_neg h]
    have e1 : decide (n < 1) = false := by simp; omega
    have e2 : decide (8 < n) = false := by simp; omega
    have hb := Blk.new w #[.int .i64 n, .bool false, .slice none 0 0, .slice none 0 0] KT
    clear h
    go_enter Try.func51, Try.ntmps51
    go_wp2_with fail
    go_ret2
    exact ⟨_, rfl, ⟨_, _, hb, Bt.nil _, Bt.nil _⟩, Nat.le_refl _, (by repeat (first | with_reducible exact Ext.refl _ | with_reducible assumption | with_reducible apply Ext.alloc | with_reducible apply Ext.drew | with_reducible apply Ext.drewN | (with_reducible refine Ext.set' ?_ (by first | omega | (simp only [World.size_alloc, World.size_setCell]; omega))) | (with_reducible refine Ext.trans ?_ (by with_reducible assumption)) | (with_reducible refine Ext.only ?_ (by with_reducible assumption) (by omega))))⟩

end Go.Proofs.Ytocogmboocjjaaa
