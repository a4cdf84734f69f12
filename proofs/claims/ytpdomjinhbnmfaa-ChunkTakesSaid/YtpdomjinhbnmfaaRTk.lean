/- The reference's receiver. -/
import Derived.Test.YtpdomjinhbnmfaaTkr2
import Derived.Deep.RegionLaw
import Derived.Deep.Cut
import Derived.Deep.CutRange
import Derived.Deep.DeepCutAuto
set_option linter.unusedSimpArgs false
set_option linter.unusedVariables false
set_option linter.unnecessarySimpa false
set_option maxRecDepth 100000
namespace Go.Proofs.Ytpdomjinhbnmfaa
open Go.RowKit Go.Proofs.YtpdomjinhbnmfaaW.PrintWords
attribute [local go_sem] max2_max min2_min max_of_two min_of_two alL_v bdL_none bdL_one bxL_ln lnguard_eq lnguard_ne lnbin_eq lnbin_ne
attribute [local go_sem ↓] ldL_in bxL_in stL_in alL_in bdL_in cvS_in
attribute [local go_sem] gUpon gStill bsL_one bsL_none
attribute [local go_sem ↓] bsL_in

abbrev KT : TypeId := 59
structure Kd' where
  u : Value
  n : Int
  blk : Int
  last : Bool
def Kd'.cells (k : Kd') : Array Value := #[k.u, .int .i64 k.n, .int .i64 k.blk, .bool k.last]
def Kd'.val (k : Kd') : Value := .agg k.cells
theorem infoKT : (Try.prog.info? KT).map (·.size) = some 4 := by kernel_rfl
noncomputable def ldK (p : Value) : Sem Value := Instr.loadAt KT p
noncomputable def bxK (v : Value) : Sem Value := Instr.box KT v
noncomputable def stK (p v : Value) : Sem Unit := Instr.storeAt KT p v
noncomputable def alK : Sem Value := Instr.alloc KT true (.tuple #[])
theorem ldK_in (p : Value) : Instr.loadAt KT p = ldK p := rfl
theorem bxK_in (v : Value) : Instr.box KT v = bxK v := rfl
theorem stK_in (p v : Value) : Instr.storeAt KT p v = stK p v := rfl
theorem alK_in : Instr.alloc KT true (.tuple #[]) = alK := rfl
def Kd'.zero : Kd' := ⟨.slice none 0 0, 0, 0, false⟩
theorem alK_v (w : World) : alK.run Try.prog w = .ok (.pointer (some ⟨w.heap.size, 0, none⟩)) (w.alloc (.cells Kd'.zero.cells KT)) := by kernel_rfl
theorem bxK_v (w : World) (k : Kd') : (bxK k.val).run Try.prog w = .ok (.pointer (some ⟨w.heap.size, 0, none⟩)) (w.alloc (.cells k.cells KT)) := rfl
theorem ldK_blk {w : World} {b : Nat} {k : Kd'} (h : Blk w b k.cells KT) : (ldK (.pointer (some ⟨b, 0, none⟩))).run Try.prog w = .ok k.val w := by
  have := run_loadAt_mid (P := Try.prog) w b 0 KT k.cells.toList _ (fun j v hv => by rw [Nat.zero_add]; exact h.cell j v (by simpa using hv)) Try.underlying59 rfl (by rw [infoKT]; rfl)
  simpa [ldK, Kd'.val] using this
theorem stK_put (w : World) (b : Nat) (m k : Kd') (A : Option Addr) (n c : Nat) (hm : m.u = .slice A n c) (h : Blk w b k.cells KT) : (stK (.pointer (some ⟨b, 0, none⟩)) m.val).run Try.prog w = .ok () (w.setRow b m.cells) := by
  have hs := run_storeVar_row (P := Try.prog) w b KT KT k.cells m.cells h (by rw [infoKT]; rfl) rfl (by simp [Kd'.cells, hm, Value.oneCell'])
  unfold stK
  simp only [Instr.storeAt, Instr.sureAddr, Sem.run_bind, Sem.run_pure, Result.andThen_ok]
  exact hs
theorem putK_blk {w : World} {b : Nat} {k : Kd'} (m : Kd') (h : Blk w b k.cells KT) : Blk (w.setRow b m.cells) b m.cells KT := setRow_heap w b _ _ _ _ h
theorem putK_only (w : World) (b : Nat) (m : Array Value) : Only b w (w.setRow b m) :=
  ⟨rfl, rfl, rfl, by simp [World.setRow], fun k _ hb => by
    show (w.heap.modify b _)[k]? = _
    rw [Array.getElem?_modify, if_neg (fun e => hb e.symm)]⟩
theorem res_k3 {fn : Func} {p q r : Tmp} {tmps : Array Value} {w : World} {b : Nat} {m : Kd'} {v u : Value} (h : fn.results = #[.cell p KT, .tmp q, .tmp r]) (hp : tmps.getD p undef = .pointer (some ⟨b, 0, none⟩)) (hq : tmps.getD q undef = v) (hr : tmps.getD r undef = u) (hb : Blk w b m.cells KT) : (results fn tmps).run Try.prog w = .ok (.tuple #[m.val, v, u]) w := by
  have hp' : tmps[p]?.getD undef = .pointer (some ⟨b, 0, none⟩) := by simpa using hp
  have hq' : tmps[q]?.getD undef = v := by simpa using hq
  have hr' : tmps[r]?.getD undef = u := by simpa using hr
  have hl : (loadVar KT ⟨b, 0, none⟩).run Try.prog w = .ok (.agg m.cells) w := run_loadVar_row w b KT KT m.cells (0, 0) _ hb Try.underlying59 rfl (by rw [infoKT]; rfl)
  simp [results, h, hp', hq', hr', asAddr, hl, Kd'.val]
/-- An append of lines as one step of a region that draws. -/
theorem step_appL {ops : Array Oper} {o : Oper} {a : Act} {w : World} {K : Act → World → Prop} {Q : Exit → Act → World → Prop} {E : Prop} (hgd : o.guard = none) (s x : Operand)
    (ho : o.op = .call { callee := .builtin .append, args := #[s, x], argTypes := #[LR, LR] }) (hty : o.type = LR) (base : Nat) {v u : Value} {l m : List Ln} {A : Option Addr} {bl of c : Nat} (hs : a.eval s = v) (hx : a.eval x = u) (hu : u = .slice A m.length c)
    (hown : OwnR lnLay w base v l) (hm : RowOf lnLay.enc lnLay.k w A bl of m) (hlen : l.length + m.length ≤ 1000000) (hbase : base ≤ w.heap.size)
    (h : ∀ v' w', OwnR lnLay w' base v' (l ++ m) → Below base w w' → KeepR LT w w' → (∀ k, k < w.heap.size → v.ownBlock ≠ some k → w'.heap[k]? = w.heap[k]?) → K (a.put o.dst v') w') :
    if Region.wanted o (yielded ops a.tmps) = true then Oper.wp Try.prog o a w K Q else E := by
  have hw : Region.wanted o (yielded ops a.tmps) = true := by simp [Region.wanted, hgd]
  rw [if_pos hw]
  subst hu
  obtain ⟨v', w', hrun, h1, h2, h3, _, h4⟩ := apL_run (c := c) hown hm hlen hbase
  unfold apL at hrun
  unfold Oper.wp
  simp [execOp, ho, hty, resolve, invoke, builtin, hs, hx, hrun, Result.andThen]
  exact h v' w' h1 h2 h3 h4
structure Rk where
  l : List Ln
  n : Int
  blk : Int
  last : Bool
def Rk.put (r : Rk) (x : Ln) : Rk × Bool × Int :=
  if r.last = true then (r, false, 134217762) else if x.at 0 % 128 < 1 ∨ r.blk < x.at 0 % 128 then (r, false, 84148227)
  else if x.at 0 % 128 = r.n + 1 then (if r.l.length = 10 then (r, false, 101122066) else (⟨r.l ++ [x], r.n + 1, r.blk, decide (128 ≤ x.at 0)⟩, decide (128 ≤ x.at 0) || (x.at 0 % 128 == r.blk), 0))
  else (r, decide (128 ≤ x.at 0) || (x.at 0 % 128 == r.blk), 0)

theorem kext_alloc {a b : World} {o : Obj} (h : Ext a b) : Ext a (b.alloc o) := Ext.alloc h
theorem kext_drew {a b : World} (h : Ext a b) : Ext a b.drew := Ext.drew h
attribute [local go_sem] kext_alloc kext_drew alK_v bxK_v
attribute [local go_sem ↓] ldK_in bxK_in stK_in alK_in
theorem OwnR.form0 {w : World} {B : Nat} {v : Value} {l : List Ln} (h : OwnR lnLay w B v l) : ∃ A c, v = .slice A l.length c := h.form
theorem own_only {w w' : World} {B g : Nat} {v : Value} {l : List Ln} {cs : Array Value} {t : TypeId} (h : OwnR lnLay w B v l) (hb : Blk w g cs t) (ht : t ≠ LT) (k : Only g w w') : OwnR lnLay w' B v l := by
  have ha := h.apart hb ht
  obtain ⟨h0, h⟩ := h
  refine ⟨h0, ?_⟩
  rcases h with h | ⟨i, cap, cur, hv, hg, hh, r⟩
  · exact .inl h
  · refine .inr ⟨i, cap, cur, hv, hg, ?_, r⟩
    exact Blk.kept (b := i) (cs := cur) (t := LT) hh k (fun e => ha (by rw [hv, e]; rfl))
theorem OwnR.zero' {w : World} {k : Nat} (h : Blk w k #[] LT) : OwnR lnLay w 0 (.slice (some ⟨k, 0, none⟩) 0 0) [] :=
  ⟨rfl, .inr ⟨k, 0, #[], rfl, Nat.zero_le _, h, Nat.le_refl _, by unfold maxLen; omega, rfl, rfl⟩⟩
theorem OwnR.zeroB {w : World} {k B : Nat} (h : Blk w k #[] LT) (hB : B ≤ k) : OwnR lnLay w B (.slice (some ⟨k, 0, none⟩) 0 0) [] :=
  ⟨rfl, .inr ⟨k, 0, #[], rfl, hB, h, Nat.le_refl _, by unfold maxLen; omega, rfl, rfl⟩⟩
theorem blk_new1 (w : World) (o : Obj) (cs : Array Value) (t : TypeId) : Blk ((w.alloc o).alloc (.cells cs t)) (w.heap.size + 1) cs t := by
  have := Blk.new (w.alloc o) cs t
  rwa [World.size_alloc] at this
theorem row_one {w : World} {k : Nat} {x : Ln} (h : Blk w k x.cells LT) : RowOf lnLay.enc lnLay.k w (some ⟨k, 0, none⟩) k 0 [x] :=
  ⟨by simp, fun _ => ⟨rfl, h.lt⟩, fun i y hy j v hv => by
    cases i with
    | zero =>
      simp only [List.getElem?_cons_zero, Option.some.injEq] at hy
      subst hy
      have := h.cell j v (by simpa [Ln.cells, lnLay] using hv)
      simpa using this
    | succ i => simp at hy⟩

theorem fin_k {w w' : World} {g z : Nat} {u : Value} {n blk : Int} {last : Bool} {l : List Ln} (K : Ext w w') (hb : Blk w' g (Kd'.cells ⟨u, n, blk, last⟩) KT) (hz : Blk w' z Kd'.zero.cells KT) (ho : OwnR lnLay w' 0 u l) (hzz : w.heap.size ≤ z) :
    (ldK (.pointer (some ⟨g, 0, none⟩))).run Try.prog w'.drew = .ok (Kd'.val ⟨u, n, blk, last⟩) w'.drew ∧ (stK (.pointer (some ⟨z, 0, none⟩)) (Kd'.val ⟨u, n, blk, last⟩)).run Try.prog w'.drew = .ok () (w'.drew.setRow z (Kd'.cells ⟨u, n, blk, last⟩)) ∧
    Blk (w'.drew.setRow z (Kd'.cells ⟨u, n, blk, last⟩)) z (Kd'.cells ⟨u, n, blk, last⟩) KT ∧ OwnR lnLay (w'.drew.setRow z (Kd'.cells ⟨u, n, blk, last⟩)) 0 u l ∧ Ext w (w'.drew.setRow z (Kd'.cells ⟨u, n, blk, last⟩)) := by
  obtain ⟨A, c, rfl⟩ := ho.form
  have kd : Ext w' w'.drew := (Ext.refl w').drew
  have hzd := kd.blk hz
  exact ⟨ldK_blk (kd.blk hb), stK_put w'.drew z ⟨.slice A l.length c, n, blk, last⟩ Kd'.zero A _ c rfl hzd, putK_blk ⟨.slice A l.length c, n, blk, last⟩ hzd, own_only (ho.below kd) hzd (by decide) (putK_only _ _ _), Ext.only (K.trans kd) (putK_only _ _ _) hzz⟩
--RPUT
set_option maxHeartbeats 4000000 in
theorem rputtrue_c (u : Value) (rl : List Ln) (rn rk : Int) (x : Ln) (w : World) (h : OwnR lnLay w 0 u rl) (hx : Byt x.l) (hl : rl.length ≤ 1000) (hn : 0 ≤ rn ∧ rn ≤ 1000) :
    Calls Try.prog 24 #[(Kd'.val ⟨u, rn, rk, true⟩), x.val] w fun e w' => ∃ u', e = .returned (.tuple #[Kd'.val ⟨u', (Rk.put ⟨rl, rn, rk, true⟩ x).1.n, (Rk.put ⟨rl, rn, rk, true⟩ x).1.blk, (Rk.put ⟨rl, rn, rk, true⟩ x).1.last⟩, .bool (Rk.put ⟨rl, rn, rk, true⟩ x).2.1, .int .i64 (Rk.put ⟨rl, rn, rk, true⟩ x).2.2]) ∧ OwnR lnLay w' 0 u' (Rk.put ⟨rl, rn, rk, true⟩ x).1.l ∧ Ext w w' := by
  obtain ⟨A, c, rfl⟩ := h.form
  have hx0 := hx (x.at 0) (by
    show x.l.getD 0 0 ∈ x.l
    rw [getD_at (by rw [x.h]; omega)]
    exact List.getElem_mem _)
  have K0 : Ext w (((w.alloc (.cells (Kd'.cells ⟨.slice A rl.length c, rn, rk, true⟩) KT)).alloc (.cells x.cells LT)).alloc (.cells Kd'.zero.cells KT)) := (by repeat (first | with_reducible exact Ext.refl _ | with_reducible assumption | with_reducible apply Ext.alloc | with_reducible apply Ext.drew | with_reducible apply Ext.drewN | (with_reducible refine Ext.set' ?_ (by first | omega | (simp only [World.size_alloc, World.size_setCell]; omega))) | (with_reducible refine Ext.trans ?_ (by with_reducible assumption)) | (with_reducible refine Ext.only ?_ (by with_reducible assumption) (by omega))))
  have bk : Blk (((w.alloc (.cells (Kd'.cells ⟨.slice A rl.length c, rn, rk, true⟩) KT)).alloc (.cells x.cells LT)).alloc (.cells Kd'.zero.cells KT)) w.heap.size (Kd'.cells ⟨.slice A rl.length c, rn, rk, true⟩) KT := ((Blk.new w _ KT).alloc _).alloc _
  have bl : Blk (((w.alloc (.cells (Kd'.cells ⟨.slice A rl.length c, rn, rk, true⟩) KT)).alloc (.cells x.cells LT)).alloc (.cells Kd'.zero.cells KT)) (w.heap.size + 1) x.cells LT := by
    have := (Blk.new (w.alloc (.cells (Kd'.cells ⟨.slice A rl.length c, rn, rk, true⟩) KT)) x.cells LT).alloc (.cells Kd'.zero.cells KT)
    rwa [World.size_alloc] at this
  have bz : Blk (((w.alloc (.cells (Kd'.cells ⟨.slice A rl.length c, rn, rk, true⟩) KT)).alloc (.cells x.cells LT)).alloc (.cells Kd'.zero.cells KT)) (w.heap.size + 2) Kd'.zero.cells KT := by
    have := Blk.new ((w.alloc (.cells (Kd'.cells ⟨.slice A rl.length c, rn, rk, true⟩) KT)).alloc (.cells x.cells LT)) Kd'.zero.cells KT
    rwa [World.size_alloc, World.size_alloc] at this
  have hsz : (((w.alloc (.cells (Kd'.cells ⟨.slice A rl.length c, rn, rk, true⟩) KT)).alloc (.cells x.cells LT)).alloc (.cells Kd'.zero.cells KT)).heap.size = w.heap.size + 3 := by simp
  have HO := hid (h.below K0)
  generalize hW : (((w.alloc (.cells (Kd'.cells ⟨.slice A rl.length c, rn, rk, true⟩) KT)).alloc (.cells x.cells LT)).alloc (.cells Kd'.zero.cells KT)) = W at *
  obtain ⟨P, hP⟩ : ∃ P, Is (Rk.put ⟨rl, rn, rk, true⟩ x) P := ⟨_, Is.refl _⟩
  rw [hP.eq]
  have hPE := hP.eq
  unfold Rk.put at hPE
  obtain ⟨S, hS⟩ : ∃ S, x.at 0 % 128 = S := ⟨_, rfl⟩
  obtain ⟨Q, hQ⟩ : ∃ Q, decide (128 ≤ x.at 0) = Q := ⟨_, rfl⟩
  have hS0 : 0 ≤ S ∧ S ≤ 127 := by omega
  have v1 : IntKind.i64.wrap (x.at 0) = x.at 0 := IntWalk.i64_in _ (by omega)
  have v2 : Int.tmod (x.at 0) 128 = S := by rw [Int.tmod_eq_emod_of_nonneg hx0.1]; exact hS
  have v3 : IntKind.i64.wrap S = S := IntWalk.i64_in _ (by omega)
  have l0 := bl.lnat (j := 0) (by omega)
  have k3 : W.cell? ⟨w.heap.size, 3, none⟩ = some (.bool true) := bk.cell 3 _ rfl
  have k2 : W.cell? ⟨w.heap.size, 2, none⟩ = some (.int .i64 rk) := bk.cell 2 _ rfl
  have k1 : W.cell? ⟨w.heap.size, 1, none⟩ = some (.int .i64 rn) := bk.cell 1 _ rfl
  have k0 : W.cell? ⟨w.heap.size, 0, none⟩ = some (.slice A rl.length c) := bk.cell 0 _ rfl
  have lk := ldK_blk bk
  have st := stK_put W (w.heap.size + 2) ⟨.slice A rl.length c, rn, rk, true⟩ Kd'.zero A rl.length c rfl bz
  have HP := hid (putK_blk (w := W) (b := w.heap.size + 2) ⟨.slice A rl.length c, rn, rk, true⟩ bz)
  have KP := hid (putK_only W (w.heap.size + 2) (Kd'.cells ⟨.slice A rl.length c, rn, rk, true⟩))
  have FIN : Hid (OwnR lnLay (W.setRow (w.heap.size + 2) (Kd'.cells ⟨.slice A rl.length c, rn, rk, true⟩)) 0 (.slice A rl.length c) rl ∧ Ext w (W.setRow (w.heap.size + 2) (Kd'.cells ⟨.slice A rl.length c, rn, rk, true⟩))) := hid ⟨own_only HO.out bz (by decide) KP.out, Ext.only K0 KP.out (by omega)⟩
  have HBK := hid (And.intro bk (And.intro bl (And.intro bz (And.intro K0 hsz))))
  rw [hS, hQ] at hPE
  clear hP hx0 hS h K0 bk bl bz hsz
  rw [if_pos rfl] at hPE
  subst hPE
  go_enter Try.func24, Try.ntmps24
  go_wp2_with fail
  exact bodyPost_ret (res_k3 (Try.results24) rfl rfl rfl HP.out) rfl ⟨_, rfl, FIN.out.1, FIN.out.2⟩

set_option maxHeartbeats 4000000 in
theorem rputfalse_c (u : Value) (rl : List Ln) (rn rk : Int) (x : Ln) (w : World) (h : OwnR lnLay w 0 u rl) (hx : Byt x.l) (hl : rl.length ≤ 1000) (hn : 0 ≤ rn ∧ rn ≤ 1000) :
    Calls Try.prog 24 #[(Kd'.val ⟨u, rn, rk, false⟩), x.val] w fun e w' => ∃ u', e = .returned (.tuple #[Kd'.val ⟨u', (Rk.put ⟨rl, rn, rk, false⟩ x).1.n, (Rk.put ⟨rl, rn, rk, false⟩ x).1.blk, (Rk.put ⟨rl, rn, rk, false⟩ x).1.last⟩, .bool (Rk.put ⟨rl, rn, rk, false⟩ x).2.1, .int .i64 (Rk.put ⟨rl, rn, rk, false⟩ x).2.2]) ∧ OwnR lnLay w' 0 u' (Rk.put ⟨rl, rn, rk, false⟩ x).1.l ∧ Ext w w' := by
  obtain ⟨A, c, rfl⟩ := h.form
  have hx0 := hx (x.at 0) (by
    show x.l.getD 0 0 ∈ x.l
    rw [getD_at (by rw [x.h]; omega)]
    exact List.getElem_mem _)
  have K0 : Ext w (((w.alloc (.cells (Kd'.cells ⟨.slice A rl.length c, rn, rk, false⟩) KT)).alloc (.cells x.cells LT)).alloc (.cells Kd'.zero.cells KT)) := (by repeat (first | with_reducible exact Ext.refl _ | with_reducible assumption | with_reducible apply Ext.alloc | with_reducible apply Ext.drew | with_reducible apply Ext.drewN | (with_reducible refine Ext.set' ?_ (by first | omega | (simp only [World.size_alloc, World.size_setCell]; omega))) | (with_reducible refine Ext.trans ?_ (by with_reducible assumption)) | (with_reducible refine Ext.only ?_ (by with_reducible assumption) (by omega))))
  have bk : Blk (((w.alloc (.cells (Kd'.cells ⟨.slice A rl.length c, rn, rk, false⟩) KT)).alloc (.cells x.cells LT)).alloc (.cells Kd'.zero.cells KT)) w.heap.size (Kd'.cells ⟨.slice A rl.length c, rn, rk, false⟩) KT := ((Blk.new w _ KT).alloc _).alloc _
  have bl : Blk (((w.alloc (.cells (Kd'.cells ⟨.slice A rl.length c, rn, rk, false⟩) KT)).alloc (.cells x.cells LT)).alloc (.cells Kd'.zero.cells KT)) (w.heap.size + 1) x.cells LT := by
    have := (Blk.new (w.alloc (.cells (Kd'.cells ⟨.slice A rl.length c, rn, rk, false⟩) KT)) x.cells LT).alloc (.cells Kd'.zero.cells KT)
    rwa [World.size_alloc] at this
  have bz : Blk (((w.alloc (.cells (Kd'.cells ⟨.slice A rl.length c, rn, rk, false⟩) KT)).alloc (.cells x.cells LT)).alloc (.cells Kd'.zero.cells KT)) (w.heap.size + 2) Kd'.zero.cells KT := by
    have := Blk.new ((w.alloc (.cells (Kd'.cells ⟨.slice A rl.length c, rn, rk, false⟩) KT)).alloc (.cells x.cells LT)) Kd'.zero.cells KT
    rwa [World.size_alloc, World.size_alloc] at this
  have hsz : (((w.alloc (.cells (Kd'.cells ⟨.slice A rl.length c, rn, rk, false⟩) KT)).alloc (.cells x.cells LT)).alloc (.cells Kd'.zero.cells KT)).heap.size = w.heap.size + 3 := by simp
  have HO := hid (h.below K0)
  generalize hW : (((w.alloc (.cells (Kd'.cells ⟨.slice A rl.length c, rn, rk, false⟩) KT)).alloc (.cells x.cells LT)).alloc (.cells Kd'.zero.cells KT)) = W at *
  obtain ⟨P, hP⟩ : ∃ P, Is (Rk.put ⟨rl, rn, rk, false⟩ x) P := ⟨_, Is.refl _⟩
  rw [hP.eq]
  have hPE := hP.eq
  unfold Rk.put at hPE
  obtain ⟨S, hS⟩ : ∃ S, x.at 0 % 128 = S := ⟨_, rfl⟩
  obtain ⟨Q, hQ⟩ : ∃ Q, decide (128 ≤ x.at 0) = Q := ⟨_, rfl⟩
  have hS0 : 0 ≤ S ∧ S ≤ 127 := by omega
  have v1 : IntKind.i64.wrap (x.at 0) = x.at 0 := IntWalk.i64_in _ (by omega)
  have v2 : Int.tmod (x.at 0) 128 = S := by rw [Int.tmod_eq_emod_of_nonneg hx0.1]; exact hS
  have v3 : IntKind.i64.wrap S = S := IntWalk.i64_in _ (by omega)
  have l0 := bl.lnat (j := 0) (by omega)
  have k3 : W.cell? ⟨w.heap.size, 3, none⟩ = some (.bool false) := bk.cell 3 _ rfl
  have k2 : W.cell? ⟨w.heap.size, 2, none⟩ = some (.int .i64 rk) := bk.cell 2 _ rfl
  have k1 : W.cell? ⟨w.heap.size, 1, none⟩ = some (.int .i64 rn) := bk.cell 1 _ rfl
  have k0 : W.cell? ⟨w.heap.size, 0, none⟩ = some (.slice A rl.length c) := bk.cell 0 _ rfl
  have lk := ldK_blk bk
  have st := stK_put W (w.heap.size + 2) ⟨.slice A rl.length c, rn, rk, false⟩ Kd'.zero A rl.length c rfl bz
  have HP := hid (putK_blk (w := W) (b := w.heap.size + 2) ⟨.slice A rl.length c, rn, rk, false⟩ bz)
  have KP := hid (putK_only W (w.heap.size + 2) (Kd'.cells ⟨.slice A rl.length c, rn, rk, false⟩))
  have FIN : Hid (OwnR lnLay (W.setRow (w.heap.size + 2) (Kd'.cells ⟨.slice A rl.length c, rn, rk, false⟩)) 0 (.slice A rl.length c) rl ∧ Ext w (W.setRow (w.heap.size + 2) (Kd'.cells ⟨.slice A rl.length c, rn, rk, false⟩))) := hid ⟨own_only HO.out bz (by decide) KP.out, Ext.only K0 KP.out (by omega)⟩
  have HBK := hid (And.intro bk (And.intro bl (And.intro bz (And.intro K0 hsz))))
  rw [hS, hQ] at hPE
  clear hP hx0 hS h K0 bk bl bz hsz
  rw [if_neg (by simp)] at hPE
  by_cases q2 : S < 1
  · rw [if_pos (.inl q2)] at hPE
    subst hPE
    have e1 : decide (S < 1) = true := by simpa using q2
    clear q2
    go_enter Try.func24, Try.ntmps24
    go_wp2_with fail
    exact bodyPost_ret (res_k3 (Try.results24) rfl rfl rfl HP.out) rfl ⟨_, rfl, FIN.out.1, FIN.out.2⟩

  have e1 : decide (S < 1) = false := by simpa using q2
  by_cases q3 : rk < S
  · rw [if_pos (.inr q3)] at hPE
    subst hPE
    have e2 : decide (rk < S) = true := by simpa using q3
    clear q2 q3
    go_enter Try.func24, Try.ntmps24
    go_wp2_with fail
    exact bodyPost_ret (res_k3 (Try.results24) rfl rfl rfl HP.out) rfl ⟨_, rfl, FIN.out.1, FIN.out.2⟩

  rw [if_neg (by rintro (h | h); exact q2 h; exact q3 h)] at hPE
  have e2 : decide (rk < S) = false := by simpa using q3
  have wn : IntKind.i64.wrap (rn + 1) = rn + 1 := IntWalk.i64_in _ (by omega)
  clear q2 q3
  by_cases q4 : S = rn + 1
  case neg =>
    rw [if_neg q4] at hPE
    subst hPE
    have e3 : (S == rn + 1) = false := by simpa using q4
    clear q4
    obtain ⟨lkd, std, hpd, hod, hkd⟩ := fin_k (u := .slice A rl.length c) (n := rn) (blk := rk) (last := false) HBK.out.2.2.2.1 HBK.out.1 HBK.out.2.2.1 HO.out (Nat.le_add_right _ _)
    have HPD := hid hpd
    have HOD := hid hod
    have HKD := hid hkd
    have D : ∀ p : Addr, W.drew.cell? p = W.cell? p := fun p => rfl
    have k2r : (W.drew.setRow (w.heap.size + 2) (Kd'.cells ⟨.slice A rl.length c, rn, rk, false⟩)).cell? ⟨w.heap.size, 2, none⟩ = some (.int .i64 rk) := (Blk.kept ((Ext.refl W).drew.blk HBK.out.1) (putK_only W.drew (w.heap.size + 2) _) (by omega)).cell 2 _ rfl
    clear hpd hod hkd

    cases Q
    · go_enter Try.func24, Try.ntmps24
      go_wp2_with fail
      go_region
      go_wp2_with fail
      exact bodyPost_ret (res_k3 (Try.results24) rfl rfl rfl HPD.out) rfl ⟨_, rfl, HOD.out, HKD.out⟩

    · go_enter Try.func24, Try.ntmps24
      go_wp2_with fail
      go_region
      go_wp2_with fail
      exact bodyPost_ret (res_k3 (Try.results24) rfl rfl rfl HPD.out) rfl ⟨_, rfl, HOD.out, HKD.out⟩


  rw [if_pos q4] at hPE
  have e3 : (S == rn + 1) = true := by simpa using q4
  clear q4
  by_cases q5 : rl.length = 10
  · rw [if_pos q5] at hPE
    subst hPE
    have e4 : ((rl.length : Int) == 10) = true := by simp; omega
    clear q5
    go_enter Try.func24, Try.ntmps24
    go_wp2_with fail
    exact bodyPost_ret (res_k3 (Try.results24) rfl rfl rfl HP.out) rfl ⟨_, rfl, FIN.out.1, FIN.out.2⟩

  rw [if_neg q5] at hPE
  obtain ⟨nl, hnl⟩ : ∃ nl, Is (rl ++ [x]) nl := ⟨_, Is.refl _⟩
  rw [hnl.eq] at hPE
  subst hPE
  have e4 : ((rl.length : Int) == 10) = false := by simp; omega
  clear q5 lk st HP KP FIN
  have E0 := Ext.refl W
  have LDX : ∀ w', Ext W w' → (ldL (.pointer (some ⟨w.heap.size + 1, 0, none⟩))).run Try.prog w' = .ok x.val w' := fun w' k => ldL_blk (k.blk HBK.out.2.1)
  have K0X : ∀ w', Ext W w' → w'.cell? ⟨w.heap.size, 0, none⟩ = some (.slice A rl.length c) := fun w' k => k.cell k0
  have Z0X : ∀ w', Ext W w' → w'.frozen? ⟨w.heap.size, 0, none⟩ = false := fun w' k => (k.blk HBK.out.1).free 0
  obtain ⟨Bl, HROW⟩ : ∃ bl, Hid (RowOf lnLay.enc lnLay.k W A bl 0 rl) := by
    obtain ⟨A', bl, c', he, _, hr⟩ := HO.out.rows (by omega)
    injection he with h1 _ _
    exact ⟨bl, hid (by rw [h1]; exact hr)⟩
  have hlen1 : ([] : List Ln).length + rl.length ≤ 1000000 := by simp; omega
  have hlen2 : rl.length + ([x] : List Ln).length ≤ 1000000 := by simp; omega
  have R1 := hid (HROW.out.ext (show Ext W (W.drew.alloc (.cells #[] LT)) from (E0.drew).alloc))
  have R2 := hid (HROW.out.ext (show Ext W ((W.drew.alloc (.cells #[] LT)).alloc (.cells x.cells LT)) from ((E0.drew).alloc).alloc))
  have R3 := hid (HROW.out.ext (show Ext W ((W.drew.alloc (.cells x.cells LT)).alloc (.cells #[] LT)) from ((E0.drew).alloc).alloc))
  have O1 := hid (OwnR.zeroB (B := W.heap.size) (k := W.heap.size) (Blk.new W.drew #[] LT) (Nat.le_refl _))
  have O2 := hid (OwnR.zeroB (B := W.heap.size) (k := W.heap.size) ((Blk.new W.drew #[] LT).alloc (.cells x.cells LT)) (Nat.le_refl _))
  have O3 := hid (OwnR.zeroB (B := W.heap.size) (k := W.heap.size + 1) (blk_new1 W.drew (.cells x.cells LT) #[] LT) (Nat.le_succ _))
  have X1 : Hid (Ext W (W.drew.alloc (.cells #[] LT))) := hid ((E0.drew).alloc)
  have X2 : Hid (Ext W ((W.drew.alloc (.cells #[] LT)).alloc (.cells x.cells LT))) := hid (((E0.drew).alloc).alloc)
  have X3 : Hid (Ext W ((W.drew.alloc (.cells x.cells LT)).alloc (.cells #[] LT))) := hid (((E0.drew).alloc).alloc)
  have F2 : Hid (Blk ((W.drew.alloc (.cells #[] LT)).alloc (.cells x.cells LT)) (W.heap.size + 1) x.cells LT) := hid (blk_new1 W.drew (.cells #[] LT) x.cells LT)
  have F3 : Hid (Blk ((W.drew.alloc (.cells x.cells LT)).alloc (.cells #[] LT)) W.heap.size x.cells LT) := hid ((Blk.new W.drew x.cells LT).alloc (.cells #[] LT))
  have N2 : Hid ((Value.slice (some ⟨W.heap.size, 0, none⟩) 0 0).ownBlock ≠ some (W.heap.size + 1)) := hid (by simp [Value.ownBlock])
  have N3 : Hid ((Value.slice (some ⟨W.heap.size + 1, 0, none⟩) 0 0).ownBlock ≠ some W.heap.size) := hid (by simp [Value.ownBlock])
  have hb1 : W.heap.size ≤ (W.drew.alloc (.cells #[] LT)).heap.size := Ext.le ((E0.drew).alloc)
  have hb2 : W.heap.size ≤ ((W.drew.alloc (.cells #[] LT)).alloc (.cells x.cells LT)).heap.size := Ext.le (((E0.drew).alloc).alloc)
  have hb3 : W.heap.size ≤ ((W.drew.alloc (.cells x.cells LT)).alloc (.cells #[] LT)).heap.size := Ext.le (((E0.drew).alloc).alloc)
  have PUT : Hid (∀ w7 A7 c7, Ext W w7 → OwnR lnLay w7 W.heap.size (.slice A7 nl.length c7) nl → Blk (w7.setCell ⟨w.heap.size, 0, none⟩ (.slice A7 nl.length c7)) w.heap.size (Kd'.cells ⟨.slice A7 nl.length c7, rn, rk, false⟩) KT ∧ Blk (w7.setCell ⟨w.heap.size, 0, none⟩ (.slice A7 nl.length c7)) (w.heap.size + 2) Kd'.zero.cells KT ∧ OwnR lnLay (w7.setCell ⟨w.heap.size, 0, none⟩ (.slice A7 nl.length c7)) 0 (.slice A7 nl.length c7) nl ∧ Ext w (w7.setCell ⟨w.heap.size, 0, none⟩ (.slice A7 nl.length c7))) := hid (fun w7 A7 c7 k7 o7 => by
    have hb := k7.blk HBK.out.1
    have oo := (Only.refl w.heap.size w7).set 0 (.slice A7 nl.length c7)
    exact ⟨hb.set 0 _, (k7.blk HBK.out.2.2.1).kept oo (by omega), own_only (o7.lower (Nat.zero_le _)) hb (by decide) oo, Ext.only (HBK.out.2.2.2.1.trans k7) oo (Nat.le_refl _)⟩)
  have G1 : Ext W W.drew := E0.drew
  have G2 : Ext W (W.alloc (.cells #[] LT)).drew := (Ext.alloc E0).drew
  have G3 : Ext W (W.alloc (.cells x.cells LT)).drew := (Ext.alloc E0).drew
  have G4 : Ext W ((W.alloc (.cells #[] LT)).alloc (.cells x.cells LT)).drew := (Ext.alloc (Ext.alloc E0)).drew
  have G5 : Ext W ((W.alloc (.cells x.cells LT)).alloc (.cells #[] LT)).drew := (Ext.alloc (Ext.alloc E0)).drew
  clear HROW
  go_enter Try.func24, Try.ntmps24
  go_upto_region 11 with fail

  go_cut [44] (fun u44 wx => ∃ u7, Blk wx w.heap.size (Kd'.cells ⟨u7, rn, rk, false⟩) KT ∧ Blk wx (w.heap.size + 2) Kd'.zero.cells KT ∧ OwnR lnLay wx 0 u7 nl ∧ Ext w wx)
  case first =>
    go_region_law (first
      | (refine step_appL (base := W.heap.size) (l := []) (m := rl) (A := A) (c := c) rfl (.tmp 38) (.tmp 40) rfl rfl rfl rfl rfl O1.out R1.out hlen1 hb1 ?_; intro v5 w5 o5 b5 k5 g5; rw [List.nil_append] at o5; have HO5 := hid o5; have E5 : Ext W w5 := Below.trans X1.out b5; have k05 := K0X w5 E5; have z05 := Z0X w5 E5; have ld5 := LDX w5 E5; have HB5 : Hid (W.heap.size ≤ w5.heap.size) := hid E5.le; have G6 : Ext W (w5.alloc (.cells x.cells LT)) := Ext.alloc E5; clear o5 b5 k5 g5)
      | (refine step_appL (base := W.heap.size) (l := []) (m := rl) (A := A) (c := c) rfl (.tmp 38) (.tmp 40) rfl rfl rfl rfl rfl O2.out R2.out hlen1 hb2 ?_; intro v5 w5 o5 b5 k5 g5; rw [List.nil_append] at o5; have HO5 := hid o5; have E5 : Ext W w5 := Below.trans X2.out b5; have k05 := K0X w5 E5; have z05 := Z0X w5 E5; have ld5 := LDX w5 E5; have HB5 : Hid (W.heap.size ≤ w5.heap.size) := hid E5.le; have G6 : Ext W (w5.alloc (.cells x.cells LT)) := Ext.alloc E5; have BF5 : Hid (Blk w5 (W.heap.size + 1) x.cells LT) := hid ((g5 _ F2.out.lt N2.out).trans F2.out); clear o5 b5 k5 g5)
      | (refine step_appL (base := W.heap.size) (l := []) (m := rl) (A := A) (c := c) rfl (.tmp 38) (.tmp 40) rfl rfl rfl rfl rfl O3.out R3.out hlen1 hb3 ?_; intro v5 w5 o5 b5 k5 g5; rw [List.nil_append] at o5; have HO5 := hid o5; have E5 : Ext W w5 := Below.trans X3.out b5; have k05 := K0X w5 E5; have z05 := Z0X w5 E5; have ld5 := LDX w5 E5; have HB5 : Hid (W.heap.size ≤ w5.heap.size) := hid E5.le; have G6 : Ext W (w5.alloc (.cells x.cells LT)) := Ext.alloc E5; have BF5 : Hid (Blk w5 W.heap.size x.cells LT) := hid ((g5 _ F3.out.lt N3.out).trans F3.out); clear o5 b5 k5 g5)
      | (refine step_appL (base := W.heap.size) (l := rl) (m := [x]) rfl (.tmp 41) (.tmp 43) rfl rfl rfl rfl rfl HO5.out (row_one BF5.out) hlen2 HB5.out ?_; intro v7 w7 o7 b7 k7 g7; rw [hnl.eq] at o7; obtain ⟨A7, c7, hv7⟩ := o7.form; subst hv7; have HO7 := hid o7; have E7 : Ext W w7 := Below.trans E5 b7; have k07 := K0X w7 E7; have z07 := Z0X w7 E7; have HE7 := hid E7; clear o7 b7 k7 g7)
      | (refine step_appL (base := W.heap.size) (l := rl) (m := [x]) rfl (.tmp 41) (.tmp 43) rfl rfl rfl rfl rfl (HO5.out.below (Ext.refl w5).alloc) (row_one (Blk.new w5 x.cells LT)) hlen2 (Nat.le_trans HB5.out (Ext.refl w5).alloc.le) ?_; intro v7 w7 o7 b7 k7 g7; rw [hnl.eq] at o7; obtain ⟨A7, c7, hv7⟩ := o7.form; subst hv7; have HO7 := hid o7; have E7 : Ext W w7 := Below.trans (Ext.alloc E5) b7; have k07 := K0X w7 E7; have z07 := Z0X w7 E7; have HE7 := hid E7; clear o7 b7 k7 g7))
    all_goals
      have PQ := hid (PUT.out w7 A7 c7 HE7.out HO7.out)
      go_wp2_with fail
      go_meet
      case rel => exact ⟨_, PQ.out⟩
  case rest =>
    obtain ⟨u7, hb7, hz7, ho7, hk7⟩ := hcut
    obtain ⟨A7, c7, hu7⟩ := ho7.form
    subst hu7
    obtain ⟨w7, hw7⟩ : ∃ w7, w7 = wc := ⟨_, rfl⟩
    subst hw7
    have c71 : w7.cell? ⟨w.heap.size, 1, none⟩ = some (.int .i64 rn) := hb7.cell 1 _ rfl
    have z71 := hb7.free 1
    have b8 := hb7.set 1 (.int .i64 (rn + 1))
    have c83 : (w7.setCell ⟨w.heap.size, 1, none⟩ (.int .i64 (rn + 1))).cell? ⟨w.heap.size, 3, none⟩ = some (.bool false) := b8.cell 3 _ rfl
    have z83 := b8.free 3
    have b9 := b8.set 3 (.bool Q)
    have oo := ((Only.refl w.heap.size w7).set 1 (.int .i64 (rn + 1))).set 3 (.bool Q)
    have hz9 := hz7.kept oo (by omega)
    have ho9 := own_only ho7 hb7 (by decide) oo
    have hk9 : Ext w ((w7.setCell ⟨w.heap.size, 1, none⟩ (.int .i64 (rn + 1))).setCell ⟨w.heap.size, 3, none⟩ (.bool Q)) := Ext.only hk7 oo (Nat.le_refl _)
    obtain ⟨lkd, std, hpd, hod, hkd⟩ := fin_k (u := .slice A7 nl.length c7) (n := rn + 1) (blk := rk) (last := Q) hk9 b9 hz9 ho9 (Nat.le_add_right _ _)
    have HPD := hid hpd
    have HOD := hid hod
    have HKD := hid hkd
    have k29 : ((w7.setCell ⟨w.heap.size, 1, none⟩ (.int .i64 (rn + 1))).setCell ⟨w.heap.size, 3, none⟩ (.bool Q)).drew.cell? ⟨w.heap.size, 2, none⟩ = some (.int .i64 rk) := b9.cell 2 _ rfl
    have k2r : (((w7.setCell ⟨w.heap.size, 1, none⟩ (.int .i64 (rn + 1))).setCell ⟨w.heap.size, 3, none⟩ (.bool Q)).drew.setRow (w.heap.size + 2) (Kd'.cells ⟨.slice A7 nl.length c7, rn + 1, rk, Q⟩)).cell? ⟨w.heap.size, 2, none⟩ = some (.int .i64 rk) := (Blk.kept ((Ext.refl _).drew.blk b9) (putK_only _ (w.heap.size + 2) _) (by omega)).cell 2 _ rfl
    clear hb7 hz7 ho7 hk7 b8 b9 oo hz9 ho9 hk9 hpd hod hkd K0X Z0X LDX PUT R1 R2 R3 O1 O2 O3 X1 X2 X3 F2 F3 G1 G2 G3 G4 G5 hb1 hb2 hb3 k0 k1 k2 k3 l0
    cases Q
    · go_wp2_with fail
      go_region
      go_wp2_with fail
      exact bodyPost_ret (res_k3 (Try.results24) rfl rfl rfl HPD.out) rfl ⟨_, rfl, HOD.out, HKD.out⟩
    · go_wp2_with fail
      go_region
      go_wp2_with fail
      exact bodyPost_ret (res_k3 (Try.results24) rfl rfl rfl HPD.out) rfl ⟨_, rfl, HOD.out, HKD.out⟩


theorem rput_c (u : Value) (r : Rk) (x : Ln) (w : World) (h : OwnR lnLay w 0 u r.l) (hx : Byt x.l) (hl : r.l.length ≤ 1000) (hn : 0 ≤ r.n ∧ r.n ≤ 1000) :
    Calls Try.prog 24 #[(Kd'.val ⟨u, r.n, r.blk, r.last⟩), x.val] w fun e w' => ∃ u', e = .returned (.tuple #[Kd'.val ⟨u', (r.put x).1.n, (r.put x).1.blk, (r.put x).1.last⟩, .bool (r.put x).2.1, .int .i64 (r.put x).2.2]) ∧ OwnR lnLay w' 0 u' (r.put x).1.l ∧ Ext w w' := by
  obtain ⟨rl, rn, rk, q⟩ := r
  cases q
  · exact rputfalse_c u rl rn rk x w h hx hl hn
  · exact rputtrue_c u rl rn rk x w h hx hl hn

end Go.Proofs.Ytpdomjinhbnmfaa
