/- A deterministic reading of the program's code, and its soundness: part 3 of 3. -/
import Derived.Test.YthhgenogeibfpaaGreatDoorDB
import Derived.Lib.Bytealg
import Derived.Laws.Externs
import Derived.Test.YthhgenogeibfpaaGreatDoorDA
import Derived.KernelRfl
import Derived.ProofKit

/- Loops over functions. -/
set_option linter.unusedVariables false
set_option linter.unusedSimpArgs false
namespace Go.Det
variable {X : Fix} {prog : FuncId → Option DFunc} {R : Run} {M : Mem} {φ : Place} {H : List SObj} {w : World} {P : Program}

theorem m_rangeFunc {b : Frame} {t : Array Value} {d : List Deferred} {k : List Item} {cs : List Frame} {w w' : World} {f : Operand} {ps : Array Tmp} {as bd : Code} {v : Value} (hb : b.roundOf = none)
    (hr : Runs P (do let q ← Deferred.ofValue (evalT t f) #[.func (.yield (w.heap.size + 1)) #[] #[]]; invoke q.target q.args)
      { w with heap := (w.heap.push (.deferred (some []))).push (.loop { state := .ready, pending := none, fn := b.fn, tmps := t, params := ps, assign := as, body := bd, defers := w.heap.size }) } v w') :
    Steps P (lone (fat b t d (.code (.rangeFunc f ps as bd) :: k)) cs w) (lone (fat b t (mark w.heap.size :: d) (.endRangeFunc (w.heap.size + 1) :: k)) cs w') := by
  generalize hw1 : ({ w with heap := (w.heap.push (.deferred (some []))).push (.loop { state := .ready, pending := none, fn := b.fn, tmps := t, params := ps, assign := as, body := bd, defers := w.heap.size }) } : World) = w1 at hr
  have he : (Instr.enterLoop b.fn t ps as bd b.roundOf).run P w = .ok (w.heap.size + 1, [mark w.heap.size]) w1 := by
    subst hw1
    rw [hb]
    simp [Instr.enterLoop, run_newObj, mark]
    rfl
  have heT : ((Instr.enterLoop b.fn t ps as bd b.roundOf).runT P w #[]).1 = .ok (w.heap.size + 1, [mark w.heap.size]) w1 := by rw [Sem.runT_fst]; exact he
  have hfin : ∀ v, (fat b t (mark w.heap.size :: d) (.inRangeFunc (w.heap.size + 1) :: k)).finish v = fat b t (mark w.heap.size :: d) (.endRangeFunc (w.heap.size + 1) :: k) := fun v => rfl
  have hev := eval_fat b t (mark w.heap.size :: d) (.inRangeFunc (w.heap.size + 1) :: k)
  have hres : ∀ ty, (do let q ← resolve (evalT t) { callee := .value f, args := #[.const (.func (.yield (w.heap.size + 1)) #[] #[])], argTypes := #[] } ty; invoke q.target q.args : Sem Next) = (do let q ← Deferred.ofValue (evalT t f) #[.func (.yield (w.heap.size + 1)) #[] #[]]; invoke q.target q.args) := by
    intro ty; simp [resolve, evalT]
  have hstep : ∀ g, stepG.apply P true (fat b t (mark w.heap.size :: d) (.inRangeFunc (w.heap.size + 1) :: k)) cs none (do let q ← Deferred.ofValue (evalT t f) #[.func (.yield (w.heap.size + 1)) #[] #[]]; invoke q.target q.args) w1 = g →
      (∃ es, stepG P true { frame := fat b t d (.code (.rangeFunc f ps as bd) :: k), callers := cs, status := .running, dying := none } w = GStep.after es g) := by
    intro g hg
    simp only [fat] at hev
    simp only [stepG, stepG.exec, fat]
    generalize (Instr.enterLoop b.fn t ps as bd b.roundOf).runT P w #[] = q at heT ⊢
    obtain ⟨a, es⟩ := q
    simp only at heT
    subst heT
    refine ⟨seen P b.fn es, ?_⟩
    rw [← hg]
    simp only [List.cons_append, List.nil_append, fat]
    rw [hev, hres]
  cases hr with
  | value h =>
    refine .one (step_lone_go ?_)
    obtain ⟨es, hq⟩ := hstep _ rfl
    rw [hq]
    simp [stepG.apply, h, hfin]
  | skip h hv =>
    refine .one (step_lone_go ?_)
    obtain ⟨es, hq⟩ := hstep _ rfl
    rw [hq]
    simp [stepG.apply, h, hfin]
  | enter g as' w2 h hs =>
    have := hs (fat b t (mark w.heap.size :: d) (.inRangeFunc (w.heap.size + 1) :: k)) cs
    rw [hfin] at this
    refine .head (step_lone_go ?_) this
    obtain ⟨es, hq⟩ := hstep _ rfl
    rw [hq]
    simp [stepG.apply, h, fat]
  | round l g tm a' b' w2 h hs =>
    have := hs (fat b t (mark w.heap.size :: d) (.inRangeFunc (w.heap.size + 1) :: k)) cs
    rw [hfin] at this
    refine .head (step_lone_go ?_) this
    obtain ⟨es, hq⟩ := hstep _ rfl
    rw [hq]
    simp [stepG.apply, h, fat]
end Go.Det

/- What a loop over a function comes to. -/
set_option linter.unusedVariables false
set_option linter.unusedSimpArgs false
namespace Go.Det
variable {X : Fix} {prog : FuncId → Option DFunc} {R : Run} {M : Mem} {φ : Place} {H : List SObj} {w : World} {P : Program}

theorem run_endLoop {l : Nat} {lp : Loop} (h : w.heap[l]? = some (.loop lp)) (hs : lp.state ≠ .busy) {w' : World} (hw : (setObj l (.loop { lp with state := .exhausted })).run P w = .ok () w') : (Instr.endLoop l).run P w = .ok lp.pending w' := by
  have hb : (lp.state == LoopState.busy) = false := by
    cases hst : lp.state <;> first | rfl | exact absurd hst hs
  simp only [Instr.endLoop, Sem.run_bind, run_getLoop h, Result.andThen_ok, hb, Bool.false_eq_true, if_false, hw, Sem.run_pure]
theorem m_endRangeFunc {b : Frame} {t : Array Value} {d : List Deferred} {k : List Item} {cs : List Frame} {w w' : World} {l : Nat} {j : Option Code} (h : (Instr.endLoop l).run P w = .ok j w') :
    step P (lone (fat b t d (.endRangeFunc l :: k)) cs w) = .next (lone (fat b t d ((j.map Item.code).toList ++ k)) cs w') := by
  have hT : ((Instr.endLoop l).runT P w #[]).1 = .ok j w' := by rw [Sem.runT_fst]; exact h
  refine step_lone_go ?_
  simp only [stepG, stepG.exec, fat]
  generalize (Instr.endLoop l).runT P w #[] = q at hT ⊢
  obtain ⟨a, es⟩ := q
  simp only at hT
  subst hT
  simp [GStep.after]
theorem same_dead {b : Nat} {x : SObj} (hb : H[b]? = some x) : Same φ H φ (H.set b .dead) b := by
  have hd := get_set (x' := .dead) hb
  exact ⟨fun _ _ _ h => (by rw [hd] at h; cases h), fun _ _ h => (by rw [hd] at h; cases h), fun _ _ _ _ h => (by rw [hd] at h; cases h), fun _ _ _ _ _ _ h => (by rw [hd] at h; cases h)⟩
theorem range_code (hC : CallsOk X prog R) {fn : FuncId} {f : Operand} {ps : Array Tmp} {a bd : Code} {s : St} {outs : List (Ex × St)} (hf : okOpd (opd X.c f) = true)
    (h : stepD prog R (.rangeFunc (opd X.c f) ps.toList (compCode X.c (X.keep fn) a) (compCode X.c (X.keep fn) bd)) s = some outs)
    {t : Array Value} {rs : List Nat} (hR : Rel X M φ s.h w) (hE : EnvR M φ s.h s.env t) (hM : Marks M φ s.h w rs) : Leaves X fn false s.h.length M φ s.h w t rs outs fun k => .code (.rangeFunc f ps a bd) :: k := by
  simp only [stepD] at h
  obtain ⟨as, ha, hm⟩ := bind_mem h
  -- the mark and the loop are laid
  let w0 : World := { w with heap := w.heap.push (.deferred (some [])) }
  have hR0 : Rel X M φ s.h w0 := hR.grow fun k hk => push_old hk
  have hT0 : Trans s.h.length M φ s.h w M φ s.h w0 :=
    ⟨Mem.le_refl _, Nat.le_refl _, fun b _ => Same.refl _ _ b, rfl, rfl, rfl, by simp [w0], fun k hk _ => push_old hk, fun b hb => .inl ⟨b, hb, rfl⟩, fun k h => .inl h⟩
  have hM0 : Marks M φ s.h w0 (w.heap.size :: rs) := by
    have hM' := hM.over hT0
    refine ⟨fun r hr => ?_, ?_⟩
    · rcases List.mem_cons.1 hr with rfl | hr
      · refine ⟨push_get, fun b hb => ?_, fun hh => ?_⟩
        · have := hR.lt hb; omega
        · have := hR.has_lt hh; omega
      · exact hM'.at_ r hr
    · refine List.nodup_cons.2 ⟨fun hr => ?_, hM.nodup⟩
      have := (Array.getElem?_eq_some_iff.1 (hM.at_ _ hr).1).1
      omega
  let lp : Loop := { state := .ready, pending := none, fn := fn, tmps := t, params := ps, assign := a, body := bd, defers := w.heap.size }
  obtain ⟨φ1, R1, T1, p1, S1⟩ := push_sound (X := X) (M := M) (φ := φ) (H := s.h) (w := w0) (o := .loop lp) (x := .loop s.env ps.toList (compCode X.c (X.keep fn) a) (compCode X.c (X.keep fn) bd) .ready .normal) (sz := 0) hR0 fun φ' hS hp => by
    refine ⟨lp, ?_, rfl, rfl, by simp [lp], rfl, rfl, hE.1, fun i v hv => hS _ _ (hE.2 i v hv)⟩
    rw [hp]; exact push_get
  have hx := S1 _ _ (ofEnv hR0 hE hf)
  have hp1 : (φ1 s.h.length).1 = w.heap.size + 1 := by rw [p1]; simp [w0]
  obtain ⟨⟨v, H2⟩, hmem, y, w2, M2, φ2, hruns, hv2, R2, T2⟩ := hC.val ha R1 hx (vals := #[.func (.yield (w.heap.size + 1)) #[] #[]]) rfl fun i v hi => by
    cases i with
    | zero =>
      simp only [List.getElem?_cons_zero, Option.some.injEq] at hi
      subst hi
      show SVR _ _ _ _ (.func (.yield (w.heap.size + 1)) #[] #[])
      rw [← hp1]
      exact .yield _ _ (by simp) fun _ _ _ _ _ _ _ => rfl
    | succ i => simp at hi
  obtain ⟨m, hk, hsub⟩ := hm _ hmem
  simp only at hk R2 T2 hv2
  split at hk
  · rename_i e' p' a' b' st j hb
    split at hk
    · cases hk
    · rename_i hst
      injection hk with hk; subst hk
      obtain ⟨lp2, q1, q2, q3, _⟩ := R2.ob _ _ hb
      have hl1 : s.h.length < (s.h ++ [SObj.loop s.env ps.toList (compCode X.c (X.keep fn) a) (compCode X.c (X.keep fn) bd) .ready .normal]).length := by simp
      have hφ : φ2 s.h.length = φ1 s.h.length := ((T2.ext _ hl1).loop _ _ _ _ _ _ hb).2
      obtain ⟨w3, u1, R3, T3, S3⟩ := obj_turn (x' := .dead) (o' := .loop { lp2 with state := .exhausted }) R2 hb (fun h => nomatch h) q1 (fun _ _ _ h => nomatch h) (same_dead hb) (fun _ _ _ => trivial) X.c.p
      have hend : (Instr.endLoop (w.heap.size + 1)).run X.c.p w2 = .ok (exCode j) w3 := by
        rw [← hp1, ← hφ, ← q3]
        exact run_endLoop q1 (by rw [q2]; cases st <;> first | exact absurd rfl hst | exact fun h => nomatch h) u1
      have hT : Trans s.h.length M φ s.h w M2 φ2 (H2.set s.h.length .dead) w3 := hT0.trans (T1.trans ((T2.weaken (by simp)).trans (T3.weaken (by have := T2.len; simp at this; omega))))
      have hlen : s.h.length ≤ (H2.set s.h.length .dead).length := hT.len
      obtain ⟨z1, z2, z3⟩ := trim_sound R3 hlen s.env
      have hE3 : EnvR M2 φ2 (H2.set s.h.length .dead) s.env t := hE.over hT hE.bel
      have hM3 := ((hM0.over T1).over T2).over T3
      refine ⟨j, _, hsub _ (List.mem_singleton.2 rfl), t, w3, M2, φ2, w.heap.size :: rs, ⟨z1, ⟨hE3.1, fun i v hi => z3 v _ (List.mem_of_getElem? hi) (hE3.2 i v hi)⟩, hT.trans z2⟩, hM3.over z2, ⟨fun h => (nomatch h), fun r hr => ?_⟩, fun b k cs hb hr => ?_⟩
      · rcases List.mem_cons.1 hr with rfl | hr
        · exact .inr (Nat.le_refl _)
        · exact .inl hr
      · have hround : b.roundOf = none := hr.resolve_right fun h => nomatch h
        have hs := m_rangeFunc (P := X.c.p) (b := b) (t := t) (d := rs.map mark) (k := k) (cs := cs) (w := w) (w' := w2) (f := f) (ps := ps) (as := a) (bd := bd) (v := y) hround (by
          have e : ({ w with heap := (w.heap.push (.deferred (some []))).push (.loop { state := .ready, pending := none, fn := b.fn, tmps := t, params := ps, assign := a, body := bd, defers := w.heap.size }) } : World) = { w0 with heap := w0.heap.push (.loop lp) } := by
            rw [hb]
          rw [e]; exact hruns)
        have hs2 := hs.trans (.one (m_endRangeFunc (P := X.c.p) (b := b) (t := t) (d := mark w.heap.size :: rs.map mark) (k := k) (cs := cs) hend))
        cases j with
        | normal => exact hs2
        | ret => exact ⟨k, hs2⟩
        | exit id => exact ⟨fun k' hk' => hs2.trans (.one (m_exit hk')), fun hn => ⟨k, hn, hs2⟩⟩
  · cases hk
end Go.Det

/- The deterministic reading is sound. -/
set_option linter.unusedVariables false
set_option linter.unusedSimpArgs false
namespace Go.Det
variable {X : Fix} {prog : FuncId → Option DFunc} {M : Mem} {φ : Place} {H : List SObj} {w : World}

theorem code_ok (hP : ProgOk X prog) : ∀ n, CodeOk X (runD prog n)
  | 0 => ⟨fun h => (nomatch h), fun h => (nomatch h)⟩
  | n + 1 => code_step hP (calls_ok hP (code_ok hP n)) (code_ok hP n) fun _ _ hf h _ _ _ _ _ hR hE hM => range_code (calls_ok hP (code_ok hP n)) hf h hR hE hM
end Go.Det

/- Functions without a body. -/
set_option linter.unusedVariables false
set_option linter.unusedSimpArgs false
namespace Go.Det
variable {X : Fix} {M : Mem} {φ : Place} {H : List SObj} {w : World}

theorem ext_run {P : Program} {f : FuncId} {fn : Func} {e : Array Value → Sem Value} (hf : P.funcs[f]? = some fn) (hname : (fn.name == "runtime.NumGoroutine") = false) (hb : fn.body.isNone = true) (hn : Extern.findNext fn = none) (he : Extern.find fn = some e) {args : Array Value} {w w' : World} {v : Value}
    (h : (e args).run P w = .ok v w') : (callFunc f args).run P w = .ok (.value v) w' := by
  rw [run_callFunc_extern hf hname hb hn he, h]; rfl
theorem one_arg {x : SV} {vals : Array Value} (hl : vals.size = [x].length) (hv : ∀ i v, [x][i]? = some v → SVR M φ H v (vals.getD i undef)) : ∃ v, vals = #[v] ∧ SVR M φ H x v := by
  obtain ⟨l⟩ := vals
  match l, hl with
  | [v], _ => exact ⟨v, rfl, hv 0 x rfl⟩
theorem two_args {x y : SV} {vals : Array Value} (hl : vals.size = [x, y].length) (hv : ∀ i v, [x, y][i]? = some v → SVR M φ H v (vals.getD i undef)) : ∃ v u, vals = #[v, u] ∧ SVR M φ H x v ∧ SVR M φ H y u := by
  obtain ⟨l⟩ := vals
  match l, hl with
  | [v, u], _ => exact ⟨v, u, rfl, hv 0 x rfl, hv 1 y rfl⟩
theorem cmp_less : ∀ a b : List UInt8, Lib.compareBytes a b = if bytesLess a b then -1 else if a == b then 0 else 1
  | [], [] => rfl
  | [], b :: l => rfl
  | a :: l, [] => rfl
  | a :: l, b :: m => by
    unfold Lib.compareBytes bytesLess
    rw [cmp_less l m]
    by_cases hab : a < b
    · simp [hab]
    · simp only [hab, decide_false, Bool.false_or, if_false]
      by_cases hba : b < a
      · have hne : a ≠ b := fun e => UInt8.lt_irrefl b (e ▸ hba)
        have hne' : (a == b) = false := by simp [hne]
        simp [hba, hne', hne]
      · have he : a = b := UInt8.le_antisymm (UInt8.not_lt.1 hba) (UInt8.not_lt.1 hab)
        subst he
        simp
theorem ix_eq (c : UInt8) : ∀ (l : List UInt8) (i : Nat), ixB c l i = if Lib.indexByte l c = -1 then -1 else Lib.indexByte l c + i
  | [], i => rfl
  | b :: l, i => by
    have ge := Lib.indexByte_ge l c
    unfold ixB Lib.indexByte
    rw [ix_eq c l (i + 1)]
    by_cases h : (b == c) = true
    · simp [h]
    · simp only [h, Bool.false_eq_true, if_false, beq_iff_eq]
      by_cases h2 : Lib.indexByte l c = -1
      · simp [h2]
      · have h3 : Lib.indexByte l c + 1 ≠ -1 := by omega
        simp only [h2, if_false, h3]
        omega
theorem ct_eq (c : UInt8) : ∀ l : List UInt8, ctB c l = Lib.countByte l c
  | [] => rfl
  | b :: l => by
    unfold ctB
    rw [ct_eq c l]
    unfold Lib.countByte
    rw [List.count_cons]
    cases h : b == c <;> simp
section
variable {f : FuncId} {fn : Func} (hf : X.c.p.funcs[f]? = some fn) (hname : (fn.name == "runtime.NumGoroutine") = false) (hb : fn.body.isNone = true) (hn : Extern.findNext fn = none)
include hf hname hb hn
theorem ext_noEscape (he : Extern.find fn = some Extern.AbiNoEscape.same) : ExtOk X f .noEscape := by
  intro args H r h M φ w vals hR hl hv
  unfold extern at h
  split at h
  case h_2 x _ =>
    injection h with h; subst h
    obtain ⟨v, rfl, h1⟩ := one_arg hl hv
    exact OpOut.same hR (ext_run hf hname hb hn he rfl) h1
  all_goals contradiction
theorem ext_cmp (he : Extern.find fn = some Extern.BytealgCompare.compare) : ExtOk X f .cmpstring := by
  intro args H r h M φ w vals hR hl hv
  unfold extern at h
  split at h
  case h_1 a b _ =>
    injection h with h; subst h
    obtain ⟨v, u, rfl, h1, h2⟩ := two_args hl hv
    cases h1.toF with
    | str s =>
      cases h2.toF with
      | str t =>
        refine OpOut.same hR (ext_run hf hname hb hn he (Lib.run_compareString s t w)) ?_
        rw [cmp_less]
        exact .f _ _ (.int _ _)
  all_goals contradiction
theorem ext_index (he : Extern.find fn = some Extern.BytealgIndexByte.indexByte) : ExtOk X f .indexByte := by
  intro args H r h M φ w vals hR hl hv
  unfold extern at h
  split at h
  case h_4 a c _ =>
    injection h with h; subst h
    obtain ⟨v, u, rfl, h1, h2⟩ := two_args hl hv
    cases h1.toF with
    | str s =>
      cases h2.toF with
      | int k n =>
        refine OpOut.same hR (ext_run hf hname hb hn he (Lib.run_indexByteString s c w)) ?_
        have : (if Lib.indexByte s.data.toList (UInt8.ofNat c.toNat) = -1 then (-1 : Int) else Lib.indexByte s.data.toList (UInt8.ofNat c.toNat) + ((0 : Nat) : Int)) = Lib.indexByte s.data.toList c.toNat.toUInt8 := by
          split
          · rename_i h; exact h.symm
          · simp
        rw [ix_eq, this]
        exact .f _ _ (.int _ _)
  all_goals contradiction
theorem ext_count (he : Extern.find fn = some Extern.BytealgCount.count) : ExtOk X f .countByte := by
  intro args H r h M φ w vals hR hl hv
  unfold extern at h
  split at h
  case h_5 a c _ =>
    injection h with h; subst h
    obtain ⟨v, u, rfl, h1, h2⟩ := two_args hl hv
    cases h1.toF with
    | str s =>
      cases h2.toF with
      | int k n =>
        refine OpOut.same hR (ext_run hf hname hb hn he (Lib.run_countString s c w)) ?_
        rw [ct_eq]
        exact .f _ _ (.int _ _)
  all_goals contradiction
theorem ext_clone (he : Extern.find fn = some Extern.MapsClone.clone) : ExtOk X f .clone := by
  intro args H r h M φ w vals hR hl hv
  unfold extern at h
  split at h
  case h_3 t b _ =>
    split at h
    · rename_i es c hb'
      injection h with h; subst h
      obtain ⟨v, rfl, h1⟩ := one_arg hl hv
      cases h1 with
      | iface _ _ x h1 =>
        cases h1 with
        | map _ q _ hq =>
          have := hq es c hb'; subst this
          obtain ⟨arr, g1, g2, g3⟩ := hR.ob _ _ hb'
          obtain ⟨φ', h1, h2, h3, h4⟩ := push_sound (X := X) (M := M) (φ := φ) (H := H) (w := w) (o := .map arr c) (x := .map es c) (sz := 0) hR fun φ' hS hp => by
            exact ⟨arr, by rw [hp]; exact push_get, g2, fun i e he => ⟨(g3 i e he).1, hS _ _ (g3 i e he).2.1, (g3 i e he).2.2⟩⟩
          have hg : (getObj (φ b).1).run X.c.p w = .ok (.map arr c) w := by simp [getObj, Sem.run, g1]
          refine ⟨.iface t (.map (some w.heap.size)), _, M, φ', .value (ext_run hf hname hb hn he (w' := { w with heap := w.heap.push (.map arr c) }) ?_), .iface _ _ _ (.map _ _ (by simp) (fun es c h => by rw [h3])), h1, h2⟩
          rw [show Extern.MapsClone.clone #[.iface t (.map (some (φ b).1))] = (do match ← getObj (φ b).1 with | .map entries clock => do pure (.iface t (.map (some (← newObj (.map entries clock))))) | _ => stuck "maps.clone: a map expected" : Sem Value) from rfl]
          simp [Sem.run_bind, hg, run_newObj]
    · cases h
  all_goals contradiction
end
end Go.Det

/- What code comes to hangs on finitely many runs: more fuel changes no outcome, and the runs of all fuels together are a fixed point. -/
set_option linter.unusedVariables false
set_option linter.unusedSimpArgs false
namespace Go.Det

def Le {α : Type} (o o' : Option α) : Prop := ∀ a, o = some a → o' = some a
/-- R' gives what R gives at these places. -/
def Agr (D : List (DCode × St)) (R R' : Run) : Prop := ∀ p ∈ D, Le (R p.1 p.2) (R' p.1 p.2)
theorem Agr.left {D E : List (DCode × St)} {R R' : Run} (h : Agr (D ++ E) R R') : Agr D R R' := fun p hp => h p (List.mem_append_left _ hp)
theorem Agr.right {D E : List (DCode × St)} {R R' : Run} (h : Agr (D ++ E) R R') : Agr E R R' := fun p hp => h p (List.mem_append_right _ hp)
/-- What X gives over R it gives over all that agree with R at finitely many places. -/
def Dep {α : Type} (R : Run) (X : Run → Option α) : Prop := ∀ a, X R = some a → ∃ D, ∀ R', Agr D R R' → X R' = some a
variable {R : Run} {prog : FuncId → Option DFunc}
theorem Dep.const {α : Type} {o : Option α} : Dep R fun _ => o := fun a h => ⟨[], fun _ _ => h⟩
theorem Dep.run (c : DCode) (s : St) : Dep R fun R => R c s := fun a h => ⟨[(c, s)], fun R' h' => h' (c, s) (List.mem_singleton.2 rfl) a h⟩
theorem Dep.omap {α β : Type} {X : Run → Option α} (f : α → β) (h : Dep R X) : Dep R fun R => (X R).map f := by
  intro b hb
  obtain ⟨a, ha, rfl⟩ := Option.map_eq_some_iff.1 hb
  obtain ⟨D, hD⟩ := h a ha
  exact ⟨D, fun R' h' => by show Option.map f (X R') = _; rw [hD R' h']; rfl⟩
theorem flat_dep {α β : Type} {K : α → Run → Out β} (hk : ∀ a, Dep R (K a)) : ∀ l : List α, Dep R fun R => Out.flat (fun a => K a R) l
  | [] => Dep.const
  | a :: l => by
    intro b hb
    simp only [Out.flat] at hb
    cases h1 : K a R with
    | none => rw [h1] at hb; cases hb
    | some x =>
      rw [h1] at hb
      cases h2 : Out.flat (fun a => K a R) l with
      | none => rw [h2] at hb; cases hb
      | some y =>
        rw [h2] at hb
        obtain ⟨D1, d1⟩ := hk a x h1
        obtain ⟨D2, d2⟩ := flat_dep hk l y h2
        exact ⟨D1 ++ D2, fun R' h' => by simp only [Out.flat, d1 R' h'.left, d2 R' h'.right]; exact hb⟩
theorem bind_dep {α β : Type} {X : Run → Out α} {K : α → Run → Out β} (h : Dep R X) (hk : ∀ a, Dep R (K a)) : Dep R fun R => Out.bind (X R) fun a => K a R := by
  intro b hb
  cases h1 : X R with
  | none => simp only [h1, Out.bind] at hb; cases hb
  | some l =>
    obtain ⟨D1, d1⟩ := h l h1
    have key : Dep R fun R => Out.bind (some l) fun a => K a R := by
      match l with
      | [] => exact flat_dep hk []
      | [a] => exact hk a
      | a :: b :: l => exact flat_dep hk (a :: b :: l)
    simp only [h1] at hb
    obtain ⟨D2, d2⟩ := key b hb
    exact ⟨D1 ++ D2, fun R' h' => by simp only [d1 R' h'.left]; exact d2 R' h'.right⟩
/-- An option looked at. -/
theorem opt_dep {α β : Type} {X : Run → Option α} {K : α → Run → Option β} (h : Dep R X) (hk : ∀ a, X R = some a → Dep R (K a)) : Dep R fun R => (X R).bind fun a => K a R := by
  intro b hb
  obtain ⟨a, ha, hb⟩ := Option.bind_eq_some_iff.1 hb
  obtain ⟨D1, d1⟩ := h a ha
  obtain ⟨D2, d2⟩ := hk a ha b hb
  exact ⟨D1 ++ D2, fun R' h' => by show Option.bind (X R') _ = _; rw [d1 R' h'.left]; exact d2 R' h'.right⟩
theorem Dep.of {α : Type} {X Y : Run → Option α} (h : Dep R Y) (e : ∀ R, X R = Y R) : Dep R X := by
  have : X = Y := funext e
  rw [this]; exact h

theorem pcall_dep (f : FuncId) (args : List FV) : Dep R fun R => pcallR prog R f args := by
  unfold pcallR
  cases prog f with
  | none => exact Dep.const
  | some d =>
    dsimp only
    cases d.ext with
    | some e => exact Dep.const
    | none =>
      dsimp only
      refine Dep.of (opt_dep (K := fun l _ => match ends d l with | some rs => the rs | none => none) (Dep.run d.body ⟨args.map .f ++ List.replicate (d.ntmps - args.length) U, []⟩) fun _ _ => Dep.const) fun R => ?_
      cases R d.body ⟨args.map .f ++ List.replicate (d.ntmps - args.length) U, []⟩ <;> rfl
theorem lcall_dep (f : FuncId) (args : List SV) (hp : List SObj) : Dep R fun R => lcallR prog R f args hp := by
  unfold lcallR
  cases prog f with
  | none => exact Dep.const
  | some d =>
    dsimp only
    cases d.ext with
    | some e => exact Dep.const
    | none =>
      dsimp only
      cases d.live with
      | true => exact Dep.omap _ (bind_dep (Dep.run _ _) fun _ => Dep.const)
      | false =>
        simp only [Bool.false_eq_true, if_false]
        cases frzAll hp args with
        | none => exact Dep.const
        | some fargs =>
          dsimp only
          refine Dep.of (opt_dep (K := fun r _ => if flatV r || (allF args).isSome then some [(.f r, hp)] else none) (pcall_dep (prog := prog) f fargs) fun _ _ => Dep.const) fun R => ?_
          cases pcallR prog R f fargs <;> rfl
theorem callV_dep (f : SV) (args : List SV) (hp : List SObj) : Dep R fun R => callV prog R f args hp := by
  unfold callV
  split
  · exact lcall_dep _ _ _
  · exact lcall_dep _ _ _
  · split
    · split
      · refine bind_dep (Dep.run _ _) fun x => ?_
        obtain ⟨x, s⟩ := x
        dsimp only
        split
        · split
          · exact bind_dep (Dep.run _ _) fun _ => Dep.const
          · exact Dep.const
        · exact Dep.const
      · exact Dep.const
    · exact Dep.const
  · exact Dep.const
theorem evalOp_dep (o : DOp) (env : List SV) (hp : List SObj) : Dep R fun R => evalOp prog R o env hp := by
  cases o with
  | call f args => exact lcall_dep _ _ _
  | callv f args => exact callV_dep _ _ _
  | _ => exact Dep.const
theorem evalOper_dep (o : DOper) (s : St) : Dep R fun R => evalOper prog R o s := by
  unfold evalOper
  split
  · exact bind_dep (evalOp_dep _ _ _) fun _ => Dep.const
  · exact Dep.const
  · exact Dep.const
theorem evalOps_dep : ∀ (l : List DOper) (s : St), Dep R fun R => evalOps prog R l s
  | [], _ => Dep.const
  | o :: r, s => bind_dep (evalOper_dep o s) (evalOps_dep r)
theorem textRun_dep : ∀ (l : List DOper) (env : List SV) (hp : List SObj), Dep R fun R => textRun prog R l env hp
  | [], _, _ => Dep.const
  | o :: r, env, hp => by
    unfold textRun
    split
    · exact Dep.omap _ (textRun_dep r _ _)
    · refine Dep.of (opt_dep (K := fun l R => match l with | [(v, h)] => (textRun prog R r (put env o.dst v) h).map (v :: ·) | _ => none) (evalOp_dep (prog := prog) o.op env hp) fun l _ => ?_) fun R => ?_
      · match l with
        | [] => exact Dep.const
        | [(v, h')] => exact Dep.omap _ (textRun_dep r _ _)
        | _ :: _ :: _ => exact Dep.const
      · cases evalOp prog R o.op env hp with
        | none => rfl
        | some l => match l with
          | [] => rfl
          | [(v, h')] => rfl
          | _ :: _ :: _ => rfl
    · exact Dep.const
theorem chain_dep (V : List SV) : ∀ (os : List DOper) (last : Option Nat) (i : Nat) (vs : List SV) (hp : List SObj), Dep R fun R => chain prog R V last i os vs hp
  | [], _, _, [], _ => by simp only [chain]; exact Dep.const
  | [], _, _, _ :: _, _ => by simp only [chain]; exact Dep.const
  | _ :: _, _, _, [], _ => by simp only [chain]; exact Dep.const
  | o :: os, last, i, v :: vs, hp => by
    simp only [chain]
    split
    · exact Dep.const
    · split
      · exact chain_dep V os _ _ _ _
      · exact Dep.const
    · split
      · exact chain_dep V os _ _ _ _
      · split
        · refine Dep.of (opt_dep (K := fun l R => match l with | [(v', h')] => if SV.beq v v' then (chain prog R V (some i) (i + 1) os vs h').map ((i, o.anc, h') :: ·) else none | _ => none) (evalOp_dep (prog := prog) o.op V hp) fun l _ => ?_) fun R => ?_
          · match l with
            | [] => exact Dep.const
            | [(v', h')] =>
              dsimp only
              cases SV.beq v v' with
              | true => exact Dep.omap _ (chain_dep V os _ _ _ _)
              | false => exact Dep.const
            | _ :: _ :: _ => exact Dep.const
          · cases evalOp prog R o.op V hp with
            | none => rfl
            | some l => match l with
              | [] => rfl
              | [(v, h')] => rfl
              | _ :: _ :: _ => rfl
        · exact Dep.const
def BDep (R : Run) (X : Run → Bool) : Prop := X R = true → ∃ D, ∀ R', Agr D R R' → X R' = true
theorem BDep.const {b : Bool} : BDep R fun _ => b := fun h => ⟨[], fun _ _ => h⟩
theorem BDep.and {X Y : Run → Bool} (h : BDep R X) (k : BDep R Y) : BDep R fun R => X R && Y R := by
  intro e
  simp only [Bool.and_eq_true] at e
  obtain ⟨D1, d1⟩ := h e.1
  obtain ⟨D2, d2⟩ := k e.2
  exact ⟨D1 ++ D2, fun R' h' => by simp only [d1 R' h'.left, d2 R' h'.right, Bool.and_self]⟩
theorem stab_dep (V : List SV) (o : DOper) (i : Nat) (v : SV) : ∀ (rest : List (Nat × Nat × List SObj)) (done : List Nat) (hp : List SObj), BDep R fun R => stab prog R V o i v done hp rest := by
  have head : ∀ (b : Bool) (hp : List SObj), BDep R fun R => if b then (match evalOp prog R o.op V hp with | some [(v', _)] => SV.beq v v' | _ => false) else true := by
    intro b hp
    cases b with
    | false => exact BDep.const
    | true =>
      intro e
      simp only [if_true] at e
      split at e
      · rename_i v' h' he
        obtain ⟨D, d⟩ := evalOp_dep _ _ _ _ he
        exact ⟨D, fun R' hr => by simp only [if_true, d R' hr]; exact e⟩
      · cases e
  intro rest
  induction rest with
  | nil =>
    intro done hp
    unfold stab
    exact BDep.and (head _ _) BDep.const
  | cons r rs ih =>
    intro done hp
    obtain ⟨r1, a, h'⟩ := r
    unfold stab
    exact BDep.and (head _ _) (ih _ _)
theorem stabs_dep (V : List SV) (hs : List (Nat × Nat × List SObj)) (hp : List SObj) : ∀ (os : List DOper) (i : Nat) (vs : List SV), BDep R fun R => stabs prog R V hs hp i os vs
  | [], _, _ => by simp only [stabs]; exact BDep.const
  | _ :: _, _, [] => by simp only [stabs]; exact BDep.const
  | o :: os, i, v :: vs => by
    simp only [stabs]
    refine BDep.and ?_ (stabs_dep V hs hp os _ _)
    generalize ((match wanted V o.guard with | some b => b | none => false) && neutral prog V o.op) = c
    cases c with
    | true => exact stab_dep V o i v _ _ _
    | false => exact BDep.const
theorem evalDraw_dep (m : Nat) (ops : List DOper) (s : St) : Dep R fun R => evalDraw prog R m ops s := by
  refine Dep.of (opt_dep (X := fun R => textRun prog R (ops.take m) s.env s.h) (K := fun vs R => (chain prog R (puts s.env (ops.take m) vs) none 0 (ops.take m) vs s.h).bind fun hs => if stabs prog R (puts s.env (ops.take m) vs) hs s.h 0 (ops.take m) vs then evalOps prog R (ops.drop m) ⟨puts s.env (ops.take m) vs, lastHeap s.h hs⟩ else none) (textRun_dep (prog := prog) _ _ _) fun vs _ => opt_dep (chain_dep _ _ _ _ _ _) fun hs _ => ?_) fun R => ?_
  · intro a ha
    dsimp only at ha
    split at ha
    · rename_i h3
      obtain ⟨D1, d1⟩ := stabs_dep _ _ _ _ _ _ h3
      obtain ⟨D2, d2⟩ := evalOps_dep _ _ _ ha
      exact ⟨D1 ++ D2, fun R' h' => by dsimp only; rw [if_pos (d1 R' h'.left)]; exact d2 R' h'.right⟩
    · cases ha
  · unfold evalDraw
    cases textRun prog R (ops.take m) s.env s.h with
    | none => rfl
    | some vs =>
      dsimp only [Option.bind]
      cases chain prog R (puts s.env (ops.take m) vs) none 0 (ops.take m) vs s.h <;> rfl
theorem stepD_dep (c : DCode) (s : St) : Dep R fun R => stepD prog R c s := by
  cases c with
  | region ops => exact bind_dep (evalOps_dep _ _) fun _ => Dep.const
  | draw m ops => exact bind_dep (evalDraw_dep _ _ _) fun _ => Dep.const
  | seq a b =>
    refine bind_dep (Dep.run _ _) fun x => ?_
    obtain ⟨x, s⟩ := x
    dsimp only
    split
    · exact Dep.run _ _
    · exact Dep.const
  | cond c a b =>
    simp only [stepD]
    split
    · exact Dep.run _ _
    · exact Dep.const
  | block id a => exact bind_dep (Dep.run _ _) fun _ => Dep.const
  | loop keep a => exact Dep.run _ _
  | again L keep a =>
    refine bind_dep (Dep.run _ _) fun x => ?_
    obtain ⟨x, s⟩ := x
    dsimp only
    split
    · exact Dep.run _ _
    · exact Dep.const
  | rangeFunc f ps a b => exact bind_dep (callV_dep _ _ _) fun _ => Dep.const
  | _ => exact Dep.const

/-! ### all fuels together -/
theorem runD_le (prog : FuncId → Option DFunc) : ∀ {n m : Nat}, n ≤ m → ∀ c s, Le (runD prog n c s) (runD prog m c s)
  | 0, _, _, _, _ => fun _ h => nomatch h
  | n + 1, 0, h, _, _ => absurd h (by omega)
  | n + 1, m + 1, h, c, s => by
    intro a ha
    obtain ⟨D, d⟩ := stepD_dep (prog := prog) c s a ha
    exact d (runD prog m) fun p _ => runD_le prog (by omega) _ _
open Classical in
noncomputable def run (prog : FuncId → Option DFunc) : Run := fun c s => if h : ∃ n l, runD prog n c s = some l then some (Classical.choose (Classical.choose_spec h)) else none
theorem run_iff {c : DCode} {s : St} {l : List (Ex × St)} : run prog c s = some l ↔ ∃ n, runD prog n c s = some l := by
  unfold run
  constructor
  · intro h
    split at h
    · rename_i hx
      injection h with h
      exact ⟨_, h ▸ Classical.choose_spec (Classical.choose_spec hx)⟩
    · cases h
  · rintro ⟨n, hn⟩
    have hx : ∃ n l, runD prog n c s = some l := ⟨n, l, hn⟩
    rw [dif_pos hx]
    have h2 := Classical.choose_spec (Classical.choose_spec hx)
    generalize Classical.choose (Classical.choose_spec hx) = l' at h2 ⊢
    have := runD_le prog (Nat.le_max_left n (Classical.choose hx)) _ _ _ hn
    rw [runD_le prog (Nat.le_max_right n (Classical.choose hx)) _ _ _ h2] at this
    exact this
theorem le_run (n : Nat) (c : DCode) (s : St) : Le (runD prog n c s) (run prog c s) := fun l h => run_iff.2 ⟨n, h⟩
/-- What comes of all fuels comes of some. -/
theorem some_fuel {α : Type} {X : Run → Option α} (h : Dep (run prog) X) {a : α} (ha : X (run prog) = some a) : ∃ n, X (runD prog n) = some a := by
  obtain ⟨D, d⟩ := h a ha
  have : ∃ n, Agr D (run prog) (runD prog n) := by
    clear d
    induction D with
    | nil => exact ⟨0, fun _ h => nomatch h⟩
    | cons p D ih =>
      obtain ⟨n, hn⟩ := ih
      by_cases hp : ∃ l, run prog p.1 p.2 = some l
      · obtain ⟨l, hl⟩ := hp
        obtain ⟨m, hm⟩ := run_iff.1 hl
        refine ⟨max n m, fun q hq => ?_⟩
        rcases List.mem_cons.1 hq with rfl | hq
        · intro l' hl'
          rw [hl] at hl'; injection hl' with hl'; subst hl'
          exact runD_le prog (Nat.le_max_right n m) _ _ _ hm
        · exact fun l' hl' => runD_le prog (Nat.le_max_left n m) _ _ _ (hn q hq l' hl')
      · refine ⟨n, fun q hq => ?_⟩
        rcases List.mem_cons.1 hq with rfl | hq
        · exact fun l hl => absurd ⟨l, hl⟩ hp
        · exact hn q hq
  obtain ⟨n, hn⟩ := this
  exact ⟨n, d _ hn⟩
/-- The runs of all fuels together are a fixed point. -/
theorem run_eq (c : DCode) (s : St) : run prog c s = stepD prog (run prog) c s := by
  cases h : stepD prog (run prog) c s with
  | some l =>
    obtain ⟨n, hn⟩ := some_fuel (stepD_dep c s) h
    exact run_iff.2 ⟨n + 1, hn⟩
  | none =>
    cases h2 : run prog c s with
    | none => rfl
    | some l =>
      obtain ⟨n, hn⟩ := run_iff.1 h2
      cases n with
      | zero => cases hn
      | succ n =>
        obtain ⟨D, d⟩ := stepD_dep (prog := prog) c s l hn
        have := d (run prog) fun p _ => le_run n _ _
        dsimp only at this
        rw [this] at h
        cases h
/-- What a pure call answers. -/
noncomputable def pcall (prog : FuncId → Option DFunc) (f : FuncId) (args : List FV) : Option FV := pcallR prog (run prog) f args
theorem pcall_fuel {f : FuncId} {args : List FV} {r : FV} (h : pcall prog f args = some r) : ∃ n, pcallR prog (runD prog n) f args = some r := some_fuel (pcall_dep f args) h
theorem pcall_of {f : FuncId} {args : List FV} {r : FV} {n : Nat} (h : pcallR prog (runD prog n) f args = some r) : pcall prog f args = some r := by
  obtain ⟨D, d⟩ := pcall_dep (prog := prog) f args r h
  exact d _ fun p _ => le_run n _ _
end Go.Det

/- Code as a formula: all ways through it, from label to label. -/
set_option linter.unusedVariables false
set_option linter.unusedSimpArgs false
namespace Go.Det

/-- All outcomes, of which there is one. -/
def Al {α : Type} (o : Out α) (Q : α → Prop) : Prop := ∃ l, o = some l ∧ l ≠ [] ∧ ∀ x ∈ l, Q x
theorem Al.one {α : Type} {a : α} {Q : α → Prop} (h : Q a) : Al (some [a]) Q := ⟨[a], rfl, by simp, fun x hx => by rw [List.mem_singleton.1 hx]; exact h⟩
theorem Al.mono {α : Type} {o : Out α} {Q Q' : α → Prop} (h : Al o Q) (k : ∀ a, Q a → Q' a) : Al o Q' := let ⟨l, a, b, c⟩ := h; ⟨l, a, b, fun x hx => k x (c x hx)⟩
theorem flat_al {α β : Type} {k : α → Out β} {Q : β → Prop} : ∀ l : List α, (∀ x ∈ l, Al (k x) Q) → ∃ m, Out.flat k l = some m ∧ (l ≠ [] → m ≠ []) ∧ ∀ x ∈ m, Q x
  | [], _ => ⟨[], rfl, fun h => absurd rfl h, fun _ h => nomatch h⟩
  | a :: l, h => by
    obtain ⟨m1, a1, a2, a3⟩ := h a List.mem_cons_self
    obtain ⟨m2, b1, b2, b3⟩ := flat_al l fun x hx => h x (List.mem_cons_of_mem _ hx)
    refine ⟨m1 ++ m2, by simp only [Out.flat, a1, b1], fun _ => by simp [a2], fun x hx => ?_⟩
    rcases List.mem_append.1 hx with h | h
    · exact a3 x h
    · exact b3 x h
theorem Al.bind {α β : Type} {o : Out α} {k : α → Out β} {Q : β → Prop} (h : Al o fun a => Al (k a) Q) : Al (Out.bind o k) Q := by
  obtain ⟨l, rfl, hl, h⟩ := h
  match l, hl, h with
  | [a], _, h => exact h a (List.mem_singleton.2 rfl)
  | a :: b :: l, _, h =>
    obtain ⟨m, h1, h2, h3⟩ := flat_al (a :: b :: l) h
    exact ⟨m, h1, h2 (by simp), h3⟩

/-! ### annotated code -/
inductive ACode where
  | skip
  | region (ops : List DOper)
  | draw (m : Nat) (ops : List DOper)
  | seq (lab : Option Nat) (a b : ACode)
  | cond (c : Opd) (a b : ACode)
  | block (id : Nat) (a : ACode)
  | loop (lab : Nat) (keep : Option (List Nat)) (a : ACode)
  | exit (id : Nat)
  | ret
  | other (c : DCode)
def erase : ACode → DCode
  | .skip => .skip
  | .region ops => .region ops
  | .draw m ops => .draw m ops
  | .seq _ a b => .seq (erase a) (erase b)
  | .cond c a b => .cond c (erase a) (erase b)
  | .block id a => .block id (erase a)
  | .loop _ keep a => .loop keep (erase a)
  | .exit id => .exit id
  | .ret => .ret
  | .other c => c
/-- How often code ends by leaving a block. -/
def exits (id : Nat) : DCode → Nat
  | .seq a b => exits id a + exits id b
  | .cond _ a b => exits id a + exits id b
  | .block id' a => if id' = id then 0 else exits id a
  | .loop _ a => exits id a
  | .exit id' => if id' = id then 1 else 0
  | _ => 0
/-- How often code ends with what stands behind it. -/
def ends1 : DCode → Nat
  | .seq a b => if ends1 a = 0 then 0 else ends1 b
  | .cond _ a b => ends1 a + ends1 b
  | .block id a => ends1 a + exits id a
  | .loop _ _ => 0
  | .exit _ => 0
  | .ret => 0
  | _ => 1
def loops : DCode → Bool
  | .seq a b => loops a || loops b
  | .cond _ a b => loops a || loops b
  | .block _ a => loops a
  | .loop _ _ => true
  | .rangeFunc .. => true
  | _ => false
def ann : DCode → Nat → ACode × Nat
  | .skip, n => (.skip, n)
  | .region ops, n => (.region ops, n)
  | .draw m ops, n => (.draw m ops, n)
  | .seq a b, n =>
    if decide (2 ≤ ends1 a) || loops a then
      let x := ann a (n + 1)
      let y := ann b x.2
      (.seq (some n) x.1 y.1, y.2)
    else
      let x := ann a n
      let y := ann b x.2
      (.seq none x.1 y.1, y.2)
  | .cond c a b, n =>
    let x := ann a n
    let y := ann b x.2
    (.cond c x.1 y.1, y.2)
  | .block id a, n => let x := ann a n; (.block id x.1, x.2)
  | .loop keep a, n => let x := ann a (n + 1); (.loop n keep x.1, x.2)
  | .exit id, n => (.exit id, n)
  | .ret, n => (.ret, n)
  | c, n => (.other c, n)
theorem erase_ann : ∀ (c : DCode) (n : Nat), erase (ann c n).1 = c
  | .skip, _ => rfl
  | .region _, _ => rfl
  | .draw _ _, _ => rfl
  | .seq a b, n => by
    unfold ann
    split <;> simp [erase, erase_ann a, erase_ann b]
  | .cond c a b, n => by simp [ann, erase, erase_ann a, erase_ann b]
  | .block id a, n => by simp [ann, erase, erase_ann a]
  | .loop keep a, n => by simp [ann, erase, erase_ann a]
  | .exit _, _ => rfl
  | .ret, _ => rfl
  | .again .., _ => rfl
  | .rangeFunc .., _ => rfl
  | .bad, _ => rfl

/-! ### what stands behind -/
inductive AFr where
  | seq (lab : Option Nat) (b : ACode)
  | blk (id : Nat)
  | again (L : Nat) (lab : Nat) (keep : Option (List Nat)) (a : ACode)
section
variable (prog : FuncId → Option DFunc)
/-- Code with what stands behind it, run: each end meets Q. -/
def Beh : List AFr → Ex → St → (Ex → St → Prop) → Prop
  | [], x, s, Q => Q x s
  | .seq _ b :: K, x, s, Q => if x = .normal then Al (run prog (erase b) s) fun p => Beh K p.1 p.2 Q else Beh K x s Q
  | .blk id :: K, x, s, Q => Beh K (if x = .exit id then .normal else x) s Q
  | .again L _ keep a :: K, x, s, Q =>
    if x = .normal then Al (run prog (.again L keep (erase a)) ⟨killK keep s.env, trim L (killK keep s.env) s.h⟩) fun p => Beh K p.1 p.2 Q else Beh K x s Q
def Go (c : ACode) (K : List AFr) (s : St) (Q : Ex → St → Prop) : Prop := Al (run prog (erase c) s) fun p => Beh prog K p.1 p.2 Q
variable {prog : FuncId → Option DFunc}
theorem Go.step {c : ACode} {K : List AFr} {s : St} {Q : Ex → St → Prop} (h : Al (stepD prog (run prog) (erase c) s) fun p => Beh prog K p.1 p.2 Q) : Go prog c K s Q := by
  unfold Go; rw [run_eq]; exact h
theorem Go.skip {K : List AFr} {s : St} {Q : Ex → St → Prop} (h : Beh prog K .normal s Q) : Go prog .skip K s Q := .step (.one h)
theorem Go.exit {id : Nat} {K : List AFr} {s : St} {Q : Ex → St → Prop} (h : Beh prog K (.exit id) s Q) : Go prog (.exit id) K s Q := .step (.one h)
theorem Go.ret {K : List AFr} {s : St} {Q : Ex → St → Prop} (h : Beh prog K .ret s Q) : Go prog .ret K s Q := .step (.one h)
theorem Go.seq {lab : Option Nat} {a b : ACode} {K : List AFr} {s : St} {Q : Ex → St → Prop} (h : Go prog a (.seq lab b :: K) s Q) : Go prog (.seq lab a b) K s Q := by
  refine .step ?_
  simp only [erase, stepD]
  refine Al.bind (h.mono fun p hp => ?_)
  simp only [Beh] at hp
  split at hp
  · rename_i he; simpa [he] using hp
  · rename_i he; simp only [he, if_false]; exact .one hp
theorem Go.cond {c : Opd} {t : Bool} {a b : ACode} {K : List AFr} {s : St} {Q : Ex → St → Prop} (hc : get s.env c = .f (.bool t)) (h : Go prog (if t then a else b) K s Q) : Go prog (.cond c a b) K s Q := by
  refine .step ?_
  simp only [erase, stepD, hc]
  cases t <;> exact h
theorem Go.block {id : Nat} {a : ACode} {K : List AFr} {s : St} {Q : Ex → St → Prop} (h : Go prog a (.blk id :: K) s Q) : Go prog (.block id a) K s Q := by
  refine .step ?_
  simp only [erase, stepD]
  exact Al.bind (h.mono fun p hp => .one (by simpa only [Beh] using hp))
theorem Go.loop {lab : Nat} {keep : Option (List Nat)} {a : ACode} {K : List AFr} {s : St} {Q : Ex → St → Prop} (h : Go prog a (.again s.h.length lab keep a :: K) ⟨killK keep s.env, s.h⟩ Q) : Go prog (.loop lab keep a) K s Q := by
  refine .step ?_
  simp only [erase, stepD]
  rw [run_eq]
  simp only [stepD]
  refine Al.bind (h.mono fun p hp => ?_)
  simp only [Beh] at hp
  split at hp
  · rename_i he; simpa [he] using hp
  · rename_i he; simp only [he, if_false]; exact .one hp
theorem Go.again {L lab : Nat} {keep : Option (List Nat)} {a : ACode} {K : List AFr} {s : St} {Q : Ex → St → Prop} (h : Go prog a (.again L lab keep a :: K) ⟨killK keep s.env, trim L (killK keep s.env) s.h⟩ Q) : Beh prog (.again L lab keep a :: K) .normal s Q := by
  simp only [Beh, if_true]
  rw [run_eq]
  simp only [stepD]
  refine Al.bind (h.mono fun p hp => ?_)
  simp only [Beh] at hp
  split at hp
  · rename_i he; simpa [he] using hp
  · rename_i he; simp only [he, if_false]; exact .one hp

/-! ### operations as formulas -/
def bop (o : Option SV) (k : SV → Prop) : Prop := ∃ v, o = some v ∧ k v
def bhp (o : Out (SV × List SObj)) (k : SV → List SObj → Prop) : Prop := Al o fun p => k p.1 p.2
def gop (x : SV) (b : Bool) (o : Option SV) : Option SV :=
  match x with
  | .f (.bool c) => if c == b then o else some U
  | .f (.tup []) => some U
  | _ => none
def gout (x : SV) (b : Bool) (h : List SObj) (o : Out (SV × List SObj)) : Out (SV × List SObj) :=
  match x with
  | .f (.bool c) => if c == b then o else some [(U, h)]
  | .f (.tup []) => some [(U, h)]
  | _ => none
def wcond (v : SV) (A B : Prop) : Prop :=
  match v with
  | .f (.bool b) => (b = true → A) ∧ (b = false → B)
  | _ => False
def pickV (c a b : SV) : Option SV :=
  match c with
  | .f (.bool t) => some (if t then a else b)
  | _ => none
def nilV (x : SV) : Option SV := if notNil x then some x else none
def bldV (zero : List FV) (ps : List (Nat × Nat × SV)) : Option SV := (fill (zero.map .f) ps).map mkAgg
def isnilV (k : NKind) (neg : Bool) (x : SV) : Option SV := (isNil k x).map fun r => .f (.bool (r != neg))
def cvIntV (k : IntKind) (x : SV) : Option SV :=
  match x with
  | .f (.int _ n) => some (.f (.int k (k.wrap n)))
  | _ => none
def cvStrV (x : SV) : Option SV :=
  match x with
  | .f (.str s) => some (.f (.str s))
  | _ => none
def cvRuneV (x : SV) : Option SV :=
  match x with
  | .f (.int _ n) => some (.f (.str (Utf8.encode n).data.toList))
  | _ => none
def extractV (x : SV) (i : Nat) : Option SV :=
  match elems x with
  | some vs => vs[i]?
  | none => none
def lenV (h : List SObj) (k : LKind) (x : SV) : Option SV := (lenOp h k x).map fun (n : Nat) => SV.f (.int .i64 (n : Int))
def boxO (h : List SObj) (ty : TypeId) (x : SV) : Out (SV × List SObj) :=
  match cellsOf x with
  | some cs => some [(.ptr h.length 0 cs.length, h ++ [.cells ty 0 cs])]
  | none => none
def allocO (h : List SObj) (ty : TypeId) (zero : List FV) : Out (SV × List SObj) := some [(.ptr h.length 0 zero.length, h ++ [.cells ty 0 (zero.map .f)])]
def mkmapO (h : List SObj) : Out (SV × List SObj) := some [(.map h.length, h ++ [.map [] 0])]
def mksliceO (h : List SObj) (n : Nat) (zero : List FV) (ps : List (Nat × Nat × SV)) (ty esz : Nat) : Out (SV × List SObj) :=
  match fill ((List.replicate n zero).flatten.map .f) ps with
  | none => none
  | some cs => match allF cs with
    | some l => some [(.f (.sl true n l), h)]
    | none => some [(.row h.length 0 n cs.length true, h ++ [.cells ty esz cs])]
def wantedV (x : SV) (b : Bool) : Option Bool :=
  match x with
  | .f (.bool c) => some (c == b)
  | .f (.tup []) => some false
  | _ => none
/-- Operations that leave the heap, and have one outcome. -/
def valOp (o : DOp) (env : List SV) (h : List SObj) : Option (Option SV) :=
  match o with
  | .mov x => some (some (get env x))
  | .pick c a b => some (pickV (get env c) (get env a) (get env b))
  | .build zero ps => some (bldV zero (partsOf env ps))
  | .load agg size a => some (ldV h agg size (get env a))
  | .nilchk x => some (nilV (get env x))
  | .bin op x y => some (bin op (get env x) (get env y))
  | .eqB neg x y => some (eqB neg (get env x) (get env y))
  | .eqAgg neg ks x y => some (eqAgg neg ks (get env x) (get env y))
  | .isnil k neg x => some (isnilV k neg (get env x))
  | .un op x => some (un op (get env x))
  | .cvInt k x => some (cvIntV k (get env x))
  | .cvStr x => some (cvStrV (get env x))
  | .cvRune x => some (cvRuneV (get env x))
  | .mkiface t x => some (some (mkIface t (get env x)))
  | .mkfunc fn caps => some (some (mkFunc fn (mapOpd env caps)))
  | .slice k x lo hi mx => some (sliceOp k (get env x) (lo.map (get env)) (hi.map (get env)) (mx.map (get env)))
  | .faddr off x => some (faddr off (get env x))
  | .field agg off size x => some (fieldOp agg off size (get env x))
  | .iaddr k x i => some (iaddr k (get env x) (get env i))
  | .index k agg x i => some (index k agg (get env x) (get env i))
  | .lookup kk zero ok m k => some (lookup h kk zero ok (get env m) (get env k))
  | .entry x => some (entryOp h (get env x))
  | .extract x i => some (extractV (get env x) i)
  | .len k x => some (lenV h k (get env x))
  | .lenArr n => some (some (.f (.int .i64 n)))
  | .minmax mx xs => some (minmax mx (mapOpd env xs))
  | .cap x => some (capOp h (get env x))
  | .sliceData x => some (sliceData (get env x))
  | .toUns x => some (toUns h (get env x))
  | .fromUns u size x => some (fromUns h u size (get env x))
  | .eqPtr neg x y => some (eqPtr h neg (get env x) (get env y))
  | .tassert t x => some (unwrap t (get env x))
  | _ => none
theorem valOp_eval {R : Run} {o : DOp} {env : List SV} {h : List SObj} {r : Option SV} (e : valOp o env h = some r) : evalOp prog R o env h = outV h r := by
  cases o <;> simp only [valOp, Option.some.injEq, reduceCtorEq] at e <;> subst e <;> first | rfl | skip
  case pick c a b => simp only [evalOp, pickV]; generalize get env c = z; split <;> first | rfl | (split <;> simp_all [outV])
  case cvInt k x => simp only [evalOp, cvIntV]; generalize get env x = z; split <;> first | rfl | (split <;> simp_all [outV])
  case cvStr x => simp only [evalOp, cvStrV]; generalize get env x = z; split <;> first | rfl | (split <;> simp_all [outV])
  case cvRune x => simp only [evalOp, cvRuneV]; generalize get env x = z; split <;> first | rfl | (split <;> simp_all [outV])
  case extract x i => simp only [evalOp, extractV]; generalize elems (get env x) = z; cases z <;> rfl
variable (prog) in
def wpOp (o : DOp) (env : List SV) (h : List SObj) (k : SV → List SObj → Prop) : Prop :=
  match o with
  | .mov x => k (get env x) h
  | .mkiface t x => k (mkIface t (get env x)) h
  | .mkfunc fn caps => k (mkFunc fn (mapOpd env caps)) h
  | .lenArr n => k (.f (.int .i64 n)) h
  | o => match valOp o env h with
    | some r => bop r fun v => k v h
    | none => bhp (evalOp prog (run prog) o env h) k
variable (prog) in
def wpGop (o : DOp) (x : SV) (b : Bool) (env : List SV) (h : List SObj) (k : SV → List SObj → Prop) : Prop :=
  match valOp o env h with
  | some r => bop (gop x b r) fun v => k v h
  | none => bhp (gout x b h (evalOp prog (run prog) o env h)) k
variable (prog) in
def wpOps : List DOper → List SV → List SObj → (List SV → List SObj → Prop) → Prop
  | [], env, h, k => k env h
  | o :: r, env, h, k =>
    match o.guard with
    | none => wpOp prog o.op env h fun v h => wpOps r (put env o.dst v) h k
    | some (t, b) => wpGop prog o.op (env.getD t U) b env h fun v h => wpOps r (put env o.dst v) h k
theorem wpOp_sound {o : DOp} {env : List SV} {h : List SObj} {k : SV → List SObj → Prop} (w : wpOp prog o env h k) : Al (evalOp prog (run prog) o env h) fun p => k p.1 p.2 := by
  unfold wpOp at w
  split at w
  · exact .one w
  · exact .one w
  · exact .one w
  · exact .one w
  · split at w
    · rename_i r hr
      obtain ⟨v, rfl, hv⟩ := w
      rw [valOp_eval hr]
      exact .one hv
    · exact w
theorem wpGop_sound {o : DOper} {t : Nat} {b : Bool} {env : List SV} {h : List SObj} {k : SV → List SObj → Prop} (hg : o.guard = some (t, b)) (w : wpGop prog o.op (env.getD t U) b env h k) :
    (wanted env o.guard = some true ∧ Al (evalOp prog (run prog) o.op env h) fun p => k p.1 p.2) ∨ (wanted env o.guard = some false ∧ k U h) := by
  rw [hg]
  unfold wpGop at w
  split at w
  · rename_i r hr
    obtain ⟨v, hv, hk⟩ := w
    unfold gop at hv
    unfold wanted
    dsimp only
    split at hv
    · rename_i c hx
      rw [hx]
      cases hc : c == b with
      | true =>
        rw [hc] at hv; simp only [if_true] at hv
        subst hv
        exact .inl ⟨congrArg some hc, by rw [valOp_eval hr]; exact .one hk⟩
      | false =>
        rw [hc] at hv; simp only [Bool.false_eq_true, if_false, Option.some.injEq] at hv
        subst hv
        exact .inr ⟨congrArg some hc, hk⟩
    · rename_i hx
      rw [hx]
      injection hv with hv; subst hv
      exact .inr ⟨rfl, hk⟩
    · cases hv
  · unfold bhp gout at w
    unfold wanted
    dsimp only
    split at w
    · rename_i c hx
      rw [hx]
      cases hc : c == b with
      | true => rw [hc] at w; exact .inl ⟨congrArg some hc, w⟩
      | false =>
        rw [hc] at w
        obtain ⟨l, h1, h2, h3⟩ := w
        simp only [Bool.false_eq_true, if_false, Option.some.injEq] at h1
        subst h1
        exact .inr ⟨congrArg some hc, h3 _ (List.mem_singleton.2 rfl)⟩
    · rename_i hx
      rw [hx]
      obtain ⟨l, h1, h2, h3⟩ := w
      injection h1 with h1; subst h1
      exact .inr ⟨rfl, h3 _ (List.mem_singleton.2 rfl)⟩
    · obtain ⟨l, h1, _⟩ := w; cases h1
theorem put_len (env : List SV) (d : Option Nat) (v : SV) : (put env d v).length = env.length := by cases d <;> simp [put]
theorem wpOps_sound : ∀ (ops : List DOper) {env : List SV} {h : List SObj} {k : List SV → List SObj → Prop}, wpOps prog ops env h k → Al (evalOps prog (run prog) ops ⟨env, h⟩) fun s => s.env.length = env.length ∧ k s.env s.h
  | [], env, h, k, w => .one ⟨rfl, w⟩
  | o :: r, env, h, k, w => by
    simp only [evalOps]
    refine Al.bind ?_
    have fin : ∀ (v : SV) (h' : List SObj), wpOps prog r (put env o.dst v) h' k → Al (evalOps prog (run prog) r ⟨put env o.dst v, h'⟩) fun s => s.env.length = env.length ∧ k s.env s.h := fun v h' w' =>
      (wpOps_sound r w').mono fun s hs => ⟨hs.1.trans (put_len _ _ _), hs.2⟩
    unfold wpOps at w
    unfold evalOper
    split at w
    · rename_i hg
      rw [hg]
      simp only [wanted]
      exact Al.bind ((wpOp_sound w).mono fun p hp => .one (fin _ _ hp))
    · rename_i t b hg
      rcases wpGop_sound hg w with ⟨h1, h2⟩ | ⟨h1, h2⟩
      · simp only [h1]
        exact Al.bind (h2.mono fun p hp => .one (fin _ _ hp))
      · simp only [h1]
        exact .one (fin _ _ h2)
end
end Go.Det

/- Regions whose order is open, as formulas. -/
set_option linter.unusedVariables false
set_option linter.unusedSimpArgs false
namespace Go.Det
variable {prog : FuncId → Option DFunc} {R : Run}

mutual
theorem FV.beq_refl : ∀ v : FV, FV.beq v v = true
  | .int _ _ => by simp [FV.beq]
  | .bool _ => by simp [FV.beq]
  | .str _ => by simp [FV.beq]
  | .nilPtr => rfl
  | .nilSl => rfl
  | .ptr cs => by simp only [FV.beq]; exact FV.beqs_refl cs
  | .sl _ _ cs => by simp [FV.beq, FV.beqs_refl cs]
  | .map a b => by simp [FV.beq, FV.beqs_refl a, FV.beqs_refl b]
  | .nilMap => rfl
  | .func _ cs => by simp [FV.beq, FV.beqs_refl cs]
  | .nilFunc => rfl
  | .iface _ v => by simp [FV.beq, FV.beq_refl v]
  | .nilIface => rfl
  | .agg cs => by simp only [FV.beq]; exact FV.beqs_refl cs
  | .tup cs => by simp only [FV.beq]; exact FV.beqs_refl cs
theorem FV.beqs_refl : ∀ l : List FV, FV.beqs l l = true
  | [] => rfl
  | v :: l => by simp [FV.beqs, FV.beq_refl v, FV.beqs_refl l]
end
mutual
theorem SV.beq_refl : ∀ v : SV, SV.beq v v = true
  | .f v => by simp [SV.beq, FV.beq_refl v]
  | .ptr .. => by simp [SV.beq]
  | .row .. => by simp [SV.beq]
  | .map _ => by simp [SV.beq]
  | .it _ => by simp [SV.beq]
  | .yield _ => by simp [SV.beq]
  | .func _ cs => by simp [SV.beq, SV.beqs_refl cs]
  | .iface _ v => by simp [SV.beq, SV.beq_refl v]
  | .agg cs => by simp only [SV.beq]; exact SV.beqs_refl cs
  | .tup cs => by simp only [SV.beq]; exact SV.beqs_refl cs
  | .dead => rfl
theorem SV.beqs_refl : ∀ l : List SV, SV.beqs l l = true
  | [] => rfl
  | v :: l => by simp [SV.beqs, SV.beq_refl v, SV.beqs_refl l]
end

/-- What an operation has to do with the heap: nothing; it looks; it turns it. -/
inductive Cls where
  | n0 | n1 | t | no
  deriving DecidableEq
def cls (prog : FuncId → Option DFunc) : DOp → Cls
  | .mov _ | .pick .. | .bin .. | .eqB .. | .eqAgg .. | .isnil .. | .un .. | .cvInt .. | .cvStr _ | .cvRune _ | .mkiface .. | .mkfunc .. | .lenArr _ | .faddr .. | .field .. | .iaddr .. | .index .. | .extract .. | .minmax .. | .tassert .. | .slice .. | .nilchk _ | .build .. | .mkslice .. | .sliceData _ => .n0
  | .len k _ => match k with | .map => .n1 | _ => .n0
  | .load .. | .lookup .. | .entry _ | .toUns _ | .fromUns .. | .eqPtr .. | .cap _ => .n1
  | .call f _ => match prog f with
    | some d => if d.live then .t else if d.ext.isNone then .n1 else .no
    | none => .no
  | .box .. | .alloc .. | .store .. | .mkmap | .makeslice .. | .mapset .. | .append .. | .appendz .. | .copy .. | .toBytes .. | .unsafeStr .. => .t
  | _ => .no
def msV (n : Nat) (zero : List FV) (ps : List (Nat × Nat × SV)) : Option SV :=
  match fill ((List.replicate n zero).flatten.map .f) ps with
  | none => none
  | some cs => (allF cs).map fun l => .f (.sl true n l)
def valOpD (o : DOp) (env : List SV) (h : List SObj) : Option (Option SV) :=
  match o with
  | .mkslice n zero ps _ _ => some (msV n zero (partsOf env ps))
  | o => valOp o env h
theorem valOpD_eval {o : DOp} {env : List SV} {h : List SObj} {v : SV} (e : valOpD o env h = some (some v)) : evalOp prog R o env h = some [(v, h)] := by
  unfold valOpD at e
  split at e
  · rename_i n zero ps _ _
    simp only [Option.some.injEq, msV] at e
    simp only [evalOp]
    split at e
    · cases e
    · rename_i cs hc
      obtain ⟨l, hl, rfl⟩ := Option.map_eq_some_iff.1 e
      rw [hc]; dsimp only; rw [hl]
  · rw [valOp_eval e]; rfl
def bone (o : Out (SV × List SObj)) (k : SV → List SObj → Prop) : Prop := ∃ v h, o = some [(v, h)] ∧ k v h
variable (prog) in
def opD (o : DOp) (env : List SV) (h : List SObj) (k : SV → List SObj → Prop) : Prop :=
  match o with
  | .mov x => k (get env x) h
  | .mkiface t x => k (mkIface t (get env x)) h
  | .mkfunc fn caps => k (mkFunc fn (mapOpd env caps)) h
  | .lenArr n => k (.f (.int .i64 n)) h
  | o => match valOpD o env h with
    | some r => bop r fun v => k v h
    | none => bone (evalOp prog (run prog) o env h) k
variable (prog) in
def gopD (o : DOp) (x : SV) (b : Bool) (env : List SV) (h : List SObj) (k : SV → List SObj → Prop) : Prop :=
  match valOpD o env h with
  | some r => bop (gop x b r) fun v => k v h
  | none => bone (gout x b h (evalOp prog (run prog) o env h)) k
variable (prog) in
def seqD : List DOper → Nat → List SV → List SObj → (List SV → List SV → List (Nat × Nat × List SObj) → List SObj → Prop) → Prop
  | [], _, env, h, k => k [] env [] h
  | o :: r, i, env, h, k =>
    let go := fun v h' => seqD r (i + 1) (put env o.dst v) h' fun vs V hs hf => k (v :: vs) V (if cls prog o.op = .t then (i, o.anc, h') :: hs else hs) hf
    match o.guard with
    | none => opD prog o.op env h go
    | some (t, b) => gopD prog o.op (env.getD t U) b env h go
def wr (o : DOper) (d : Nat) : Bool := match o.dst with | some e => e == d | none => false
variable (prog) in
def drawS : Option Nat → Nat → List DOper → Bool
  | _, _, [] => true
  | last, i, o :: r =>
    (dlooks o).all (fun d => (o :: r).all fun p => !wr p d) &&
    (match cls prog o.op with
      | .no => false
      | .t => o.guard.isNone && afterB o.anc last && drawS (some i) (i + 1) r
      | _ => drawS last (i + 1) r)

/-- A run in the text's order. -/
inductive Sq (prog : FuncId → Option DFunc) : List DOper → Nat → List SV → List SObj → List SV → List SV → List (Nat × Nat × List SObj) → List SObj → Prop
  | nil {i env h} : Sq prog [] i env h [] env [] h
  | quiet {o r i env h v vs V hs hf} (hc : cls prog o.op = .n0 ∨ cls prog o.op = .n1) (h1 : (wanted env o.guard = some true ∧ evalOp prog (run prog) o.op env h = some [(v, h)]) ∨ (wanted env o.guard = some false ∧ v = U)) (k : Sq prog r (i + 1) (put env o.dst v) h vs V hs hf) :
      Sq prog (o :: r) i env h (v :: vs) V hs hf
  | turn {o r i env h h' v vs V hs hf} (hc : cls prog o.op = .t) (hg : o.guard = none) (h1 : evalOp prog (run prog) o.op env h = some [(v, h')]) (k : Sq prog r (i + 1) (put env o.dst v) h' vs V hs hf) :
      Sq prog (o :: r) i env h (v :: vs) V ((i, o.anc, h') :: hs) hf
theorem Sq.text {os : List DOper} {i : Nat} {env : List SV} {h : List SObj} {vs V : List SV} {hs : List (Nat × Nat × List SObj)} {hf : List SObj} (s : Sq prog os i env h vs V hs hf) :
    textRun prog (run prog) os env h = some vs ∧ V = puts env os vs ∧ hf = lastHeap h hs ∧ vs.length = os.length ∧ V.length = env.length := by
  induction s with
  | nil => exact ⟨rfl, rfl, rfl, rfl, rfl⟩
  | quiet hc h1 k ih =>
    obtain ⟨a, b, c, d, e⟩ := ih
    refine ⟨?_, b, c, by simp [d], by rw [e, put_len]⟩
    unfold textRun
    rcases h1 with ⟨hw, he⟩ | ⟨hw, rfl⟩
    · rw [hw]; dsimp only; rw [he]; dsimp only; rw [a]; rfl
    · rw [hw]; dsimp only; rw [a]; rfl
  | turn hc hg h1 k ih =>
    obtain ⟨a, b, c, d, e⟩ := ih
    refine ⟨?_, b, by rw [c]; rfl, by simp [d], by rw [e, put_len]⟩
    unfold textRun
    rw [hg]; dsimp only [wanted]; rw [h1]; dsimp only; rw [a]; rfl
theorem not_wr {o : DOper} {d : Nat} (h : wr o d = false) : o.dst ≠ some d := by
  intro e; simp [wr, e] at h
theorem looks_puts {o : DOper} {os : List DOper} {env vs : List SV} (h : (dlooks o).all (fun d => os.all fun p => !wr p d) = true) : ∀ n ∈ dlooks o, env.getD n U = (puts env os vs).getD n U := by
  intro n hn
  have := List.all_eq_true.1 h n hn
  rw [List.getD_eq_getElem?_getD, List.getD_eq_getElem?_getD, puts_other os vs env n fun p hp => not_wr (by simpa using List.all_eq_true.1 this p hp)]
theorem cls_neutral_n {o : DOp} {env : List SV} {h : List SObj} {v : SV} (hc : cls prog o = .n0 ∨ cls prog o = .n1) (he : evalOp prog R o env h = some [(v, h)]) : neutral prog env o = true := by
  cases o <;> simp only [cls, reduceCtorEq, or_self, or_false, false_or] at hc <;> simp only [neutral]
  case mkslice n zero ps ty esz =>
    simp only [evalOp] at he
    split at he
    · cases he
    · rename_i cs hcs
      rw [hcs]; dsimp only
      split at he
      · rename_i l hl; rw [hl]; rfl
      · rename_i hl
        simp only [Option.some.injEq, List.cons.injEq, Prod.mk.injEq, and_true] at he
        have := congrArg List.length he.2
        simp at this
  case call f args =>
    cases hp : prog f with
    | none => rw [hp] at hc; simp at hc
    | some d =>
      rw [hp] at hc
      cases hl : d.live with
      | true => simp [hl] at hc
      | false => simp [hl]
theorem ite_of {A x : Bool} (h : A = true → x = true) : (if A then x else true) = true := by
  cases A with
  | true => exact h rfl
  | false => rfl
theorem cls_neutral_t {o : DOp} {env : List SV} (hc : cls prog o = .t) : neutral prog env o = false := by
  cases o <;> simp only [cls, reduceCtorEq] at hc <;> simp only [neutral]
  case call f args =>
    cases hp : prog f with
    | none => simp [hp] at hc
    | some d =>
      rw [hp] at hc
      cases hl : d.live with
      | true => simp [hl]
      | false => cases hx : d.ext <;> simp [hl, hx] at hc
  case len k x => cases k <;> simp at hc
theorem n0_any {o : DOp} {env : List SV} {h h2 : List SObj} {v : SV} (hc : cls prog o = .n0) (he : evalOp prog R o env h = some [(v, h)]) : evalOp prog R o env h2 = some [(v, h2)] := by
  have key : ∀ {r : Option SV}, outV h r = some [(v, h)] → outV h2 r = some [(v, h2)] := by
    intro r hr
    cases r with
    | none => cases hr
    | some x => simp only [outV, Option.some.injEq, List.cons.injEq, Prod.mk.injEq, and_true] at hr; rw [hr]; rfl
  cases o <;> simp only [cls, reduceCtorEq] at hc
  case len k x => cases k <;> simp at hc <;> exact key he
  case call f args =>
    cases hp : prog f with
    | none => rw [hp] at hc; simp at hc
    | some d => rw [hp] at hc; cases hl : d.live <;> cases hx : d.ext <;> simp [hl, hx] at hc
  case mkslice n zero ps ty esz =>
    simp only [evalOp] at he ⊢
    split at he
    · cases he
    · rename_i cs hcs
      split at he
      · rename_i l hl
        simp only [Option.some.injEq, List.cons.injEq, Prod.mk.injEq, and_true] at he
        rw [← he]
      · rename_i hl
        simp only [Option.some.injEq, List.cons.injEq, Prod.mk.injEq, and_true] at he
        have := congrArg List.length he.2
        simp at this
  case pick c a b =>
    simp only [evalOp] at he ⊢
    split at he
    · simp only [Option.some.injEq, List.cons.injEq, Prod.mk.injEq, and_true] at he; rw [← he]
    · cases he
  case cvInt k x =>
    simp only [evalOp] at he ⊢
    split at he
    · simp only [Option.some.injEq, List.cons.injEq, Prod.mk.injEq, and_true] at he; rw [← he]
    · cases he
  case cvStr x =>
    simp only [evalOp] at he ⊢
    split at he
    · simp only [Option.some.injEq, List.cons.injEq, Prod.mk.injEq, and_true] at he; rw [← he]
    · cases he
  case cvRune x =>
    simp only [evalOp] at he ⊢
    split at he
    · simp only [Option.some.injEq, List.cons.injEq, Prod.mk.injEq, and_true] at he; rw [← he]
    · cases he
  case extract x i =>
    simp only [evalOp] at he ⊢
    split at he
    · exact key he
    · cases he
  all_goals first
    | exact key he
    | (simp only [evalOp, Option.some.injEq, List.cons.injEq, Prod.mk.injEq, and_true] at he ⊢; rw [← he])
theorem opds_of {o : DOper} {env V : List SV} (h : ∀ n ∈ dlooks o, env.getD n U = V.getD n U) : (∀ x ∈ opds o.op, get env x = get V x) ∧ wanted env o.guard = wanted V o.guard := by
  constructor
  · intro x hx
    refine get_eq fun n hn => h n ?_
    unfold dlooks
    refine List.mem_append_left _ (List.mem_filterMap.2 ⟨x, hx, ?_⟩)
    subst hn; rfl
  · unfold wanted
    cases hg : o.guard with
    | none => rfl
    | some p =>
      obtain ⟨t, b⟩ := p
      dsimp only
      rw [h t (by unfold dlooks; rw [hg]; exact List.mem_append_right _ (List.mem_singleton.2 rfl))]
theorem Sq.chain {os : List DOper} {i : Nat} {env : List SV} {h : List SObj} {vs V : List SV} {hs : List (Nat × Nat × List SObj)} {hf : List SObj} (s : Sq prog os i env h vs V hs hf) :
    ∀ {last : Option Nat}, drawS prog last i os = true → chain prog (run prog) V last i os vs h = some hs := by
  induction s with
  | nil => intro last _; rfl
  | @quiet o r i env h v vs V hs hf hc h1 k ih =>
    intro last hd
    have hV := (Sq.quiet hc h1 k).text.2.1
    simp only [drawS, Bool.and_eq_true] at hd
    obtain ⟨hl, hd⟩ := hd
    obtain ⟨e1, e2⟩ := opds_of (looks_puts (env := env) (vs := v :: vs) hl)
    rw [← hV] at e1 e2
    have hd' : drawS prog last (i + 1) r = true := by rcases hc with hc | hc <;> (rw [hc] at hd; exact hd)
    unfold Det.chain
    rcases h1 with ⟨hw, he⟩ | ⟨hw, rfl⟩
    · rw [← e2, hw]; dsimp only
      rw [← neutral_eq e1, cls_neutral_n hc he]
      exact ih hd'
    · rw [← e2, hw]; dsimp only
      rw [SV.beq_refl]
      exact ih hd'
  | @turn o r i env h h' v vs V hs hf hc hg h1 k ih =>
    intro last hd
    have hV := (Sq.turn hc hg h1 k).text.2.1
    simp only [drawS, Bool.and_eq_true] at hd
    obtain ⟨hl, hd⟩ := hd
    obtain ⟨e1, e2⟩ := opds_of (looks_puts (env := env) (vs := v :: vs) hl)
    rw [← hV] at e1 e2
    rw [hc] at hd
    simp only [Bool.and_eq_true] at hd
    unfold Det.chain
    rw [hg]; dsimp only [wanted]
    rw [cls_neutral_t hc, hd.1.2, ← evalOp_eq e1, h1]; dsimp only
    simp only [Bool.false_eq_true, if_false, if_true, SV.beq_refl]
    rw [ih hd.2]; rfl

/-! ### what has to hold in other orders -/
def hpAt (h : List SObj) (hs : List (Nat × Nat × List SObj)) (p : Nat) : List SObj := (h :: hs.map (·.2.2)).getD p []
def permit (a : Nat) (i : Nat) (hs : List (Nat × Nat × List SObj)) (p : Nat) : Bool := ((hs.drop p).all fun e => !a.testBit e.1) && ((hs.take p).all fun e => !e.2.1.testBit i)
theorem stab_of {V : List SV} {o : DOper} {i : Nat} {v : SV} : ∀ (rest : List (Nat × Nat × List SObj)) (done : List Nat) (h : List SObj),
    (∀ p, p ≤ rest.length → permit o.anc i rest p = true → ∃ h', evalOp prog R o.op V (hpAt h rest p) = some [(v, h')]) → stab prog R V o i v done h rest = true := by
  intro rest
  induction rest with
  | nil =>
    intro done h H
    unfold stab
    simp only [Bool.and_true]
    split
    · obtain ⟨h', he⟩ := H 0 (Nat.le_refl _) rfl
      simp only [hpAt, List.map_nil, List.getD_cons_zero] at he
      rw [he]; exact SV.beq_refl v
    · rfl
  | cons e r ih =>
    intro done h H
    obtain ⟨j, a, h2⟩ := e
    unfold stab
    simp only [Bool.and_eq_true]
    refine ⟨?_, ?_⟩
    · split
      · rename_i hc
        obtain ⟨h', he⟩ := H 0 (Nat.zero_le _) (by simp only [permit, List.drop_zero, List.take_zero, List.all_nil, Bool.and_true]; exact hc.1)
        simp only [hpAt, List.getD_cons_zero] at he
        rw [he]; exact SV.beq_refl v
      · rfl
    · by_cases ha : a.testBit i = true
      · -- no place behind it is left
        clear H ih
        have hdone : ∀ (rest : List (Nat × Nat × List SObj)) (done : List Nat) (h : List SObj), a ∈ done → stab prog R V o i v done h rest = true := by
          intro rest
          induction rest with
          | nil =>
            intro done h hm
            unfold stab
            have : (done.all fun a => !a.testBit i) = false := by
              rw [List.all_eq_false]; exact ⟨a, hm, by simp [ha]⟩
            simp [this]
          | cons e r ih =>
            intro done h hm
            obtain ⟨j, a', h2⟩ := e
            unfold stab
            have : (done.all fun a => !a.testBit i) = false := by
              rw [List.all_eq_false]; exact ⟨a, hm, by simp [ha]⟩
            simp only [this, Bool.and_false, Bool.false_eq_true, if_false, Bool.true_and]
            exact ih _ _ (List.mem_cons_of_mem _ hm)
        exact hdone r _ _ List.mem_cons_self
      · refine ih _ _ fun p hp hpm => ?_
        obtain ⟨h', he⟩ := H (p + 1) (by simp; omega) (by
          simp only [permit, List.drop_succ_cons, List.take_succ_cons, List.all_cons, Bool.and_eq_true] at hpm ⊢
          exact ⟨hpm.1, by simpa using ha, hpm.2⟩)
        refine ⟨h', ?_⟩
        simpa [hpAt] using he
variable (prog) in
def oblP (o : DOp) (V : List SV) (h : List SObj) (v : SV) : Prop :=
  match valOpD o V h with
  | some r => r = some v
  | none => ∃ h', evalOp prog (run prog) o V h = some [(v, h')]
variable (prog) in
def oblG (o : DOper) (V : List SV) (h : List SObj) (v : SV) : Prop :=
  match o.guard with
  | none => oblP prog o.op V h v
  | some (t, b) => wanted V (some (t, b)) = some true → oblP prog o.op V h v
variable (prog) in
def obl1 (o : DOper) (i : Nat) (V : List SV) (h : List SObj) (hs : List (Nat × Nat × List SObj)) (v : SV) (tp : Nat) (k : Prop) : Nat → Prop
  | 0 => if tp = 0 then k else if permit o.anc i hs 0 then oblG prog o V (hpAt h hs 0) v ∧ k else k
  | p + 1 => if tp = p + 1 then obl1 o i V h hs v tp k p else if permit o.anc i hs (p + 1) then oblG prog o V (hpAt h hs (p + 1)) v ∧ obl1 o i V h hs v tp k p else obl1 o i V h hs v tp k p
variable (prog) in
def obls (V : List SV) (h : List SObj) (hs : List (Nat × Nat × List SObj)) (k : Prop) : Nat → Nat → List DOper → List SV → Prop
  | i, tp, o :: os, v :: vs =>
    match cls prog o.op with
    | .n1 => obl1 prog o i V h hs v tp (obls V h hs k (i + 1) tp os vs) hs.length
    | .t => obls V h hs k (i + 1) (tp + 1) os vs
    | _ => obls V h hs k (i + 1) tp os vs
  | _, _, _, _ => k
theorem obl1_out {o : DOper} {i : Nat} {V : List SV} {h : List SObj} {hs : List (Nat × Nat × List SObj)} {v : SV} {tp : Nat} {k : Prop} : ∀ n, obl1 prog o i V h hs v tp k n → k ∧ ∀ p, p ≤ n → p ≠ tp → permit o.anc i hs p = true → oblG prog o V (hpAt h hs p) v
  | 0, w => by
    simp only [obl1] at w
    split at w
    · exact ⟨w, fun p hp hn => absurd (by omega : p = tp) hn⟩
    · split at w
      · refine ⟨w.2, fun p hp _ _ => ?_⟩
        obtain rfl : p = 0 := by omega
        exact w.1
      · rename_i hn
        exact ⟨w, fun p hp _ hpm => absurd ((show p = 0 by omega) ▸ hpm) hn⟩
  | n + 1, w => by
    simp only [obl1] at w
    split at w
    · obtain ⟨a, b⟩ := obl1_out n w
      exact ⟨a, fun p hp hn hpm => b p (by omega) hn hpm⟩
    · split at w
      · obtain ⟨a, b⟩ := obl1_out n w.2
        refine ⟨a, fun p hp hn hpm => ?_⟩
        by_cases he : p = n + 1
        · subst he; exact w.1
        · exact b p (by omega) hn hpm
      · rename_i hnp
        obtain ⟨a, b⟩ := obl1_out n w
        refine ⟨a, fun p hp hn hpm => ?_⟩
        by_cases he : p = n + 1
        · subst he; exact absurd hpm hnp
        · exact b p (by omega) hn hpm
theorem oblP_eval {o : DOp} {V : List SV} {h : List SObj} {v : SV} (w : oblP prog o V h v) : ∃ h', evalOp prog (run prog) o V h = some [(v, h')] := by
  unfold oblP at w
  split at w
  · rename_i r hr; subst w; exact ⟨h, valOpD_eval hr⟩
  · exact w
theorem Sq.stabs {os : List DOper} {i : Nat} {env : List SV} {h : List SObj} {vs V : List SV} {hs : List (Nat × Nat × List SObj)} {hf : List SObj} (s : Sq prog os i env h vs V hs hf) :
    ∀ {last : Option Nat}, drawS prog last i os = true → ∀ {h0 : List SObj} {pre : List (Nat × Nat × List SObj)} {k : Prop}, h = lastHeap h0 pre → obls prog V h0 (pre ++ hs) k i pre.length os vs →
      k ∧ stabs prog (run prog) V (pre ++ hs) h0 i os vs = true := by
  have hlast : ∀ (pre rest : List (Nat × Nat × List SObj)) (h0 : List SObj), hpAt h0 (pre ++ rest) pre.length = lastHeap h0 pre := by
    intro pre
    induction pre with
    | nil => intro rest h0; rfl
    | cons e r ih =>
      intro rest h0
      obtain ⟨a, b, c⟩ := e
      have := ih rest c
      simp only [hpAt, List.cons_append, List.map_cons, List.length_cons, List.getD_cons_succ, lastHeap] at this ⊢
      exact this
  induction s with
  | nil => intro last _ h0 pre k _ w; exact ⟨w, rfl⟩
  | @quiet o r i env h v vs V hs hf hc h1 kk ih =>
    intro last hd h0 pre k hh w
    have hV := (Sq.quiet hc h1 kk).text.2.1
    simp only [drawS, Bool.and_eq_true] at hd
    obtain ⟨hl, hd⟩ := hd
    obtain ⟨e1, e2⟩ := opds_of (looks_puts (env := env) (vs := v :: vs) hl)
    rw [← hV] at e1 e2
    have hd' : drawS prog last (i + 1) r = true := by rcases hc with hc | hc <;> (rw [hc] at hd; exact hd)
    simp only [Det.stabs]
    rw [Bool.and_eq_true]
    rcases hc with hc | hc
    · simp only [obls, hc] at w
      obtain ⟨a, b⟩ := ih hd' hh w
      refine ⟨a, ite_of fun hw => ?_, b⟩
      rcases h1 with ⟨hw1, he⟩ | ⟨hw1, rfl⟩
      · exact stab_of _ _ _ fun p _ _ => ⟨_, n0_any hc ((evalOp_eq e1).symm.trans he)⟩
      · rw [← e2, hw1] at hw; simp at hw
    · simp only [obls, hc] at w
      obtain ⟨w1, w2⟩ := obl1_out _ w
      obtain ⟨a, b⟩ := ih hd' hh w1
      refine ⟨a, ite_of fun hw => ?_, b⟩
      rcases h1 with ⟨hw1, he⟩ | ⟨hw1, rfl⟩
      · refine stab_of _ _ _ fun p hp hpm => ?_
        by_cases hpt : p = pre.length
        · subst hpt
          rw [hlast, ← hh]
          exact ⟨_, (evalOp_eq e1).symm.trans he⟩
        · have := w2 p hp hpt hpm
          unfold oblG at this
          split at this
          · exact oblP_eval this
          · rename_i t b' hg
            exact oblP_eval (this (by rw [← hg, ← e2]; exact hw1))
      · rw [← e2, hw1] at hw; simp at hw
  | @turn o r i env h h' v vs V hs hf hc hg h1 kk ih =>
    intro last hd h0 pre k hh w
    simp only [drawS, Bool.and_eq_true] at hd
    obtain ⟨hl, hd⟩ := hd
    rw [hc] at hd
    simp only [Bool.and_eq_true] at hd
    simp only [Det.stabs]
    rw [Bool.and_eq_true]
    simp only [obls, hc] at w
    have e : pre ++ (i, o.anc, h') :: hs = (pre ++ [(i, o.anc, h')]) ++ hs := by simp
    rw [e] at w ⊢
    obtain ⟨a, b⟩ := ih hd.2 (h0 := h0) (pre := pre ++ [(i, o.anc, h')]) (by rw [lastHeap_append]; rfl) (by simpa using w)
    refine ⟨a, ?_, b⟩
    rw [cls_neutral_t hc]; simp
theorem seqD_sq : ∀ (os : List DOper) {i : Nat} {last : Option Nat} {env : List SV} {h : List SObj} {k : List SV → List SV → List (Nat × Nat × List SObj) → List SObj → Prop}, drawS prog last i os = true → seqD prog os i env h k →
    ∃ vs V hs hf, Sq prog os i env h vs V hs hf ∧ k vs V hs hf
  | [], i, last, env, h, k, _, w => ⟨[], env, [], h, .nil, w⟩
  | o :: r, i, last, env, h, k, hd, w => by
    simp only [drawS, Bool.and_eq_true] at hd
    obtain ⟨hl, hd⟩ := hd
    have quiet : ∀ (v : SV), (cls prog o.op = .n0 ∨ cls prog o.op = .n1) → ((wanted env o.guard = some true ∧ evalOp prog (run prog) o.op env h = some [(v, h)]) ∨ (wanted env o.guard = some false ∧ v = U)) →
        (seqD prog r (i + 1) (put env o.dst v) h fun vs V hs hf => k (v :: vs) V (if cls prog o.op = .t then (i, o.anc, h) :: hs else hs) hf) → ∃ vs V hs hf, Sq prog (o :: r) i env h vs V hs hf ∧ k vs V hs hf := by
      intro v hc h1 w'
      have hd' : drawS prog last (i + 1) r = true := by rcases hc with hc | hc <;> (rw [hc] at hd; exact hd)
      obtain ⟨vs, V, hs, hf, s, hk⟩ := seqD_sq r hd' w'
      refine ⟨v :: vs, V, hs, hf, .quiet hc h1 s, ?_⟩
      rcases hc with hc | hc <;> simpa [hc] using hk
    have turn : ∀ (v : SV) (h' : List SObj), cls prog o.op = .t → evalOp prog (run prog) o.op env h = some [(v, h')] →
        (seqD prog r (i + 1) (put env o.dst v) h' fun vs V hs hf => k (v :: vs) V (if cls prog o.op = .t then (i, o.anc, h') :: hs else hs) hf) → ∃ vs V hs hf, Sq prog (o :: r) i env h vs V hs hf ∧ k vs V hs hf := by
      intro v h' hc h1 w'
      rw [hc] at hd
      simp only [Bool.and_eq_true, Option.isNone_iff_eq_none] at hd
      obtain ⟨vs, V, hs, hf, s, hk⟩ := seqD_sq r hd.2 w'
      refine ⟨v :: vs, V, (i, o.anc, h') :: hs, hf, .turn hc hd.1.1 h1 s, ?_⟩
      simpa [hc] using hk
    have hno : cls prog o.op ≠ .no := by intro hc; rw [hc] at hd; cases hd
    have valn : ∀ {r : Option SV}, valOpD o.op env h = some r → cls prog o.op = .n0 ∨ cls prog o.op = .n1 := by
      intro r hr
      cases hop : o.op <;> rw [hop] at hr hno <;> first | (exact .inl rfl) | (exact .inr rfl) | (simp [valOpD, valOp] at hr; done) | skip
      case len kk x => cases kk <;> first | (exact .inl rfl) | (exact .inr rfl)
    have same : ∀ {v : SV} {h' : List SObj}, (cls prog o.op = .n0 ∨ cls prog o.op = .n1) → valOpD o.op env h = none → evalOp prog (run prog) o.op env h = some [(v, h')] → h' = h := by
      intro v h' hc hv he
      cases hop : o.op <;> rw [hop] at hv hc he <;> first | (simp [valOpD, valOp] at hv; done) | (simp [cls] at hc; done) | skip
      case call f args =>
        simp only [cls] at hc
        cases hp : prog f with
        | none => rw [hp] at hc; simp at hc
        | some d =>
          rw [hp] at hc
          cases hlv : d.live with
          | true => simp [hlv] at hc
          | false =>
            simp only [evalOp, lcallR, hp] at he
            cases hx : d.ext with
            | none =>
              rw [hx] at he; dsimp only at he
              simp only [hlv, Bool.false_eq_true, if_false] at he
              split at he
              · cases he
              · split at he
                · cases he
                · split at he
                  · simp only [Option.some.injEq, List.cons.injEq, Prod.mk.injEq, and_true] at he; exact he.2.symm
                  · cases he
            | some e => simp [hlv, hx] at hc
    have ev : ∀ {v : SV}, valOpD o.op env h = some (some v) → evalOp prog (run prog) o.op env h = some [(v, h)] := fun e => valOpD_eval e
    simp only [seqD] at w
    split at w
    · rename_i hg
      have fin : ∀ v h', evalOp prog (run prog) o.op env h = some [(v, h')] → (valOpD o.op env h ≠ none → h' = h) →
          (seqD prog r (i + 1) (put env o.dst v) h' fun vs V hs hf => k (v :: vs) V (if cls prog o.op = .t then (i, o.anc, h') :: hs else hs) hf) → ∃ vs V hs hf, Sq prog (o :: r) i env h vs V hs hf ∧ k vs V hs hf := by
        intro v h' he hsame w'
        cases hcl : cls prog o.op with
        | no => exact absurd hcl hno
        | t => exact turn v h' hcl he w'
        | n0 =>
          have hh : h' = h := by
            by_cases hv : valOpD o.op env h = none
            · exact same (.inl hcl) hv he
            · exact hsame hv
          subst hh
          exact quiet v (.inl hcl) (.inl ⟨by rw [hg]; rfl, he⟩) w'
        | n1 =>
          have hh : h' = h := by
            by_cases hv : valOpD o.op env h = none
            · exact same (.inr hcl) hv he
            · exact hsame hv
          subst hh
          exact quiet v (.inr hcl) (.inl ⟨by rw [hg]; rfl, he⟩) w'
      unfold opD at w
      split at w
      · rename_i x hop; rw [hop] at fin; exact fin _ _ rfl (fun _ => rfl) (by simpa [hop] using w)
      · rename_i t x hop; rw [hop] at fin; exact fin _ _ rfl (fun _ => rfl) (by simpa [hop] using w)
      · rename_i fn caps hop; rw [hop] at fin; exact fin _ _ rfl (fun _ => rfl) (by simpa [hop] using w)
      · rename_i n hop; rw [hop] at fin; exact fin _ _ rfl (fun _ => rfl) (by simpa [hop] using w)
      · split at w
        · rename_i q hq
          obtain ⟨v, hv, w⟩ := w
          subst hv
          exact fin v h (ev hq) (fun _ => rfl) w
        · rename_i hq
          obtain ⟨v, h', he, w⟩ := w
          exact fin v h' he (fun hn => absurd hq hn) w
    · rename_i t b hg
      have hnt : cls prog o.op = .n0 ∨ cls prog o.op = .n1 := by
        cases hcl : cls prog o.op with
        | no => exact absurd hcl hno
        | t => rw [hcl, hg] at hd; simp at hd
        | n0 => exact .inl rfl
        | n1 => exact .inr rfl
      have hw : ∀ {c : Bool}, env.getD t U = .f (.bool c) → wanted env o.guard = some (c == b) := by
        intro c hc; rw [hg]; unfold wanted; dsimp only; rw [hc]
      have hu : env.getD t U = .f (.tup []) → wanted env o.guard = some false := by
        intro hc; rw [hg]; unfold wanted; dsimp only; rw [hc]
      unfold gopD at w
      split at w
      · rename_i q hq
        obtain ⟨v, hv, w⟩ := w
        unfold gop at hv
        split at hv
        · rename_i c hx
          cases hcb : c == b with
          | true =>
            rw [hcb] at hv; simp only [if_true] at hv; subst hv
            exact quiet v hnt (.inl ⟨by rw [hw hx, hcb], ev hq⟩) w
          | false =>
            rw [hcb] at hv; simp only [Bool.false_eq_true, if_false, Option.some.injEq] at hv; subst hv
            exact quiet _ hnt (.inr ⟨by rw [hw hx, hcb], rfl⟩) w
        · rename_i hx
          injection hv with hv; subst hv
          exact quiet _ hnt (.inr ⟨hu hx, rfl⟩) w
        · cases hv
      · rename_i hq
        obtain ⟨v, h', he, w⟩ := w
        unfold gout at he
        split at he
        · rename_i c hx
          cases hcb : c == b with
          | true =>
            rw [hcb] at he; simp only [if_true] at he
            have := same hnt hq he; subst this
            exact quiet v hnt (.inl ⟨by rw [hw hx, hcb], he⟩) w
          | false =>
            rw [hcb] at he; simp only [Bool.false_eq_true, if_false, Option.some.injEq, List.cons.injEq, Prod.mk.injEq, and_true] at he
            obtain ⟨rfl, rfl⟩ := he
            exact quiet _ hnt (.inr ⟨by rw [hw hx, hcb], rfl⟩) w
        · rename_i hx
          simp only [Option.some.injEq, List.cons.injEq, Prod.mk.injEq, and_true] at he
          obtain ⟨rfl, rfl⟩ := he
          exact quiet _ hnt (.inr ⟨hu hx, rfl⟩) w
        · cases he
variable (prog) in
def wpDraw (m : Nat) (ops : List DOper) (env : List SV) (h : List SObj) (k : List SV → List SObj → Prop) : Prop :=
  if drawS prog none 0 (ops.take m) then
    seqD prog (ops.take m) 0 env h fun vs V hs hf => obls prog V h hs (wpOps prog (ops.drop m) V hf k) 0 0 (ops.take m) vs
  else Al (evalDraw prog (run prog) m ops ⟨env, h⟩) fun s => s.env.length = env.length ∧ k s.env s.h
theorem wpDraw_sound {m : Nat} {ops : List DOper} {env : List SV} {h : List SObj} {k : List SV → List SObj → Prop} (w : wpDraw prog m ops env h k) : Al (evalDraw prog (run prog) m ops ⟨env, h⟩) fun s => s.env.length = env.length ∧ k s.env s.h := by
  unfold wpDraw at w
  split at w
  · rename_i hd
    obtain ⟨vs, V, hs, hf, s, w⟩ := seqD_sq _ hd w
    obtain ⟨h1, h2, h3, h4, h5⟩ := s.text
    obtain ⟨w, hst⟩ := s.stabs hd (h0 := h) (pre := []) rfl w
    have hch := s.chain hd
    simp only [List.nil_append] at hst
    subst h2; subst h3
    unfold evalDraw
    simp only [h1]
    rw [hch]
    dsimp only
    rw [if_pos hst]
    exact (wpOps_sound _ w).mono fun x hx => ⟨hx.1.trans h5, hx.2⟩
  · exact w
end Go.Det

/- A function's code as formulas. -/
set_option linter.unusedVariables false
set_option linter.unusedSimpArgs false
namespace Go.Det
variable {prog : FuncId → Option DFunc}

def keptV (keep : Option (List Nat)) (env : List SV) : List SV :=
  match keep with
  | none => env
  | some l => l.map fun i => env.getD i U
theorem killEnv_at : ∀ (keep : List Nat) (k : Nat) (env : List SV) (i : Nat), (killEnv keep k env)[i]? = (env[i]?).map fun v => if keep.contains (k + i) then v else .dead
  | keep, k, [], i => by simp [killEnv]
  | keep, k, x :: env, i => by
    cases i with
    | zero => simp [killEnv]
    | succ i =>
      simp only [killEnv, List.getElem?_cons_succ]
      rw [killEnv_at keep (k + 1) env i, show k + 1 + i = k + (i + 1) by omega]
theorem belows_kept {L : Nat} (keep : Option (List Nat)) (env : List SV) : belows L (killK keep env) = belows L (keptV keep env) := by
  cases keep with
  | none => rfl
  | some l =>
    rw [Bool.eq_iff_iff]
    constructor
    · intro h
      refine belows_of fun i c hc => ?_
      simp only [keptV, List.getElem?_map, Option.map_eq_some_iff] at hc
      obtain ⟨j, hj, rfl⟩ := hc
      cases he : env[j]? with
      | none => rw [List.getD_eq_getElem?_getD, he]; rfl
      | some v =>
        rw [List.getD_eq_getElem?_getD, he]
        refine belows_get h j v ?_
        simp only [killK]
        rw [killEnv_at, he]
        simp [List.mem_of_getElem? hj]
    · intro h
      refine belows_of fun i c hc => ?_
      simp only [killK] at hc
      rw [killEnv_at] at hc
      obtain ⟨v, hv, rfl⟩ := Option.map_eq_some_iff.1 hc
      split
      · rename_i hm
        simp only [Nat.zero_add, List.contains_iff_mem] at hm
        obtain ⟨j, hj⟩ := List.getElem?_of_mem hm
        refine belows_get h j v ?_
        simp only [keptV, List.getElem?_map, hj, Option.map_some]
        rw [List.getD_eq_getElem?_getD, hv]; rfl
      · rfl
theorem trim_kept {L : Nat} (keep : Option (List Nat)) (env : List SV) (h : List SObj) : trim L (killK keep env) h = trim L (keptV keep env) h := by
  unfold trim; rw [belows_kept]
theorem killK_len (keep : Option (List Nat)) (env : List SV) : (killK keep env).length = env.length := by
  cases keep with
  | none => rfl
  | some l => exact killEnv_len l 0 env

abbrev Leaf := Nat → ACode → List AFr → List SV → List SObj → Prop
variable (prog) in
def wp (leaf : Leaf) (Q : Ex → List SV → List SObj → Prop) : Nat → ACode ⊕ Ex → List AFr → List SV → List SObj → Prop :=
  Nat.rec (fun _ _ _ _ => False) fun _ rec c K env h =>
    match c with
    | .inl c =>
      match c with
      | .skip => rec (.inr .normal) K env h
      | .region ops => wpOps prog ops env h fun env h => rec (.inr .normal) K env h
      | .draw m ops => wpDraw prog m ops env h fun env h => rec (.inr .normal) K env h
      | .seq lab a b => rec (.inl a) (.seq lab b :: K) env h
      | .cond c a b => wcond (get env c) (rec (.inl a) K env h) (rec (.inl b) K env h)
      | .block id a => rec (.inl a) (.blk id :: K) env h
      | .loop lab keep a => leaf lab a (.again h.length lab keep a :: K) (killK keep env) h
      | .exit id => rec (.inr (.exit id)) K env h
      | .ret => rec (.inr .ret) K env h
      | .other c => match c with
        | .bad => False
        | c => Al (run prog c ⟨env, h⟩) fun p => p.2.env.length = env.length ∧ rec (.inr p.1) K p.2.env p.2.h
    | .inr x =>
      match K with
      | [] => Q x env h
      | .seq lab b :: K =>
        match x with
        | .normal => match lab with
          | some j => leaf j b K env h
          | none => rec (.inl b) K env h
        | x => rec (.inr x) K env h
      | .blk id :: K =>
        match x with
        | .exit i => rec (.inr (if i = id then .normal else .exit i)) K env h
        | x => rec (.inr x) K env h
      | .again L lab keep a :: K =>
        match x with
        | .normal => leaf lab a (.again L lab keep a :: K) (killK keep env) (trim L (keptV keep env) h)
        | x => rec (.inr x) K env h
theorem wp_sound {leaf : Leaf} {Q' : Ex → List SV → List SObj → Prop} {Q : Ex → St → Prop} {N : Nat} (hQ : ∀ x env h, Q' x env h → Q x ⟨env, h⟩) (hl : ∀ j c K env h, env.length = N → leaf j c K env h → Go prog c K ⟨env, h⟩ Q) : ∀ (n : Nat) {c : ACode ⊕ Ex} {K : List AFr} {env : List SV} {h : List SObj}, env.length = N →
    wp prog leaf Q' n c K env h → match c with | .inl c => Go prog c K ⟨env, h⟩ Q | .inr x => Beh prog K x ⟨env, h⟩ Q
  | 0, c, K, env, h, _, w => w.elim
  | n + 1, .inl c, K, env, h, hn, w => by
    have ih := @wp_sound leaf Q' Q N hQ hl n
    cases c with
    | skip => exact Go.skip (ih (c := .inr .normal) hn w)
    | region ops =>
      refine .step ?_
      simp only [erase, stepD]
      exact Al.bind ((wpOps_sound ops w).mono fun s hs => .one (ih (c := .inr .normal) (hs.1.trans hn) hs.2))
    | draw m ops =>
      refine .step ?_
      simp only [erase, stepD]
      exact Al.bind ((wpDraw_sound w).mono fun s hs => .one (ih (c := .inr .normal) (hs.1.trans hn) hs.2))
    | seq lab a b => exact Go.seq (ih (c := .inl a) hn w)
    | cond c a b =>
      have w' : wcond (get env c) (wp prog leaf Q' n (.inl a) K env h) (wp prog leaf Q' n (.inl b) K env h) := w
      unfold wcond at w'
      split at w'
      · rename_i t ht
        refine Go.cond ht ?_
        cases t with
        | true => exact ih (c := .inl a) hn (w'.1 rfl)
        | false => exact ih (c := .inl b) hn (w'.2 rfl)
      · exact w'.elim
    | block id a => exact Go.block (ih (c := .inl a) hn w)
    | loop lab keep a => exact Go.loop (hl _ _ _ _ _ (by rw [killK_len]; exact hn) w)
    | exit id => exact Go.exit (ih (c := .inr (.exit id)) hn w)
    | ret => exact Go.ret (ih (c := .inr .ret) hn w)
    | other c => cases c <;> first | exact w.elim | exact Al.mono w fun p hp => ih (c := .inr p.1) (hp.1.trans hn) hp.2
  | n + 1, .inr x, K, env, h, hn, w => by
    have ih := @wp_sound leaf Q' Q N hQ hl n
    cases K with
    | nil => exact hQ _ _ _ w
    | cons fr K =>
      cases fr with
      | seq lab b =>
        cases x with
        | normal =>
          simp only [Beh, if_true]
          cases lab with
          | none => exact ih (c := .inl b) hn w
          | some j => exact hl _ _ _ _ _ hn w
        | exit i => simp only [Beh, reduceCtorEq, if_false]; exact ih (c := .inr (.exit i)) hn w
        | ret => simp only [Beh, reduceCtorEq, if_false]; exact ih (c := .inr .ret) hn w
      | blk id =>
        cases x with
        | normal => simp only [Beh, reduceCtorEq, if_false]; exact ih (c := .inr .normal) hn w
        | exit i =>
          simp only [Beh, Ex.exit.injEq]
          exact ih (c := .inr (if i = id then .normal else .exit i)) hn w
        | ret => simp only [Beh, reduceCtorEq, if_false]; exact ih (c := .inr .ret) hn w
      | again L lab keep a =>
        cases x with
        | normal =>
          refine Go.again ?_
          dsimp only
          rw [trim_kept]
          exact hl _ _ _ _ _ (by rw [killK_len]; exact hn) w
        | exit i => simp only [Beh, reduceCtorEq, if_false]; exact ih (c := .inr (.exit i)) hn w
        | ret => simp only [Beh, reduceCtorEq, if_false]; exact ih (c := .inr .ret) hn w

/-! ### results -/
def endQ (d : DFunc) (k : SV → List SObj → Prop) (x : Ex) (s : St) : Prop :=
  match endOf d (x, s) with
  | some (r, s) => k r s.h
  | none => False
def tupV : List SV → SV
  | [v] => v
  | vs => mkTup vs
def resK : List RVar → List SV → List SObj → (List SV → Prop) → Prop
  | [], _, _, k => k []
  | .tmp t :: r, env, h, k => resK r env h fun vs => k (env.getD t U :: vs)
  | .cell t size agg :: r, env, h, k => bop (ldV h agg size (env.getD t U)) fun v => resK r env h fun vs => k (v :: vs)
def retQ (d : DFunc) (k : SV → List SObj → Prop) (x : Ex) (env : List SV) (h : List SObj) : Prop :=
  match x with
  | .exit _ => False
  | _ => resK d.results env h fun vs => k (tupV vs) h
theorem resK_out : ∀ (rs : List RVar) {env : List SV} {h : List SObj} {k : List SV → Prop}, resK rs env h k → ∃ vs, resVals ⟨env, h⟩ rs = some vs ∧ k vs
  | [], env, h, k, w => ⟨[], rfl, w⟩
  | .tmp t :: r, env, h, k, w => by
    obtain ⟨vs, a, b⟩ := resK_out r w
    exact ⟨_, by simp only [resVals, resVal, a], b⟩
  | .cell t size agg :: r, env, h, k, w => by
    obtain ⟨v, hv, w⟩ := w
    obtain ⟨vs, a, b⟩ := resK_out r w
    exact ⟨_, by simp only [resVals, resVal, hv, a], b⟩
theorem result_of {rs : List RVar} {s : St} {vs : List SV} (h : resVals s rs = some vs) : result s rs = some (tupV vs) := by
  unfold result tupV
  rw [h]
  match vs with
  | [] => rfl
  | [v] => rfl
  | _ :: _ :: _ => rfl
theorem retQ_end {d : DFunc} {k : SV → List SObj → Prop} {x : Ex} {env : List SV} {h : List SObj} (w : retQ d k x env h) : endQ d k x ⟨env, h⟩ := by
  have key : resK d.results env h (fun vs => k (tupV vs) h) → ∀ y : Ex, (∀ i, y ≠ .exit i) → endQ d k y ⟨env, h⟩ := by
    intro w y hy
    obtain ⟨vs, a, b⟩ := resK_out _ w
    unfold endQ endOf
    cases y with
    | exit i => exact absurd rfl (hy i)
    | normal => simp only [result_of a]; exact b
    | ret => simp only [result_of a]; exact b
  cases x with
  | exit i => exact w.elim
  | normal => exact key w _ (fun i h => nomatch h)
  | ret => exact key w _ (fun i h => nomatch h)

/-! ### labels -/
variable (prog) in
/-- From a place of a function's code on, with these slots, whatever the others hold: each end gives k. -/
def Lab (d : DFunc) (live : List Nat) (c : ACode) (K : List AFr) (vals : List SV) (h : List SObj) (k : SV → List SObj → Prop) : Prop :=
  ∀ env : List SV, env.length = d.ntmps → live.map (fun i => env.getD i U) = vals → Go prog c K ⟨env, h⟩ (endQ d k)
variable (prog) in
def leafOf (d : DFunc) (live : Nat → List Nat) (k : SV → List SObj → Prop) : Leaf := fun j c K env h => Lab prog d (live j) c K ((live j).map fun i => env.getD i U) h k
variable (prog) in
def wpF (d : DFunc) (live : Nat → List Nat) (k : SV → List SObj → Prop) (c : ACode) (K : List AFr) (env : List SV) (h : List SObj) : Prop := wp prog (leafOf prog d live k) (retQ d k) 100000 (.inl c) K env h
theorem wpF_go {d : DFunc} {live : Nat → List Nat} {k : SV → List SObj → Prop} {c : ACode} {K : List AFr} {env : List SV} {h : List SObj} (hn : env.length = d.ntmps) (w : wpF prog d live k c K env h) : Go prog c K ⟨env, h⟩ (endQ d k) :=
  wp_sound (c := .inl c) (fun _ _ _ h => retQ_end h) (fun _ _ _ env _ hn h => h env hn rfl) 100000 hn w
/-- The value of each slot in the list put there. -/
def patch : List SV → List Nat → List SV → List SV
  | env, i :: is, v :: vs => patch (env.set i v) is vs
  | env, _, _ => env
theorem patch_len : ∀ (is : List Nat) (vs env : List SV), (patch env is vs).length = env.length
  | [], _, _ => by simp [patch]
  | _ :: _, [], _ => by simp [patch]
  | i :: is, v :: vs, env => by simp [patch, patch_len is vs]
theorem patch_same : ∀ (is : List Nat) (env : List SV), patch env is (is.map fun i => env.getD i U) = env
  | [], _ => rfl
  | i :: is, env => by
    simp only [List.map_cons, patch]
    have : env.set i (env.getD i U) = env := by
      by_cases h : i < env.length
      · rw [List.getD_eq_getElem?_getD, List.getElem?_eq_getElem h]; simp
      · rw [List.set_eq_of_length_le (by omega)]
    rw [this]; exact patch_same is env
def AllL : Nat → (List SV → Prop) → Prop
  | 0, P => P []
  | n + 1, P => ∀ x, AllL n fun l => P (x :: l)
def AllC : Nat → Prop → Prop
  | 0, A => A
  | n + 1, A => ∀ _ : SV, AllC n A
theorem allC : ∀ {n : Nat} {A : Prop}, A → AllC n A
  | 0, _, a => a
  | _ + 1, _, a => fun _ => allC a
theorem allL : ∀ {n : Nat} {P : List SV → Prop}, AllL n P → ∀ l : List SV, l.length = n → P l
  | 0, P, h, l, hl => by obtain rfl : l = [] := List.length_eq_zero_iff.1 hl; exact h
  | n + 1, P, h, [], hl => by simp at hl
  | n + 1, P, h, x :: l, hl => allL (h x) l (by simpa using hl)
theorem lab_of {d : DFunc} {N : Nat} {live : Nat → List Nat} {ls : List Nat} {c : ACode} {K : List AFr} {vals : List SV} {h : List SObj} {k : SV → List SObj → Prop} (hn : d.ntmps = N) (w : AllL N fun env => wpF prog d live k c K (patch env ls vals) h) : Lab prog d ls c K vals h k := by
  intro env hl hv
  have := allL w env (hl.trans hn)
  rw [← hv, patch_same] at this
  exact wpF_go hl this
variable (prog) in
/-- A function's body, entered. -/
def Entry (d : DFunc) (args : List SV) (h : List SObj) (k : SV → List SObj → Prop) : Prop := Go prog (ann d.body 0).1 [] ⟨args ++ List.replicate (d.ntmps - args.length) U, h⟩ (endQ d k)
theorem ent_of {d : DFunc} {live : Nat → List Nat} {args : List SV} {h : List SObj} {k : SV → List SObj → Prop} (hn : args.length ≤ d.ntmps) (w : wpF prog d live k (ann d.body 0).1 [] (args ++ List.replicate (d.ntmps - args.length) U) h) : Entry prog d args h k :=
  wpF_go (by simp; omega) w
def findL (j : Nat) : ACode → List AFr → List Nat → Option (ACode × List AFr)
  | .seq lab a b, K, ls => if lab = some j then some (b, K) else match findL j a (.seq lab b :: K) ls with
    | some r => some r
    | none => findL j b K ls
  | .cond _ a b, K, ls => match findL j a K ls with
    | some r => some r
    | none => findL j b K ls
  | .block id a, K, ls => findL j a (.blk id :: K) ls
  | .loop lab keep a, K, l :: ls => if lab = j then some (a, .again l lab keep a :: K) else findL j a (.again l lab keep a :: K) ls
  | _, _, _ => none

/-! ### calls -/
variable (prog) in
noncomputable def lcall (f : FuncId) (args : List SV) (h : List SObj) : Out (SV × List SObj) := lcallR prog (run prog) f args h
variable (prog) in
noncomputable def vcall (f : SV) (args : List SV) (h : List SObj) : Out (SV × List SObj) := callV prog (run prog) f args h
theorem go_nil {c : ACode} {s : St} {Q : Ex → St → Prop} (w : Go prog c [] s Q) : Al (run prog (erase c) s) fun p => Q p.1 p.2 := w
theorem the_of {r : FV} : ∀ {l : List FV}, l ≠ [] → (∀ x ∈ l, x = r) → the l = some r
  | [], h, _ => absurd rfl h
  | v :: l, _, h => by
    have hv := h v List.mem_cons_self
    subst hv
    show (if l.all (FV.beq v) then some v else none) = some v
    rw [if_pos]
    refine List.all_eq_true.2 fun x hx => ?_
    rw [h x (List.mem_cons_of_mem _ hx)]; exact FV.beq_refl _
theorem pcall_of_ent {f : FuncId} {d : DFunc} {fargs : List FV} {r : FV} (hf : prog f = some d) (he : d.ext = none) (w : Entry prog d (fargs.map .f) [] fun v h => frz h 100 v = some r) : pcall prog f fargs = some r := by
  unfold pcall pcallR
  rw [hf]; dsimp only
  rw [he]; dsimp only
  unfold Entry at w
  obtain ⟨l, h1, h2, h3⟩ := go_nil w
  rw [erase_ann] at h1
  rw [List.length_map] at h1
  rw [h1]; dsimp only
  have key : ∀ l : List (Ex × St), (∀ x ∈ l, endQ d (fun v h => frz h 100 v = some r) x.1 x.2) → ∃ vs, ends d l = some vs ∧ vs.length = l.length ∧ ∀ x ∈ vs, x = r := by
    intro l
    induction l with
    | nil => intro _; exact ⟨[], rfl, rfl, fun _ h => nomatch h⟩
    | cons e l ih =>
      intro hl
      obtain ⟨vs, a, b, c⟩ := ih fun x hx => hl x (List.mem_cons_of_mem _ hx)
      have he := hl e List.mem_cons_self
      unfold endQ at he
      split at he
      · rename_i v s hv
        refine ⟨r :: vs, ?_, by simp [b], fun x hx => ?_⟩
        · simp only [ends]
          rw [show endOf d e = some (v, s) from hv]; dsimp only
          rw [he]; dsimp only; rw [a]
        · rcases List.mem_cons.1 hx with rfl | hx
          · rfl
          · exact c x hx
      · exact he.elim
  obtain ⟨vs, a, b, c⟩ := key l h3
  rw [a]; dsimp only
  exact the_of (by intro hv; subst hv; simp at b; exact h2 (List.length_eq_zero_iff.1 b.symm)) c
/-- A call that sees nothing but frozen values, by what it answers. -/
theorem lcall_pure {f : FuncId} {d : DFunc} {args : List SV} {fargs : List FV} {h : List SObj} {r : FV} (hf : prog f = some d) (he : d.ext = none) (hl : d.live = false) (hfr : frzAll h args = some fargs) (hp : pcall prog f fargs = some r) (hflat : (flatV r || (allF args).isSome) = true) :
    lcall prog f args h = some [(.f r, h)] := by
  unfold lcall lcallR
  rw [hf]; dsimp only
  rw [he]; dsimp only
  rw [hl]; simp only [Bool.false_eq_true, if_false]
  rw [hfr]; dsimp only
  unfold pcall at hp
  rw [hp]; dsimp only
  rw [if_pos hflat]
theorem dedup_ne : ∀ {l : List (SV × List SObj)}, l ≠ [] → dedup l ≠ []
  | [], h => absurd rfl h
  | [_], _ => by simp [dedup]
  | a :: b :: r, _ => by
    unfold dedup
    split
    · split <;> simp
    · simp
theorem dedup_sub : ∀ (l : List (SV × List SObj)), ∀ x ∈ dedup l, x ∈ l
  | [], x, h => by simp [dedup] at h
  | [a], x, h => by simpa [dedup] using h
  | a :: b :: r, x, h => by
    have ih := dedup_sub (b :: r)
    unfold dedup at h
    split at h
    · rename_i c r' hc
      have hsub : ∀ y ∈ c :: r', y ∈ b :: r := fun y hy => ih y (by rw [hc]; exact hy)
      split at h
      · exact List.mem_cons_of_mem _ (hsub x h)
      · rcases List.mem_cons.1 h with rfl | h
        · exact List.mem_cons_self
        · exact List.mem_cons_of_mem _ (hsub x h)
    · rw [List.mem_singleton] at h; subst h; exact List.mem_cons_self
/-- A call on the caller's heap. -/
theorem lcall_live {f : FuncId} {d : DFunc} {args : List SV} {h : List SObj} {k : SV → List SObj → Prop} (hf : prog f = some d) (he : d.ext = none) (hl : d.live = true) (w : Entry prog d args h fun v h' => k v (trim h.length [v] h')) : bhp (lcall prog f args h) k := by
  unfold bhp lcall lcallR
  rw [hf]; dsimp only
  rw [he]; dsimp only
  rw [hl]; simp only [if_true]
  have h1 := go_nil w
  rw [erase_ann] at h1
  have h2 : Al (Out.bind (run prog d.body ⟨args ++ List.replicate (d.ntmps - args.length) U, h⟩) fun e => match endOf d e with | some (r, s) => some [(r, trim h.length [r] s.h)] | none => none) fun p => k p.1 p.2 := by
    refine Al.bind (h1.mono fun p hp => ?_)
    unfold endQ at hp
    split at hp
    · rename_i r s hr
      rw [show endOf d p = some (r, s) from hr]
      exact .one hp
    · exact hp.elim
  obtain ⟨l, a, b, c⟩ := h2
  exact ⟨dedup l, congrArg (Option.map dedup) a, dedup_ne b, fun x hx => c x (dedup_sub l x hx)⟩
end Go.Det

/- A program that is read by compFunc. -/
set_option linter.unusedVariables false
set_option linter.unusedSimpArgs false
namespace Go.Det
variable {X : Fix}

theorem find_cmp {fn : Func} (h : fn.name = "internal/bytealg.abigen_runtime_cmpstring") (ho : fn.origin = "") : Extern.findNext fn = none ∧ Extern.find fn = some Extern.BytealgCompare.compare := by
  cases fn; simp only at h ho; subst h; subst ho; exact ⟨by kernel_rfl, by kernel_rfl⟩
theorem find_noEscape {fn : Func} (h : fn.name = "internal/abi.NoEscape") (ho : fn.origin = "") : Extern.findNext fn = none ∧ Extern.find fn = some Extern.AbiNoEscape.same := by
  cases fn; simp only at h ho; subst h; subst ho; exact ⟨by kernel_rfl, by kernel_rfl⟩
theorem find_clone {fn : Func} (h : fn.name = "maps.clone") (ho : fn.origin = "") : Extern.findNext fn = none ∧ Extern.find fn = some Extern.MapsClone.clone := by
  cases fn; simp only at h ho; subst h; subst ho; exact ⟨by kernel_rfl, by kernel_rfl⟩
theorem find_index {fn : Func} (h : fn.name = "internal/bytealg.IndexByteString") (ho : fn.origin = "") : Extern.findNext fn = none ∧ Extern.find fn = some Extern.BytealgIndexByte.indexByte := by
  cases fn; simp only at h ho; subst h; subst ho; exact ⟨by kernel_rfl, by kernel_rfl⟩
theorem find_count {fn : Func} (h : fn.name = "internal/bytealg.CountString") (ho : fn.origin = "") : Extern.findNext fn = none ∧ Extern.find fn = some Extern.BytealgCount.count := by
  cases fn; simp only at h ho; subst h; subst ho; exact ⟨by kernel_rfl, by kernel_rfl⟩
theorem ext_all {f : FuncId} {fn : Func} {e : Ext} (hf : X.c.p.funcs[f]? = some fn) (hb : fn.body = none) (ho : fn.origin = "") (h : extOf fn.name = some e) : ExtOk X f e := by
  have hb' : fn.body.isNone = true := by rw [hb]; rfl
  unfold extOf at h
  split at h
  · rename_i hn
    injection h with h; subst h
    intro _ _ _ h _ _ _ _ hR hl hv; exact ext_cmp hf (by rw [hn]; decide) hb' (find_cmp hn ho).1 (find_cmp hn ho).2 h hR hl hv
  · split at h
    · rename_i hn
      injection h with h; subst h
      intro _ _ _ h _ _ _ _ hR hl hv; exact ext_noEscape hf (by rw [hn]; decide) hb' (find_noEscape hn ho).1 (find_noEscape hn ho).2 h hR hl hv
    · split at h
      · rename_i hn
        injection h with h; subst h
        intro _ _ _ h _ _ _ _ hR hl hv; exact ext_clone hf (by rw [hn]; decide) hb' (find_clone hn ho).1 (find_clone hn ho).2 h hR hl hv
      · split at h
        · rename_i hn
          injection h with h; subst h
          intro _ _ _ h _ _ _ _ hR hl hv; exact ext_index hf (by rw [hn]; decide) hb' (find_index hn ho).1 (find_index hn ho).2 h hR hl hv
        · split at h
          · rename_i hn
            injection h with h; subst h
            intro _ _ _ h _ _ _ _ hR hl hv; exact ext_count hf (by rw [hn]; decide) hb' (find_count hn ho).1 (find_count hn ho).2 h hR hl hv
          · cases h
theorem prog_ok {live : FuncId → Bool} (hmix : X.c.p.follows .mixedOrders = true) : ProgOk X (compFunc X.c live X.keep) where
  mix := hmix
  fn f d h := by
    unfold compFunc at h
    split at h
    · cases h
    · rename_i fn hf
      refine ⟨fn, hf, ?_⟩
      split at h
      · rename_i b hb
        split at h
        · cases h
        · rename_i hc
          injection h with h; subst h
          simp only [Bool.or_eq_true, not_or, Bool.not_eq_true, Bool.not_eq_false'] at hc
          exact .inl ⟨b, hb, hc.1, hc.2, rfl, rfl, rfl, rfl⟩
      · rename_i hb
        split at h
        · rename_i ho
          split at h
          · rename_i e he
            injection h with h; subst h
            exact .inr ⟨rfl, e, rfl, ext_all hf hb (by simpa using ho) he⟩
          · cases h
        · cases h
end Go.Det

/- From a frozen answer to a call's own end; what a law's row wants of it. -/
set_option linter.unusedVariables false
set_option linter.unusedSimpArgs false
namespace Go.Det
open Go.ChangeShapes Go.WideShapes Go.ChangeAt Go.RowKit
variable {X : Fix} {prog : FuncId → Option DFunc}

/-- Everything that is there as a call begins, as memory that nobody writes. -/
def memOf (w : World) : Mem where
  cell b o := match w.cell? ⟨b, o, none⟩ with
    | some v => if v.oneCell' then some v else none
    | none => none
  obj r := match w.heap[r]? with
    | some (.map es c) => some (.map es c)
    | _ => none
theorem memOf_cell {w : World} {b o : Nat} {v : Value} (h : w.cell? ⟨b, o, none⟩ = some v) (h1 : v.oneCell' = true) : (memOf w).cell b o = some v := by
  simp [memOf, h, h1]
theorem memOf_rel {w : World} (hg : ∀ g cs, X.c.g g = some cs → VR (memOf w) (.ptr cs) (.pointer (some ⟨g, 0, none⟩))) : Rel X (memOf w) (fun _ => (0, 0)) [] w where
  gl := hg
  mc b o v h := by
    simp only [memOf] at h
    split at h
    · rename_i v' hv
      split at h
      · rename_i h1
        injection h with h; subst h
        exact ⟨h1, hv⟩
      · cases h
    · cases h
  mo r x h := by
    simp only [memOf] at h
    split at h
    · rename_i es c hm
      injection h with h; subst h; exact hm
    · cases h
  ob b x h := by simp at h
  inj b b' h := absurd h (dead_nil (φ := fun _ => (0, 0)))
  sep b h := absurd h (dead_nil (φ := fun _ => (0, 0)))
/-- All that was there is as it was. -/
structure Kept (w w' : World) : Prop where
  os : w'.os = w.os
  output : w'.output = w.output
  size : w.heap.size ≤ w'.heap.size
  heap : ∀ k, k < w.heap.size → w'.heap[k]? = w.heap[k]?
theorem Kept.but {w w' : World} (h : Kept w w') (may : MemPlace → Prop) : w.keptBut w' may := by
  refine ⟨h.os, h.output, fun i hi => ?_⟩
  rw [h.heap i hi]
  split
  · rename_i h1 h2
    rw [h1] at h2; injection h2 with h2; injection h2 with a b c
    subst a; subst b; subst c
    exact ⟨rfl, rfl, rfl, fun _ _ => rfl⟩
  · rename_i h1 h2
    rw [h1] at h2; injection h2 with h2; injection h2 with a b
    subst a; subst b
    exact .inr ⟨rfl, rfl⟩
  · rfl
theorem Kept.frozen {w w' : World} (h : Kept w w') {a : Addr} (ha : a.block < w.heap.size) : w'.frozen? a = w.frozen? a := by
  simp only [World.frozen?, h.heap a.block ha]
theorem calls_of (hP : ProgOk X prog) {n : Nat} {f : FuncId} {d : DFunc} {fargs : List FV} {r : FV} {w : World} {vals : Array Value} (hf : prog f = some d) (he : d.ext = none) (hp : pcallR prog (runD prog n) f fargs = some r)
    (hg : ∀ g cs, X.c.g g = some cs → VR (memOf w) (.ptr cs) (.pointer (some ⟨g, 0, none⟩))) (hl : vals.size = fargs.length) (hv : ∀ i v, fargs[i]? = some v → VR (memOf w) v (vals.getD i undef)) :
    Calls X.c.p f vals w fun e w' => ∃ y M, e = .returned y ∧ VR M r y ∧ Kept w w' := by
  obtain ⟨y, w', M', φ', q1, q2, q3, q4, q5⟩ := pcall_sound hP (code_ok hP n) hf he hp (memOf_rel hg) hl hv
  intro cs
  obtain ⟨fr, s1, s2, s3⟩ := q5 cs
  exact ⟨.returned y, w', fr, ⟨y, M', rfl, q1, q3.os, q3.output, q3.size, foot_nil q3⟩, s1, s2, s3⟩
section
variable {H : Type} {enc : TypeId × Value → H} {P : Program}
/-- The row's step behind a call that has left all as it was. -/
theorem post_kept {f : Func} {s : ChangeSpec} {apart fresh handsOn again : Bool} {W W' : World} {args : Array Value} {v : Value} {ds gs : List (DataW H)} {before pa pv : List MemPlace}
    (hW : DataW.Whole enc P f.params.toList s.vars apart W args.toList ds gs before) (hK : Kept W W')
    (hres : ∀ (b : Nat) (sp : Nat → Bool) (hd : Bool), DataW.TrodAll enc P W' b sp hd f.resultTypes.toList (v.resultList f.resultTypes.size) (s.fn H (ds ++ gs)).results [])
    (hargs : ∀ sp : Nat → Bool, (∀ p ∈ before, sp p.block = true) → DataW.TrodAll enc P W' 0 sp true f.params.toList args.toList (s.fn H (ds ++ gs)).args pa)
    (hvars : ∀ sp : Nat → Bool, (∀ p ∈ before, sp p.block = true) → DataW.TrodVars enc P W' sp s.vars (s.fn H (ds ++ gs)).vars pv)
    (hps : before = pa ++ pv)
    (hok : ∀ (j : Nat) (t : TypeId) (r : Value), f.resultTypes[j]? = some t → (v.resultList f.resultTypes.size)[j]? = some r → Value.okWide P W' .any 0 t r) :
    s.post enc P f apart fresh handsOn again W args v W' := by
  have hold : ∀ p ∈ before, (fun b => decide (b < W.heap.size)) p.block = true := fun p hp => by simpa using hW.lt p hp
  have hlt := hW.lt
  refine ⟨ds, gs, before, [], pa, pv, hW, hres _ _ _, hargs _ hold, hvars _ hold, World.keptBut_mono (fun p hp => ⟨hp, ?_⟩) (hK.but (· ∈ before)), fun _ => ?_⟩
  · rw [hps, List.mem_append] at hp
    exact Or.inr hp
  · obtain ⟨_, _, _, _, _, hz, hn⟩ := hW
    refine ⟨hok, _, _, ([] ++ pa) ++ pv, ⟨[] ++ pa, pv, trodAll_append (hargs _ (fun _ _ => rfl)) (hres _ _ _), hvars _ (fun _ _ => rfl), rfl, ?_, ?_⟩, ?_⟩
    · intro b off hp
      have hb : MemPlace.cell b off ∈ before := by rw [hps]; simpa using hp
      rw [hK.frozen (a := ⟨b, off, none⟩) (hlt _ hb)]
      exact hz b off hb
    · intro ha
      have := hn ha
      rw [hps] at this
      simpa using this
    · intro p hp _
      rw [hps]
      simpa using hp
end
end Go.Det

/- What formulas of code come to: rules. -/
set_option linter.unusedVariables false
set_option linter.unusedSimpArgs false
namespace Go.Det
variable {prog : FuncId → Option DFunc}

@[simp] theorem bop_some {v : SV} {k : SV → Prop} : bop (some v) k ↔ k v := ⟨fun ⟨_, h, hk⟩ => by injection h with h; subst h; exact hk, fun h => ⟨v, rfl, h⟩⟩
@[simp] theorem bhp_one {v : SV} {h : List SObj} {k : SV → List SObj → Prop} : bhp (some [(v, h)]) k ↔ k v h :=
  ⟨fun ⟨l, e, _, hk⟩ => by injection e with e; subst e; exact hk _ (List.mem_singleton.2 rfl), fun w => Al.one w⟩
@[simp] theorem bone_one {v : SV} {h : List SObj} {k : SV → List SObj → Prop} : bone (some [(v, h)]) k ↔ k v h :=
  ⟨fun ⟨a, b, e, hk⟩ => by simp only [Option.some.injEq, List.cons.injEq, Prod.mk.injEq, and_true] at e; obtain ⟨rfl, rfl⟩ := e; exact hk, fun w => ⟨v, h, rfl, w⟩⟩
@[simp] theorem wcond_bool {b : Bool} {A B : Prop} : wcond (.f (.bool b)) A B ↔ (b = true → A) ∧ (b = false → B) := Iff.rfl
@[simp] theorem gop_bool {c b : Bool} {o : Option SV} : gop (.f (.bool c)) b o = if c = b then o else some U := by
  unfold gop; cases c <;> cases b <;> rfl
@[simp] theorem gop_u {b : Bool} {o : Option SV} : gop U b o = some U := rfl
@[simp] theorem gout_bool {c b : Bool} {h : List SObj} {o : Out (SV × List SObj)} : gout (.f (.bool c)) b h o = if c = b then o else some [(U, h)] := by
  unfold gout; cases c <;> cases b <;> rfl
@[simp] theorem gout_u {b : Bool} {h : List SObj} {o : Out (SV × List SObj)} : gout U b h o = some [(U, h)] := rfl
@[simp] theorem outH_some' {h : List SObj} : outH (some h) = some [(U, h)] := rfl
@[simp] theorem outB_some' {x : SV × List SObj} : outB (some x) = some [x] := rfl
@[simp] theorem outV_some' {v : SV} {h : List SObj} : outV h (some v) = some [(v, h)] := rfl
@[simp] theorem pickV_bool {b : Bool} {x y : SV} : pickV (.f (.bool b)) x y = some (if b then x else y) := rfl

/-! ### numbers, bools, texts -/
section
variable {k : IntKind} {a b : Int} {s t : List UInt8}
@[simp] theorem bin_add : bin .add (.f (.int k a)) (.f (.int k b)) = some (.f (.int k (k.wrap (a + b)))) := by simp [bin, binF]
@[simp] theorem bin_sub : bin .sub (.f (.int k a)) (.f (.int k b)) = some (.f (.int k (k.wrap (a - b)))) := by simp [bin, binF]
@[simp] theorem bin_mul : bin .mul (.f (.int k a)) (.f (.int k b)) = some (.f (.int k (k.wrap (a * b)))) := by simp [bin, binF]
@[simp] theorem bin_lss : bin .lss (.f (.int k a)) (.f (.int k b)) = some (.f (.bool (decide (a < b)))) := by simp [bin, binF, cmpInt]
@[simp] theorem bin_leq : bin .leq (.f (.int k a)) (.f (.int k b)) = some (.f (.bool (decide (a ≤ b)))) := by simp [bin, binF, cmpInt]
@[simp] theorem bin_gtr : bin .gtr (.f (.int k a)) (.f (.int k b)) = some (.f (.bool (decide (b < a)))) := by simp [bin, binF, cmpInt]
@[simp] theorem bin_geq : bin .geq (.f (.int k a)) (.f (.int k b)) = some (.f (.bool (decide (b ≤ a)))) := by simp [bin, binF, cmpInt]
@[simp] theorem bin_eql : bin .eql (.f (.int k a)) (.f (.int k b)) = some (.f (.bool (decide (a = b)))) := by
  have : (a == b) = decide (a = b) := by by_cases h : a = b <;> simp [h]
  show (Option.map SV.f (if k ≠ k then none else (cmpInt .eql a b).map FV.bool)) = _
  rw [if_neg (by simp)]
  simp only [cmpInt, this]
  rfl
@[simp] theorem bin_neq : bin .neq (.f (.int k a)) (.f (.int k b)) = some (.f (.bool (decide (a ≠ b)))) := by
  have : (a != b) = decide (a ≠ b) := by by_cases h : a = b <;> simp [h]
  show (Option.map SV.f (if k ≠ k then none else (cmpInt .neq a b).map FV.bool)) = _
  rw [if_neg (by simp)]
  simp only [cmpInt, this]
  rfl
@[simp] theorem bin_seql : bin .eql (.f (.str s)) (.f (.str t)) = some (.f (.bool (decide (s = t)))) := by simp [bin, binF, Bool.beq_eq_decide_eq]
@[simp] theorem bin_sneq : bin .neq (.f (.str s)) (.f (.str t)) = some (.f (.bool (decide (s ≠ t)))) := by simp [bin, binF, Bool.beq_eq_decide_eq]
theorem bin_sadd (h : s.length + t.length ≤ 9223372036854775807) : bin .add (.f (.str s)) (.f (.str t)) = some (.f (.str (s ++ t))) := by simp [bin, binF, h]
@[simp] theorem un_not {c : Bool} : un .not (.f (.bool c)) = some (.f (.bool (!c))) := rfl
@[simp] theorem eqB_bool {c d neg : Bool} : eqB neg (.f (.bool c)) (.f (.bool d)) = some (.f (.bool ((c == d) != neg))) := rfl
@[simp] theorem cvInt_int {k' : IntKind} : cvIntV k (.f (.int k' a)) = some (.f (.int k (k.wrap a))) := rfl
theorem w64 (h0 : -9223372036854775808 ≤ a) (h1 : a ≤ 9223372036854775807) : IntKind.i64.wrap a = a := by
  unfold IntKind.wrap
  have : IntKind.i64.bits = 64 := rfl
  have hs : IntKind.i64.signed = true := rfl
  simp only [this, hs, IntKind.signed, IntKind.bits]
  simp
  omega
end

/-! ### slices -/
/-- A frozen slice: nil if it may be and has nothing. -/
def slF (z : Option Bool) (n : Nat) (cs : List FV) : FV :=
  match z with
  | some x => .sl x n cs
  | none => if n = 0 then .nilSl else .sl false n cs
@[simp] theorem len_nil {h : List SObj} : lenV h .sl (.f .nilSl) = some (.f (.int .i64 0)) := rfl
@[simp] theorem len_sl {h : List SObj} {x : Bool} {n : Nat} {cs : List FV} : lenV h .sl (.f (.sl x n cs)) = some (.f (.int .i64 n)) := rfl
@[simp] theorem len_row {h : List SObj} {b o n v : Nat} {x : Bool} : lenV h .sl (.row b o n v x) = some (.f (.int .i64 n)) := rfl
@[simp] theorem len_str {h : List SObj} {s : List UInt8} : lenV h .str (.f (.str s)) = some (.f (.int .i64 s.length)) := rfl
@[simp] theorem len_slF {h : List SObj} {z : Option Bool} {n : Nat} {cs : List FV} : lenV h .sl (.f (slF z n cs)) = some (.f (.int .i64 n)) := by
  unfold slF
  cases z with
  | some x => rfl
  | none =>
    by_cases hn : n = 0
    · subst hn; rfl
    · simp [hn]
theorem iaddr_slF {z : Option Bool} {n e : Nat} {cs : List FV} {i : Int} (h0 : 0 ≤ i) (h1 : i < n) : iaddr (.sl e) (.f (slF z n cs)) (.f (.int .i64 i)) = some (.f (.ptr (cs.drop (i.toNat * e)))) := by
  unfold slF
  cases z with
  | some x => simp [iaddr, h0, h1]
  | none =>
    have : n ≠ 0 := by omega
    simp [this, iaddr, h0, h1]
@[simp] theorem slice_cells_slF {h : List SObj} {z : Option Bool} {n e : Nat} {cs : List FV} (hl : cs.length = n * e) : sliceCells h e (.f (slF z n cs)) = some (n, cs.map .f) := by
  unfold slF
  cases z with
  | some x => simp [sliceCells, hl]
  | none =>
    by_cases hn : n = 0
    · subst hn
      have : cs = [] := List.eq_nil_of_length_eq_zero (by omega)
      subst this; rfl
    · simp [hn, sliceCells, hl]

theorem iaddr_arr {n e : Nat} {cs : List FV} {i : Int} : iaddr (.arr n e) (.f (.ptr cs)) (.f (.int .i64 i)) = if 0 ≤ i ∧ i < n then some (.f (.ptr (cs.drop (i.toNat * e)))) else none := rfl

/-! ### memory -/
@[simp] theorem faddr_ptr {off b o v : Nat} : faddr off (.ptr b o v) = some (.ptr b (o + off) v) := rfl
@[simp] theorem faddr_f {off : Nat} {cs : List FV} : faddr off (.f (.ptr cs)) = some (.f (.ptr (cs.drop off))) := rfl
theorem cellsOf_f {v : FV} (h : ∀ cs, v ≠ .agg cs) (h2 : ∀ cs, v ≠ .tup cs) : cellsOf (.f v) = some [.f v] := by
  cases v <;> first | rfl | exact absurd rfl (h _) | exact absurd rfl (h2 _)
@[simp] theorem box_agg {h : List SObj} {ty : TypeId} {cs : List FV} : boxO h ty (.f (.agg cs)) = some [(.ptr h.length 0 cs.length, h ++ [.cells ty 0 (cs.map .f)])] := by simp [boxO, cellsOf]
@[simp] theorem box_int {h : List SObj} {ty : TypeId} {k : IntKind} {n : Int} : boxO h ty (.f (.int k n)) = some [(.ptr h.length 0 1, h ++ [.cells ty 0 [.f (.int k n)]])] := rfl
@[simp] theorem box_str {h : List SObj} {ty : TypeId} {s : List UInt8} : boxO h ty (.f (.str s)) = some [(.ptr h.length 0 1, h ++ [.cells ty 0 [.f (.str s)]])] := rfl
@[simp] theorem box_bool {h : List SObj} {ty : TypeId} {s : Bool} : boxO h ty (.f (.bool s)) = some [(.ptr h.length 0 1, h ++ [.cells ty 0 [.f (.bool s)]])] := rfl
@[simp] theorem alloc_one {h : List SObj} {ty : TypeId} {z : List FV} : allocO h ty z = some [(.ptr h.length 0 z.length, h ++ [.cells ty 0 (z.map .f)])] := rfl
@[simp] theorem mkAgg_f {l : List FV} : mkAgg (l.map .f) = .f (.agg l) := by simp [mkAgg, allF_map]
@[simp] theorem mkTup_f {l : List FV} : mkTup (l.map .f) = .f (.tup l) := by simp [mkTup, allF_map]
@[simp] theorem mkTup2 {a b : FV} : mkTup [.f a, .f b] = .f (.tup [a, b]) := rfl
@[simp] theorem mkTup3 {a b c : FV} : mkTup [.f a, .f b, .f c] = .f (.tup [a, b, c]) := rfl
@[simp] theorem ext2_0 {a b : FV} : extractV (.f (.tup [a, b])) 0 = some (.f a) := rfl
@[simp] theorem ext2_1 {a b : FV} : extractV (.f (.tup [a, b])) 1 = some (.f b) := rfl
@[simp] theorem ext3_0 {a b c : FV} : extractV (.f (.tup [a, b, c])) 0 = some (.f a) := rfl
@[simp] theorem ext3_1 {a b c : FV} : extractV (.f (.tup [a, b, c])) 1 = some (.f b) := rfl
@[simp] theorem ext3_2 {a b c : FV} : extractV (.f (.tup [a, b, c])) 2 = some (.f c) := rfl
@[simp] theorem frz_f' {h : List SObj} {n : Nat} {v : FV} : frz h n (.f v) = some v := frz_f n v
theorem frzL_map {h : List SObj} {n : Nat} : ∀ l : List FV, frzL (frz h n) (l.map .f) = some l
  | [] => rfl
  | v :: l => by simp [frzL, frzL_map l]
/-- A load of one cell out of a row of the heap. -/
theorem ld_ptr {h : List SObj} {b o ver ty e : Nat} {cs : List SV} {v : SV} (hb : h[b]? = some (.cells ty e cs)) (hl : cs.length = ver) (hv : cs[o]? = some v) : ldV h false 1 (.ptr b o ver) = some v := by
  have ho : o < cs.length := (List.getElem?_eq_some_iff.1 hv).1
  have hle : o + 1 ≤ ver := by omega
  have : (cs.drop o).take 1 = [v] := by
    rw [List.drop_eq_getElem_cons ho]
    simp only [List.take_succ_cons, List.take_zero]
    rw [(List.getElem?_eq_some_iff.1 hv).2]
  simp [ldV, ldCells, hcells, hb, hl, hle, this, ofCells]
theorem ld_ptr_agg {h : List SObj} {b o ver ty e n : Nat} {cs : List SV} {l : List FV} (hb : h[b]? = some (.cells ty e cs)) (hl : cs.length = ver) (ho : o + n ≤ ver) (hv : (cs.drop o).take n = l.map .f) : ldV h true n (.ptr b o ver) = some (.f (.agg l)) := by
  simp [ldV, ldCells, hcells, hb, hl, ho, hv, ofCells]
@[simp] theorem ld_f {h : List SObj} {v : FV} {cs : List FV} : ldV h false 1 (.f (.ptr (v :: cs))) = some (.f v) := rfl
theorem ld_f_agg {h : List SObj} {n : Nat} {cs : List FV} (hn : n ≤ cs.length) : ldV h true n (.f (.ptr cs)) = some (.f (.agg (cs.take n))) := by simp [ldV, hn]
theorem trim_same {L : Nat} {vs : List SV} {h : List SObj} (hl : h.length = L) : trim L vs h = h := by unfold trim; rw [if_pos hl]
theorem st_ptr {h : List SObj} {b o ver ty e size : Nat} {cs new : List SV} {v : SV} (hb : h[b]? = some (.cells ty e cs)) (hl : cs.length = ver) (hc : cellsOf v = some new) (hs : new.length = size) (ho : o + size ≤ ver) :
    stV h size (.ptr b o ver) v = some (h.set b (.cells ty e (cs.take o ++ new ++ cs.drop (o + size)))) := by
  simp only [stV, hb, hc]
  rw [if_pos ⟨hl, hs, ho⟩]
theorem src_sl {h : List SObj} {x : Bool} {m esz : Nat} {new : List FV} (hn : new.length = m * esz) : srcCells h esz (.f (.sl x m new)) = some (m, new.map .f) := by
  simp [srcCells, sliceCells, hn]
theorem app_nil {h : List SObj} {ty esz bytes m : Nat} {x : Bool} {new : List FV} (hm : 0 < m) (hn : new.length = m * esz) (he : 0 < esz) (hb : m * bytes ≤ 140737488355328) :
    appendOp h ty esz bytes (.f .nilSl) (.f (.sl x m new)) = some (.row h.length 0 m new.length false, h ++ [.cells ty esz (new.map .f)]) := by
  have h1 : m ≠ 0 := by omega
  have h2 : new.length ≠ 0 := by rw [hn]; exact Nat.mul_ne_zero h1 (by omega)
  have h3 : new ≠ [] := by intro e; subst e; exact h2 rfl
  simp [appendOp, src_sl hn, h1, h3, hb]
theorem app_row {h : List SObj} {b ty esz bytes n m : Nat} {x : Bool} {cs : List SV} {new : List FV} (hb : h[b]? = some (.cells ty esz cs)) (hl : cs.length = n * esz) (hm : 0 < m) (hn : new.length = m * esz) (he : 0 < esz) (hbb : (n + m) * bytes ≤ 140737488355328) :
    appendOp h ty esz bytes (.row b 0 n (n * esz) false) (.f (.sl x m new)) = some (.row b 0 (n + m) (n * esz + new.length) false, h.set b (.cells ty esz (cs ++ new.map .f))) := by
  have h1 : m ≠ 0 := by omega
  have h2 : new.length ≠ 0 := by rw [hn]; exact Nat.mul_ne_zero h1 (by omega)
  have h3 : new ≠ [] := by intro e; subst e; exact h2 rfl
  simp [appendOp, src_sl hn, h1, h3, hb, hl, hbb]
theorem frz_agg {h : List SObj} {cs : List SV} : frz h 100 (.agg cs) = (frzL (frz h 99) cs).map .agg := rfl
theorem frz_row {h : List SObj} {b n e ty ver k : Nat} {x : Bool} {fs : List FV} (hb : h[b]? = some (.cells ty e (fs.map .f))) (hl : fs.length = ver) (hn : ver = n * e) : frz h (k + 1) (.row b 0 n ver x) = some (.sl x n fs) := by
  have h1 : (fs.map SV.f).length = ver := by simp [hl]
  have h2 : ((fs.map SV.f).drop 0).take (n * e) = fs.map SV.f := by
    rw [List.drop_zero, ← hn, ← h1, List.take_length]
  simp only [frz, hb]
  rw [if_pos ⟨h1, by omega, by simp⟩, h2, frzL_map]
  rfl
@[simp] theorem trim0 {vs : List SV} : trim 0 vs [] = [] := trim_same rfl
@[simp] theorem trim1 {vs : List SV} {a : SObj} : trim 1 vs [a] = [a] := trim_same rfl
@[simp] theorem trim2 {vs : List SV} {a b : SObj} : trim 2 vs [a, b] = [a, b] := trim_same rfl
@[simp] theorem trim3 {vs : List SV} {a b c : SObj} : trim 3 vs [a, b, c] = [a, b, c] := trim_same rfl
theorem lcall_f {f : FuncId} {d : DFunc} {fargs : List FV} {h : List SObj} {r : FV} (hf : prog f = some d) (he : d.ext = none) (hl : d.live = false) (hp : pcall prog f fargs = some r) : lcall prog f (fargs.map .f) h = some [(.f r, h)] :=
  lcall_pure hf he hl (by unfold frzAll; exact frzL_map fargs) hp (by rw [allF_map]; simp)
@[simp] theorem vcall_f {g : FuncId} {caps : List FV} {args : List SV} {h : List SObj} : vcall prog (.f (.func (.func g) caps)) args h = lcall prog g (args ++ caps.map .f) h := rfl
@[simp] theorem vcall_s {g : FuncId} {caps args : List SV} {h : List SObj} : vcall prog (.func (.func g) caps) args h = lcall prog g (args ++ caps) h := rfl
end Go.Det
