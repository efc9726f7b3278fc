/- A deterministic reading of the program's code, and its soundness: part 2 of 3. -/
import Derived.Test.YthhgenogeibfpaaGreatDoorDA
import Derived.Laws.StructEq
import Derived.Lib.Builder
import Derived.Lib.UnsafeStr
import Derived.Orders

/- Maps. -/
set_option linter.unusedVariables false
set_option linter.unusedSimpArgs false
namespace Go.Det
variable {X : Fix} {M : Mem} {φ : Place} {H : List SObj} {w : World}

theorem beq_mk (l m : List UInt8) : ((⟨l.toArray⟩ : ByteArray) == ⟨m.toArray⟩) = (l == m) := by rw [beq_toListBytes, ByteArray.toList_eq, ByteArray.toList_eq]
def KK (kk : KKind) (d : TypeDesc) : Prop := match kk with | .int => ∃ k, d = .int k | .str => d = .string | .bool => d = .bool
theorem kkind_spec {P : Program} {t : TypeId} {kk : KKind} (h : kkind P t = some kk) : ∃ d, P.underlying t = some d ∧ KK kk d := by
  unfold kkind at h
  split at h
  · rename_i k hu; injection h with h; subst h; exact ⟨_, hu, k, rfl⟩
  · rename_i hu; injection h with h; subst h; exact ⟨_, hu, rfl⟩
  · rename_i hu; injection h with h; subst h; exact ⟨_, hu, rfl⟩
  · cases h
theorem keyEq_sound {kk : KKind} {a b : FV} {x y : Value} {r : Bool} {d : TypeDesc} (h : keyEq kk a b = some r) (hx : VR M a x) (hy : VR M b y) (hd : KK kk d) : Instr.sameNow d x y = some r := by
  unfold keyEq at h
  split at h
  · obtain ⟨q, rfl⟩ := hd
    rw [hx.int', hy.int']
    split at h
    · rename_i hk; subst hk; injection h with h; subst h; simp [Instr.sameNow]
    · cases h
  · rw [show d = .string from hd, hx.str', hy.str']
    injection h with h; subst h
    simp only [Instr.sameNow, beq_mk]
  · rw [show d = .bool from hd, hx.bool', hy.bool']
    injection h with h; subst h; rfl
  · cases h
/-- Where the model finds a key. -/
theorem findIx_sound {kk : KKind} {k : FV} {x : Value} {d : TypeDesc} (hx : VR M k x) (hd : KK kk d) : ∀ (ks : List FV) (es : List MapEntry) (i : Nat) (r : Option Nat), findIx kk k ks i = some r → ks.length = es.length → (∀ j f, ks[j]? = some f → VR M f (es.getD j default).key) →
    (match r with
     | none => Instr.findNow d x es i = some none
     | some n => i ≤ n ∧ n < i + es.length ∧ Instr.findNow d x es i = some (some (n, (es.getD (n - i) default).val)) ∧ ∃ f, ks[n - i]? = some f ∧ keyEq kk k f = some true)
  | [], [], i, r, h, _, _ => by simp [findIx] at h; subst h; rfl
  | [], _ :: _, _, _, _, h, _ => by simp at h
  | _ :: _, [], _, _, _, h, _ => by simp at h
  | k' :: ks, e :: es, i, r, h, hl, hk => by
    simp only [findIx] at h
    have h0 := hk 0 k' rfl
    simp only [List.getD_cons_zero] at h0
    split at h
    · rename_i hq
      injection h with h; subst h
      have := keyEq_sound hq hx h0 hd
      exact ⟨Nat.le_refl _, by simp, by simp [Instr.findNow, this], k', by simp, hq⟩
    · rename_i hq
      have hs := keyEq_sound hq hx h0 hd
      have ih := findIx_sound hx hd ks es (i + 1) r h (by simpa using hl) fun j f hf => by have := hk (j + 1) f (by simpa using hf); simpa using this
      cases r with
      | none => simpa [Instr.findNow, hs] using ih
      | some n =>
        obtain ⟨h1, h2, h3, f, h4, h5⟩ := ih
        have e1 : n - i = (n - (i + 1)) + 1 := by omega
        refine ⟨by omega, by simp; omega, ?_, f, ?_, h5⟩
        · rw [e1, List.getD_cons_succ]; simpa [Instr.findNow, hs] using h3
        · rw [e1, List.getElem?_cons_succ]; exact h4
    · cases h
theorem checkKey_ok {kk : KKind} {d : TypeDesc} {t : TypeId} {x : Value} (hu : X.c.p.underlying t = some d) (hd : KK kk d) (b : Bool) (n : Nat) (w : World) : (Instr.checkKey b (n + 1) t x).run X.c.p w = .ok () w := by
  simp only [Instr.checkKey, Sem.run_bind, run_underlying' hu, Result.andThen_ok]
  cases kk with
  | int => obtain ⟨k, rfl⟩ := hd; rfl
  | str => rw [show d = .string from hd]; rfl
  | bool => rw [show d = .bool from hd]; rfl
theorem findKey_now {P : Program} {t : TypeId} {d : TypeDesc} {x : Value} {es : List MapEntry} {r : Option (Nat × Value)} (hu : P.underlying t = some d) (h : Instr.findNow d x es 0 = some r) (w : World) : (Instr.findKey t x es).run P w = .ok r w := by
  simp [Instr.findKey, run_underlying' hu, h]
/-- A map's entries, by the model's. -/
def ER (M : Mem) (φ : Place) (H : List SObj) (ks : List FV) (vs : List SV) (es : Array MapEntry) : Prop :=
  ks.length = es.size ∧ vs.length = es.size ∧ (∀ i k, ks[i]? = some k → VR M k (es.getD i default).key) ∧ (∀ i v, vs[i]? = some v → SVR M φ H v (es.getD i default).val)
theorem getD_toList {α : Type} (a : Array α) (i : Nat) (d : α) : a.toList.getD i d = a.getD i d := by
  rw [List.getD_eq_getElem?_getD, Array.getD_eq_getD_getElem?, Array.getElem?_toList]
theorem lookup_find {kk : KKind} {k : FV} {x : Value} {d : TypeDesc} {ks : List FV} {vs : List SV} {es : Array MapEntry} {r : Option Nat} (hx : VR M k x) (hd : KK kk d) (he : ER M φ H ks vs es) (h : findIx kk k ks 0 = some r) :
    (match r with
     | none => Instr.findNow d x es.toList 0 = some none
     | some n => n < es.size ∧ Instr.findNow d x es.toList 0 = some (some (n, (es.getD n default).val)) ∧ ∃ f, ks[n]? = some f ∧ keyEq kk k f = some true) := by
  obtain ⟨h1, h2, h3, h4⟩ := he
  have := findIx_sound hx hd ks es.toList 0 r h (by simpa using h1) (fun j f hf => by rw [getD_toList]; exact h3 j f hf)
  cases r with
  | none => exact this
  | some n =>
    obtain ⟨_, g2, g3, f, g4, g5⟩ := this
    refine ⟨by simpa using g2, ?_, f, by simpa using g4, g5⟩
    rw [g3, Nat.sub_zero, getD_toList]
/-- What a map is, to whoever looks into it. -/
theorem map_entries (hR : Rel X M φ H w) {b c : Nat} {es : List (FV × SV × Nat)} (hb : H[b]? = some (.map es c)) : ∃ arr, w.heap[(φ b).1]? = some (.map arr c) ∧ ER M φ H (es.map (·.1)) (es.map (·.2.1)) arr ∧ ∀ i e, es[i]? = some e → (arr.getD i default).born = e.2.2 := by
  obtain ⟨arr, h1, h2, h3⟩ := hR.ob _ _ hb
  refine ⟨arr, h1, ⟨by simp [h2], by simp [h2], fun i k hk => ?_, fun i v hv => ?_⟩, fun i e he => (h3 i e he).2.2⟩
  · simp only [List.getElem?_map, Option.map_eq_some_iff] at hk
    obtain ⟨e, he, rfl⟩ := hk; exact (h3 i e he).1
  · simp only [List.getElem?_map, Option.map_eq_some_iff] at hv
    obtain ⟨e, he, rfl⟩ := hv; exact (h3 i e he).2.1
theorem run_getMap {P : Program} {r : Nat} {es : Array MapEntry} {c : Nat} (h : w.heap[r]? = some (.map es c)) : (getObj r).run P w = .ok (.map es c) w := by simp [getObj, Sem.run, h]
theorem lookup_sound (hR : Rel X M φ H w) {t kt e : TypeId} {kk : KKind} {z : FV} {ok : Bool} {m k v : SV} {x y : Value} (hu : X.c.p.underlying t = some (.map kt e)) (hk : kkind X.c.p kt = some kk) (hz : zeroOf X.c.p e = some z)
    (h : lookup H kk z ok m k = some v) (hm : SVR M φ H m x) (hkv : SVR M φ H k y) : ∃ r, (Instr.lookup t x y ok).run X.c.p w = .ok r w ∧ SVR M φ H v r := by
  obtain ⟨d, hd, hkk⟩ := kkind_spec hk
  obtain ⟨zx, hzx, hzv⟩ := zeroOf_sound (M := M) hz
  unfold lookup at h
  split at h
  · rename_i kf
    have hy := hkv.toF
    -- the entries that the model looks through
    have key : ∀ (es : Array MapEntry) (ks : List FV) (vs : List SV) (rr : Option Nat) (sv : SV), ER M φ H ks vs es → findIx kk kf ks 0 = some rr →
        (match rr with | none => sv = (if ok then .f (.tup [z, .bool false]) else .f z) | some n => ∃ v0, vs[n]? = some v0 ∧ sv = (if ok then mkTup [v0, .f (.bool true)] else v0)) →
        ((x = .map none ∧ es = #[]) ∨ ∃ r c, x = .map (some r) ∧ w.heap[r]? = some (.map es c)) →
        ∃ r, (Instr.lookup t x y ok).run X.c.p w = .ok r w ∧ SVR M φ H sv r := by
      intro es ks vs rr sv he hf hsv hes
      have hfind := lookup_find hy hkk he hf
      have hck := checkKey_ok (X := X) (x := y) hd hkk es.isEmpty 9999 w
      cases rr with
      | none =>
        simp only at hfind hsv
        have hfk := findKey_now hd hfind w
        subst hsv
        cases ok with
        | true =>
          refine ⟨.tuple #[zx, .bool false], ?_, .f _ _ (.tup [z, .bool false] #[zx, .bool false] rfl fun i c hc => ?_)⟩
          · rcases hes with ⟨rfl, rfl⟩ | ⟨r, c, rfl, hr⟩
            · simp only [Instr.lookup, Sem.run_bind, run_underlying' hu, Result.andThen_ok, hck, hfk, hzx, Sem.run_pure, if_true]
            · simp only [Instr.lookup, Sem.run_bind, run_underlying' hu, Result.andThen_ok, run_getMap hr, hck, hfk, hzx, Sem.run_pure, if_true]
          · match i with
            | 0 => simp at hc; subst hc; exact hzv
            | 1 => simp at hc; subst hc; exact .bool _
            | i + 2 => simp at hc
        | false =>
          refine ⟨zx, ?_, .f _ _ hzv⟩
          rcases hes with ⟨rfl, rfl⟩ | ⟨r, c, rfl, hr⟩
          · simp only [Instr.lookup, Sem.run_bind, run_underlying' hu, Result.andThen_ok, hck, hfk, hzx, Sem.run_pure, Bool.false_eq_true, if_false]
          · simp only [Instr.lookup, Sem.run_bind, run_underlying' hu, Result.andThen_ok, run_getMap hr, hck, hfk, hzx, Sem.run_pure, Bool.false_eq_true, if_false]
      | some n =>
        obtain ⟨g1, g2, _⟩ := hfind
        obtain ⟨v0, g3, g4⟩ := hsv
        subst g4
        have hfk := findKey_now hd g2 w
        have hv0 := he.2.2.2 n v0 g3
        cases ok with
        | true =>
          refine ⟨.tuple #[(es.getD n default).val, .bool true], ?_, mkTup_sound rfl fun i c hc => ?_⟩
          · rcases hes with ⟨rfl, rfl⟩ | ⟨r, c, rfl, hr⟩
            · simp only [Instr.lookup, Sem.run_bind, run_underlying' hu, Result.andThen_ok, hck, hfk, Sem.run_pure, if_true]
            · simp only [Instr.lookup, Sem.run_bind, run_underlying' hu, Result.andThen_ok, run_getMap hr, hck, hfk, Sem.run_pure, if_true]
          · match i with
            | 0 => simp at hc; subst hc; exact hv0
            | 1 => simp at hc; subst hc; exact .mkbool _
            | i + 2 => simp at hc
        | false =>
          refine ⟨(es.getD n default).val, ?_, hv0⟩
          rcases hes with ⟨rfl, rfl⟩ | ⟨r, c, rfl, hr⟩
          · simp only [Instr.lookup, Sem.run_bind, run_underlying' hu, Result.andThen_ok, hck, hfk, Sem.run_pure, Bool.false_eq_true, if_false]
          · simp only [Instr.lookup, Sem.run_bind, run_underlying' hu, Result.andThen_ok, run_getMap hr, hck, hfk, Sem.run_pure, Bool.false_eq_true, if_false]
    simp only at h
    split at h
    · cases h
    · rename_i v0 hr
      injection h with h; subst h
      split at hr
      · cases hr
      · rename_i ks vs
        split at hr
        · rename_i n hf
          split at hr
          · rename_i vf hvf
            injection hr with hr; injection hr with hr; subst hr
            cases hm.toF with
            | map _ _ r es c hmo h1 h2 h3 h4 =>
              exact key es ks (vs.map .f) (some n) _ ⟨h1, by simpa using h2, h3, fun i v hv => by
                simp only [List.getElem?_map, Option.map_eq_some_iff] at hv
                obtain ⟨f, hf, rfl⟩ := hv; exact .f _ _ (h4 i f hf)⟩ hf ⟨.f vf, by simp [hvf], rfl⟩ (.inr ⟨r, c, rfl, hR.mo _ _ hmo⟩)
          · cases hr
        · cases hr
        · cases hr
      · rename_i b
        split at hr
        · rename_i es c hb
          split at hr
          · rename_i n hf
            split at hr
            · rename_i e' he'
              injection hr with hr; injection hr with hr; subst hr
              obtain ⟨arr, g1, g2, g3⟩ := map_entries hR hb
              cases hm with
              | map _ r _ hx =>
                have := hx es c hb; subst this
                exact key arr _ _ (some n) _ g2 hf ⟨e'.2.1, by simp [he'], rfl⟩ (.inr ⟨_, _, rfl, g1⟩)
            · cases hr
          · cases hr
          · cases hr
        · cases hr
      · cases hr
    · rename_i hr
      injection h with h; subst h
      split at hr
      · cases hm.toF
        exact key #[] [] [] none _ ⟨rfl, rfl, fun i k hk => by simp at hk, fun i k hk => by simp at hk⟩ rfl rfl (.inl ⟨rfl, rfl⟩)
      · rename_i ks vs
        split at hr
        · split at hr
          · cases hr
          · cases hr
        · rename_i hf
          cases hm.toF with
          | map _ _ r es c hmo h1 h2 h3 h4 =>
            exact key es ks (vs.map .f) none _ ⟨h1, by simpa using h2, h3, fun i v hv => by
              simp only [List.getElem?_map, Option.map_eq_some_iff] at hv
              obtain ⟨f, hf, rfl⟩ := hv; exact .f _ _ (h4 i f hf)⟩ hf rfl (.inr ⟨r, c, rfl, hR.mo _ _ hmo⟩)
        · cases hr
      · rename_i b
        split at hr
        · rename_i es c hb
          split at hr
          · split at hr
            · cases hr
            · cases hr
          · rename_i hf
            obtain ⟨arr, g1, g2, g3⟩ := map_entries hR hb
            cases hm with
            | map _ r _ hx =>
              have := hx es c hb; subst this
              exact key arr _ _ none _ g2 hf rfl (.inr ⟨_, _, rfl, g1⟩)
          · cases hr
        · cases hr
      · cases hr
  · cases h
theorem keyEq_bits {kk : KKind} {a b : FV} {x y : Value} (n : Nat) (h : keyEq kk a b = some true) (hx : VR M a x) (hy : VR M b y) : Instr.sameBits n y x = true := by
  unfold keyEq at h
  split at h
  · rw [hx.int', hy.int']
    split at h
    · rename_i hk; subst hk; injection h with h; have := eq_of_beq h; subst this; simp [Instr.sameBits]
    · cases h
  · rw [hx.str', hy.str']
    injection h with h; have := eq_of_beq h; subst this; simp only [Instr.sameBits, beq_mk, beq_self_eq_true]
  · rw [hx.bool', hy.bool']
    injection h with h; have := eq_of_beq h; subst this; simp [Instr.sameBits]
  · cases h
theorem modify_getD {α : Type} (a : Array α) (n i : Nat) (f : α → α) (d : α) (hn : n < a.size) : (a.modify n f).getD i d = if i = n then f (a.getD n d) else a.getD i d := by
  rw [Array.getD_eq_getD_getElem?, Array.getD_eq_getD_getElem?, Array.getD_eq_getD_getElem?, Array.getElem?_modify]
  by_cases h : i = n
  · subst h; rw [if_pos rfl, if_pos rfl, Array.getElem?_eq_getElem hn]; rfl
  · rw [if_neg (Ne.symm h), if_neg h]
theorem push_getD {α : Type} (a : Array α) (i : Nat) (x d : α) : (a.push x).getD i d = if i = a.size then x else a.getD i d := by
  rw [Array.getD_eq_getD_getElem?, Array.getElem?_push]
  by_cases h : i = a.size
  · rw [if_pos h, if_pos h]; rfl
  · rw [if_neg h, if_neg h, Array.getD_eq_getD_getElem?]
theorem run_setObj {P : Program} {r : Nat} (o : Obj) {o0 : Obj} (h : w.heap[r]? = some o0) (hne : ∀ c e f, o0 ≠ .cells c e f) : (setObj r o).run P w = .ok () { w with heap := w.heap.setIfInBounds r o } := by
  cases o0 <;> first | exact absurd rfl (hne _ _ _) | simp [setObj, Sem.run, h]
/-- A map put in the place of another. -/
theorem map_turn (hR : Rel X M φ H w) {b c c' : Nat} {es es' : List (FV × SV × Nat)} {arr : Array MapEntry} (hb : H[b]? = some (.map es c)) (hs : arr.size = es'.length)
    (he : ∀ i e, es'[i]? = some e → VR M e.1 (arr.getD i default).key ∧ SVR M φ H e.2.1 (arr.getD i default).val ∧ (arr.getD i default).born = e.2.2) (P : Program) :
    ∃ w', (setObj (φ b).1 (.map arr c')).run P w = .ok () w' ∧ Rel X M φ (H.set b (.map es' c')) w' ∧ Trans H.length M φ H w M φ (H.set b (.map es' c')) w' ∧ ∀ v y, SVR M φ H v y → SVR M φ (H.set b (.map es' c')) v y := by
  have hlt := hR.lt ⟨_, hb, (fun h => nomatch h)⟩
  obtain ⟨arr0, g0, _⟩ := hR.ob _ _ hb
  have c := set_change (X := X) (φ := φ) (M := M) (w := w) (x' := .map es' c') (w' := { w with heap := w.heap.setIfInBounds (φ b).1 (.map arr c') }) hb (fun h => nomatch h) rfl rfl rfl (by simp) (fun k hk => by
    show (w.heap.setIfInBounds (φ b).1 (.map arr c'))[k]? = _
    rw [Array.getElem?_setIfInBounds_ne (Ne.symm hk)]) (set_map_same hb)
  refine ⟨_, run_setObj _ g0 (fun _ _ _ h => nomatch h), c.rel hR fun x hx => ?_, c.trans, fun v y hv => c.svr hv⟩
  rw [get_set hb] at hx; injection hx with hx; subst hx
  exact ⟨arr, by simp [hlt], hs, fun i e hi => ⟨(he i e hi).1, c.svr (he i e hi).2.1, (he i e hi).2.2⟩⟩
theorem mapset_sound (hR : Rel X M φ H w) {t kt e : TypeId} {kk : KKind} {m k v : SV} {x y z : Value} {H' : List SObj} (hu : X.c.p.underlying t = some (.map kt e)) (hk : kkind X.c.p kt = some kk)
    (h : mapset H kk m k v = some H') (hm : SVR M φ H m x) (hkv : SVR M φ H k y) (hv : SVR M φ H v z) : OpOut X M φ H w (U, H') (do Instr.mapUpdate t x y z; pure .skip) := by
  obtain ⟨d, hd, hkk⟩ := kkind_spec hk
  unfold mapset at h
  split at h
  · rename_i b kf
    have hy := hkv.toF
    split at h
    · rename_i es c hb
      obtain ⟨arr, g1, g2, g3⟩ := map_entries hR hb
      have hck := checkKey_ok (X := X) (x := y) hd hkk false 9999 w
      obtain ⟨arr', q1, q2, q3⟩ := hR.ob _ _ hb
      have e1 : arr' = arr := by rw [q1] at g1; injection g1 with g1; injection g1
      subst e1
      cases hm with
      | map _ r _ hx =>
        have := hx es c hb; subst this
        split at h
        · rename_i n hf
          split at h
          · rename_i e0 he0
            injection h with h; subst h
            obtain ⟨f1, f2, f, f3, f4⟩ := lookup_find hy hkk g2 hf
            have hbits := keyEq_bits 10000 f4 hy (g2.2.2.1 n f f3)
            have hold : ((arr'[n]?).map (·.key)).getD y = (arr'.getD n default).key := by
              rw [Array.getD_eq_getD_getElem?, Array.getElem?_eq_getElem f1]; rfl
            obtain ⟨w', h1, h2, h3, h4⟩ := map_turn (es' := es.set n (kf, v, e0.2.2)) (arr := arr'.modify n fun e => { e with key := y, val := z }) (c' := c) hR hb (by simp [q2]) (fun i e hi => by
              rw [modify_getD _ _ _ _ _ f1]
              by_cases hin : i = n
              · subst hin
                rw [List.getElem?_set_self (by omega)] at hi; injection hi with hi; subst hi
                rw [if_pos rfl]
                exact ⟨hy, hv, (q3 i e0 he0).2.2⟩
              · rw [List.getElem?_set_ne (Ne.symm hin)] at hi
                rw [if_neg hin]; exact q3 i e hi) X.c.p
            refine ⟨undef, w', M, φ, .skip ?_ rfl, .f _ _ (.tup [] #[] rfl fun i c hc => by simp at hc), h2, h3⟩
            simp only [Instr.mapUpdate, Sem.run_bind, run_underlying' hu, Result.andThen_ok, run_getMap g1, hck, findKey_now hd f2, hold, Instr.keyThatStays, hbits, if_true, Sem.run_pure, h1]
          · cases h
        · rename_i hf
          injection h with h; subst h
          have f2 := lookup_find hy hkk g2 hf
          obtain ⟨w', h1, h2, h3, h4⟩ := map_turn (es' := es ++ [(kf, v, c)]) (arr := arr'.push { key := y, val := z, born := c }) (c' := c + 1) hR hb (by simp [q2]) (fun i e hi => by
            rw [push_getD]
            by_cases hin : i = arr'.size
            · subst hin
              rw [q2, List.getElem?_append_right (Nat.le_refl _)] at hi
              simp at hi; subst hi
              rw [if_pos rfl]; exact ⟨hy, hv, rfl⟩
            · rw [if_neg hin]
              by_cases hl : i < es.length
              · rw [List.getElem?_append_left hl] at hi; exact q3 i e hi
              · rw [List.getElem?_eq_none (by simp; omega)] at hi; cases hi) X.c.p
          refine ⟨undef, w', M, φ, .skip ?_ rfl, .f _ _ (.tup [] #[] rfl fun i c hc => by simp at hc), h2, h3⟩
          simp only [Instr.mapUpdate, Sem.run_bind, run_underlying' hu, Result.andThen_ok, run_getMap g1, hck, findKey_now hd f2, h1, Sem.run_pure]
        · cases h
    · cases h
  · cases h
end Go.Det

/- Maps made, and ranged over. -/
set_option linter.unusedVariables false
set_option linter.unusedSimpArgs false
namespace Go.Det
variable {X : Fix} {M : Mem} {φ : Place} {H : List SObj} {w : World}

inductive F2 {α β : Type} (R : α → β → Prop) : List α → List β → Prop
  | nil : F2 R [] []
  | cons {a b l m} (h : R a b) (t : F2 R l m) : F2 R (a :: l) (b :: m)
namespace F2
variable {α β : Type} {R : α → β → Prop}
theorem of_ix : ∀ {l : List α} {m : List β}, l.length = m.length → (∀ (i : Nat) (a : α) (b : β), l[i]? = some a → m[i]? = some b → R a b) → F2 R l m
  | [], [], _, _ => .nil
  | [], _ :: _, h, _ => by simp at h
  | _ :: _, [], h, _ => by simp at h
  | a :: l, b :: m, h, k => .cons (k 0 a b rfl rfl) (of_ix (by simpa using h) fun i x y hx hy => k (i + 1) x y (by simpa using hx) (by simpa using hy))
theorem filter {p : α → Bool} {q : β → Bool} (hpq : ∀ a b, R a b → p a = q b) {l : List α} {m : List β} (h : F2 R l m) : F2 R (l.filter p) (m.filter q) := by
  induction h with
  | nil => exact .nil
  | cons h t ih =>
    simp only [List.filter_cons, hpq _ _ h]
    split
    · exact .cons h ih
    · exact ih
theorem all {p : α → Bool} {q : β → Bool} (hpq : ∀ a b, R a b → p a = q b) {l : List α} {m : List β} (h : F2 R l m) : l.all p = m.all q := by
  induction h with
  | nil => rfl
  | cons h t ih => simp only [List.all_cons, hpq _ _ h, ih]
theorem len {l : List α} {m : List β} (h : F2 R l m) : l.length = m.length := by
  induction h with
  | nil => rfl
  | cons h t ih => simp [ih]
theorem get {l : List α} {m : List β} (h : F2 R l m) : ∀ {i : Nat} {b : β}, m[i]? = some b → ∃ a, l[i]? = some a ∧ R a b := by
  induction h with
  | nil => intro i b hb; simp at hb
  | cons h t ih =>
    intro i b hb
    cases i with
    | zero => simp at hb; subst hb; exact ⟨_, rfl, h⟩
    | succ i => simpa using ih (by simpa using hb)
end F2
def EntR (M : Mem) (φ : Place) (H : List SObj) (e : FV × SV × Nat) (x : MapEntry) : Prop := VR M e.1 x.key ∧ SVR M φ H e.2.1 x.val ∧ x.born = e.2.2
theorem map_f2 (hR : Rel X M φ H w) {b c : Nat} {es : List (FV × SV × Nat)} (hb : H[b]? = some (.map es c)) : ∃ l : List MapEntry, w.heap[(φ b).1]? = some (.map l.toArray c) ∧ F2 (EntR M φ H) es l := by
  obtain ⟨⟨l⟩, h1, h2, h3⟩ := hR.ob _ _ hb
  refine ⟨l, h1, F2.of_ix (by simpa using h2.symm) fun i e x he hx => ?_⟩
  have := h3 i e he
  have hg : (Array.mk l).getD i default = x := by rw [Array.getD_eq_getD_getElem?]; simp [hx]
  rw [hg] at this; exact this

/-- An object that is not cells, put in the place of another. -/
theorem obj_turn (hR : Rel X M φ H w) {b : Nat} {x x' : SObj} {o o' : Obj} (hb : H[b]? = some x) (hx : x ≠ .dead) (h0 : w.heap[(φ b).1]? = some o) (hne : ∀ c e f, o ≠ .cells c e f) (hs : Same φ H φ (H.set b x') b)
    (hO : ∀ w', w'.heap[(φ b).1]? = some o' → (∀ v y, SVR M φ H v y → SVR M φ (H.set b x') v y) → OR X M φ (H.set b x') b w' x') (P : Program) :
    ∃ w', (setObj (φ b).1 o').run P w = .ok () w' ∧ Rel X M φ (H.set b x') w' ∧ Trans H.length M φ H w M φ (H.set b x') w' ∧ ∀ v y, SVR M φ H v y → SVR M φ (H.set b x') v y := by
  have hlt := hR.lt ⟨_, hb, hx⟩
  have c := set_change (X := X) (φ := φ) (M := M) (w := w) (x' := x') (w' := { w with heap := w.heap.setIfInBounds (φ b).1 o' }) hb hx rfl rfl rfl (by simp) (fun k hk => by
    show (w.heap.setIfInBounds (φ b).1 o')[k]? = _
    rw [Array.getElem?_setIfInBounds_ne (Ne.symm hk)]) hs
  refine ⟨_, run_setObj _ h0 hne, c.rel hR fun y hy => ?_, c.trans, fun v y hv => c.svr hv⟩
  rw [get_set hb] at hy; injection hy with hy; subst hy
  exact hO _ (by simp [hlt]) fun v y hv => c.svr hv
theorem mkmap_sound (hR : Rel X M φ H w) {t : TypeId} : OpOut X M φ H w (.map H.length, H ++ [.map [] 0]) (do pure (Next.value (← Instr.makeMap t none))) := by
  obtain ⟨φ', h1, h2, h3, h4⟩ := push_sound (X := X) (M := M) (φ := φ) (H := H) (w := w) (o := .map #[] 0) (x := .map [] 0) (sz := 0) hR fun φ' hS hp => by
    exact ⟨#[], by rw [hp]; exact push_get, rfl, fun i e he => by simp at he⟩
  refine ⟨.map (some w.heap.size), _, M, φ', .value (run_next ?_), .map _ _ (by simp) (fun es c h => by rw [h3]), h1, h2⟩
  simp [Instr.makeMap, run_newObj]
theorem range_sound (hR : Rel X M φ H w) {t kt e : TypeId} {x : SV} {y : Value} {r : SV × List SObj} (hu : X.c.p.underlying t = some (.map kt e)) (h : rangeOp H x = some r) (hx : SVR M φ H x y) :
    OpOut X M φ H w r (do pure (Next.value (← Instr.range t y))) := by
  unfold rangeOp at h
  split at h
  · injection h with h; subst h
    cases hx.toF
    obtain ⟨φ', h1, h2, h3, h4⟩ := push_sound (X := X) (M := M) (φ := φ) (H := H) (w := w) (o := .mapIter none 0 #[] 0) (x := .iter (.f .nilMap) 0 [] 0) (sz := 0) hR fun φ' hS hp => by
      exact ⟨none, by rw [hp]; exact push_get, .f _ _ .nilMap⟩
    refine ⟨.pointer (some ⟨w.heap.size, 0, none⟩), _, M, φ', .value (run_next ?_), .it _ _ (by simp) (fun es c s t h => by rw [h3]), h1, h2⟩
    simp [Instr.range, run_underlying' hu, run_newObj]
  · rename_i b
    split at h
    · rename_i es c hb
      injection h with h; subst h
      obtain ⟨l, g1, g2⟩ := map_f2 hR hb
      cases hx with
      | map _ q _ hq =>
        have := hq es c hb; subst this
        obtain ⟨φ', h1, h2, h3, h4⟩ := push_sound (X := X) (M := M) (φ := φ) (H := H) (w := w) (o := .mapIter (some (φ b).1) c #[] c) (x := .iter (.map b) c [] c) (sz := 0) hR fun φ' hS hp => by
          exact ⟨some (φ b).1, by rw [hp]; exact push_get, hS _ _ (.map b _ (List.getElem?_eq_some_iff.1 hb).1 fun _ _ _ => rfl)⟩
        refine ⟨.pointer (some ⟨w.heap.size, 0, none⟩), _, M, φ', .value (run_next ?_), .it _ _ (by simp) (fun es c s t h => by rw [h3]), h1, h2⟩
        simp [Instr.range, run_underlying' hu, run_newObj, run_getMap g1]
    · cases h
  · cases h
theorem choose_run (P : Program) (n : Nat) (w : World) : ∃ j w0, (choose (.mapNext n)).run P w = .ok j w0 ∧ (0 < n → j < n) ∧ (w0 = w ∨ w0 = { w with drawn := w.drawn + 1 }) := by
  rw [run_choose]
  by_cases h : n ≤ 1
  · exact ⟨0, w, by simp [Question.forced, h], fun h => h, .inl rfl⟩
  · exact ⟨w.tape w.drawn (.mapNext n) % n, { w with drawn := w.drawn + 1 }, by simp [Question.forced, h, Question.cut], fun h => Nat.mod_lt _ h, .inr rfl⟩
theorem run_getIter {P : Program} {r : Nat} {m : Option Nat} {a t : Nat} {s : Array Nat} (h : w.heap[r]? = some (.mapIter m a s t)) : (getObj r).run P w = .ok (.mapIter m a s t) w := by simp [getObj, Sem.run, h]
/-- A step of a range over a map, behind what it looks at. -/
theorem next_eq {P : Program} {ty : TypeId} {r m since last clock : Nat} {seen : List Nat} {l left : List MapEntry} (g1 : w.heap[r]? = some (.mapIter (some m) since seen.toArray last)) (e1 : w.heap[m]? = some (.map l.toArray clock))
    (hg : (!seen.isEmpty && !l.isEmpty && l.all fun e => decide (e.born ≥ last)) = false) (hl : l.filter (fun e => !seen.contains e.born) = left) (hold : left.all (fun e => decide (e.born < since)) = true) :
    (Instr.next (.pointer (some ⟨r, 0, none⟩)) false ty).run P w = (do
      match ((if left.isEmpty then [none] else left.map some) : List (Option MapEntry))[← choose (.mapNext (if left.isEmpty then 1 else left.length))]? with
      | some (some e) =>
        setObj r (.mapIter (some m) since (seen.toArray.push e.born) clock)
        pure (.tuple #[.bool true, e.key, e.val])
      | some none => pure (.tuple #[.bool false])
      | none => stuck "Next: no such candidate" : Sem Value).run P w := by
  have h1 : l.toArray.filter (fun e => !seen.toArray.contains e.born) = left.toArray := by
    rw [List.filter_toArray' (by simp), ← hl]; simp
  have hf1 : left.toArray.filter (fun e => decide (e.born < since)) = left.toArray := by
    rw [List.filter_toArray' (by simp), List.filter_eq_self.2 fun a ha => (List.all_eq_true.1 hold) a ha]
  have hf2 : left.toArray.filter (fun e => decide (e.born ≥ since)) = #[] := by
    rw [List.filter_toArray' (by simp), List.filter_eq_nil_iff.2 fun a ha => by
      have := (List.all_eq_true.1 hold) a ha
      simp at this ⊢; exact this]
  have hg' : (!seen.toArray.isEmpty && !l.toArray.isEmpty && l.toArray.all fun e => decide (e.born ≥ last)) = false := by
    rw [← hg]; simp
  simp only [Instr.next, Sem.run_bind, run_getIter g1, Result.andThen_ok, run_getMap e1, hg', Bool.false_eq_true, if_false, Sem.run_pure, h1, hf1, hf2]
  cases left with
  | nil =>
    have e2 : ((if (#[] : Array MapEntry).isEmpty = true then #[none] else #[]) ++ Array.map some (#[] ++ #[]) : Array (Option MapEntry)) = #[none] := by simp
    rw [e2]; rfl
  | cons a t =>
    have e1 : (a :: t).toArray.isEmpty = false := by simp
    simp only [e1, Bool.false_eq_true, if_false, List.isEmpty_cons]
    have e2 : (#[] ++ ((a :: t).toArray ++ #[]).map some : Array (Option MapEntry)) = ((a :: t).map some).toArray := by simp
    rw [e2]
    simp only [List.size_toArray, List.length_map, List.getElem?_toArray]
    rfl
theorem next_sound (hR : Rel X M φ H w) {ty : TypeId} {x : SV} {y : Value} {l : List (SV × List SObj)} (h : nextOp H x = some l) (hx : SVR M φ H x y) :
    ∃ r ∈ l, OpOut X M φ H w r (do pure (Next.value (← Instr.next y false ty))) := by
  unfold nextOp at h
  split at h
  · rename_i b
    split at h
    · rename_i since seen last hb
      injection h with h; subst h
      obtain ⟨mr, g1, g2⟩ := hR.ob _ _ hb
      have hmr : mr = none := by have h := g2.toF; cases h; rfl
      subst hmr
      refine ⟨_, List.mem_singleton.2 rfl, ?_⟩
      cases hx with
      | it _ k _ hk =>
        have := hk _ _ _ _ hb; subst this
        refine OpOut.val hR (v := .tuple #[.bool false]) (by simp [Instr.next, run_getIter g1]) (.f _ _ (.tup _ _ rfl fun i c hc => ?_))
        match i with
        | 0 => simp at hc; subst hc; exact .bool _
        | i + 1 => simp at hc
    · rename_i m since seen last hb
      split at h
      · rename_i es c hm
        obtain ⟨mr, g1, g2⟩ := hR.ob _ _ hb
        obtain ⟨el, e1, e2⟩ := map_f2 hR hm
        have hmr : mr = some (φ m).1 := by
          cases g2 with
          | map _ q _ hq => rw [hq _ _ hm]
        subst hmr
        cases hx with
        | it _ k _ hk =>
          have := hk _ _ _ _ hb; subst this
          split at h
          · cases h
          · rename_i hgo
            have hborn : ∀ a b, EntR M φ H a b → b.born = a.2.2 := fun a b h => h.2.2
            have hgo' : (!seen.isEmpty && !el.isEmpty && el.all fun e => decide (e.born ≥ last)) = false := by
              have h1 : el.isEmpty = es.isEmpty := by cases e2 <;> rfl
              have h2 := e2.all (p := fun e => decide (last ≤ e.2.2)) (q := fun e => decide (e.born ≥ last)) fun a b hab => by rw [hborn a b hab]
              rw [h1, ← h2]; simpa using hgo
            have e3 := e2.filter (p := fun e => !seen.contains e.2.2) (q := fun e => !seen.contains e.born) fun a b hab => by rw [hborn a b hab]
            generalize hleft : es.filter (fun e => !seen.contains e.2.2) = left at h e3
            generalize hel : el.filter (fun e => !seen.contains e.born) = ell at e3
            simp only at h
            split at h
            · rename_i hold
              have hold' : ell.all (fun e => decide (e.born < since)) = true := by
                rw [← e3.all (p := fun e => decide (e.2.2 < since)) (q := fun e => decide (e.born < since)) fun a b hab => by rw [hborn a b hab]]; exact hold
              obtain ⟨j, w0, c1, c2, c3⟩ := choose_run X.c.p (if ell.isEmpty then 1 else ell.length) w
              have hw0 : w0.heap = w.heap := by rcases c3 with rfl | rfl <;> rfl
              have hR0 : Rel X M φ H w0 := by
                rcases c3 with rfl | rfl
                · exact hR
                · exact hR.drawn _
              have hT0 : Trans H.length M φ H w M φ H w0 := by
                rcases c3 with rfl | rfl
                · exact Trans.refl (Nat.le_refl _)
                · exact Trans.drawn (Nat.le_refl _) _
              split at h
              · injection h with h; subst h
                cases e3
                refine ⟨_, List.mem_singleton.2 rfl, .tuple #[.bool false], w0, M, φ, .value (run_next ?_), .f _ _ (.tup _ _ rfl fun i c hc => ?_), hR0, hT0⟩
                · have hj : j = 0 := by have := c2 (by decide); simp at this; exact this
                  subst hj
                  rw [next_eq g1 e1 hgo' hel hold', Sem.run_bind, c1]
                  rfl
                · match i with
                  | 0 => simp at hc; subst hc; exact .bool _
                  | i + 1 => simp at hc
              · rename_i hne
                injection h with h; subst h
                have hl : ell.isEmpty = false := by
                  cases e3 with
                  | nil => exact absurd rfl hne
                  | cons => rfl
                simp only [hl, Bool.false_eq_true, if_false] at c1 c2
                have hpos : 0 < ell.length := by cases ell with | nil => simp at hl | cons => simp
                have hj := c2 hpos
                obtain ⟨a, ha, hab⟩ := e3.get (List.getElem?_eq_getElem hj)
                refine ⟨_, List.mem_map.2 ⟨a, List.mem_of_getElem? ha, rfl⟩, ?_⟩
                obtain ⟨w', t1, t2, t3, t4⟩ := obj_turn (x' := .iter (.map m) since (seen ++ [a.2.2]) c) (o' := .mapIter (some (φ m).1) since (seen.toArray.push (ell[j]).born) c) hR0 hb (fun h => nomatch h) (by rw [hw0]; exact g1) (by intro _ _ _ h; cases h) (set_iter_same hb)
                  (fun w' hw' hS => ⟨some (φ m).1, by rw [hw', hborn _ _ hab]; simp, hS _ _ g2⟩) X.c.p
                refine ⟨.tuple #[.bool true, (ell[j]).key, (ell[j]).val], w', M, φ, .value (run_next ?_), mkTup_sound rfl fun i c hc => ?_, t2, hT0.trans t3⟩
                · rw [next_eq g1 e1 hgo' hel hold', Sem.run_bind]
                  simp only [hl, Bool.false_eq_true, if_false, c1, Result.andThen_ok, List.getElem?_map, List.getElem?_eq_getElem hj, Option.map_some, Sem.run_bind, t1, Sem.run_pure]
                · match i with
                  | 0 => simp at hc; subst hc; exact .mkbool _
                  | 1 => simp at hc; subst hc; exact .f _ _ hab.1
                  | 2 => simp at hc; subst hc; exact t4 _ _ hab.2.1
                  | i + 3 => simp at hc
            · cases h
      · cases h
    · cases h
  · cases h
theorem find_born {es : List (FV × SV × Nat)} {l : List MapEntry} (h : F2 (EntR M φ H) es l) {s : Nat} {k : FV} {v : SV} (hf : findBorn s es = some (k, v)) : ∃ e, l.find? (fun e => e.born == s) = some e ∧ VR M k e.key ∧ SVR M φ H v e.val := by
  induction h with
  | nil => simp [findBorn] at hf
  | @cons a b l m h t ih =>
    obtain ⟨ak, av, ab⟩ := a
    simp only [findBorn] at hf
    have hb : b.born = ab := h.2.2
    split at hf
    · rename_i he
      injection hf with hf; injection hf with h1 h2; subst h1; subst h2
      exact ⟨b, by simp [List.find?_cons, hb, he], h.1, h.2.1⟩
    · rename_i he
      obtain ⟨e, h1, h2⟩ := ih hf
      refine ⟨e, ?_, h2⟩
      rw [List.find?_cons, hb, show (ab == s) = false by simpa using he]; exact h1
theorem entry_sound (hR : Rel X M φ H w) {x v : SV} {y : Value} (h : entryOp H x = some v) (hx : SVR M φ H x y) : OpOut X M φ H w (v, H) (do pure (Next.value (← Instr.entry y))) := by
  unfold entryOp at h
  split at h
  · rename_i b
    split at h
    · rename_i m since seen st hb
      split at h
      · rename_i es c s hm hs
        split at h
        · rename_i hc; subst hc
          split at h
          · rename_i k u hf
            injection h with h; subst h
            obtain ⟨mr, g1, g2⟩ := hR.ob _ _ hb
            obtain ⟨el, e1, e2⟩ := map_f2 hR hm
            have hmr : mr = some (φ m).1 := by
              cases g2 with
              | map _ q _ hq => rw [hq _ _ hm]
            subst hmr
            obtain ⟨e, f1, f2, f3⟩ := find_born e2 hf
            cases hx with
            | it _ k _ hk =>
              have := hk _ _ _ _ hb; subst this
              refine OpOut.val hR (v := .tuple #[e.key, e.val]) ?_ (mkTup_sound rfl fun i c hc => ?_)
              · simp [Instr.entry, run_getIter g1, run_getMap e1, List.back?_toArray, hs, List.find?_toArray, f1]
              · match i with
                | 0 => simp at hc; subst hc; exact .f _ _ f2
                | 1 => simp at hc; subst hc; exact f3
                | i + 2 => simp at hc
          · cases h
        · cases h
      · cases h
    · cases h
  · cases h
end Go.Det

/- Slices made by size, structs compared, assertions. -/
set_option linter.unusedVariables false
set_option linter.unusedSimpArgs false
namespace Go.Det
variable {X : Fix} {M : Mem} {φ : Place} {H : List SObj} {w : World}

theorem wrap_id {n : Int} (h0 : 0 ≤ n) (h1 : n ≤ 9223372036854775807) : IntKind.i64.wrap n = n := by
  simp only [IntKind.wrap, IntKind.bits, IntKind.signed]
  simp
  omega
theorem makeslice_sound (hR : Rel X M φ H w) {t e : TypeId} {i : TypeInfo} {z : List FV} {l c : SV} {x y : Value} {r : SV × List SObj} (hu : X.c.p.underlying t = some (.slice e)) (hz : zeroCells X.c.p e = some z) (hi : X.c.p.info? e = some i)
    (hk : okT X.c.p e = true) (hlz : z.length = sizeB X.c.p e) (h : makeslice H z e (sizeB X.c.p e) i.bytes l c = some r) (hl : SVR M φ H l x) (hc : SVR M φ H c y) : OpOut X M φ H w r (do pure (Next.value (← Instr.makeSlice t x y))) := by
  unfold makeslice at h
  split at h
  · rename_i l c
    split at h
    · rename_i hg
      obtain ⟨g1, g2, g3, g4, g5⟩ := hg
      injection h with h; subst h
      rw [hl.int', hc.int']
      obtain ⟨zx, hzx, cz⟩ := zeroCells_sound (M := M) (φ := φ) (H := H) hz
      have hs : zx.cells.size = z.length := by simpa using cz.len
      have hwl := wrap_id g1 (Int.le_trans g2 g3)
      have hwc := wrap_id (Int.le_trans g1 g2) g3
      have hb : (i.bytes : Int) * c ≤ 140737488355328 := by rw [Int.mul_comm]; exact g4
      have ht : (decide (c < 0) || decide ((i.bytes : Int) * c > 2 ^ 48)) = false := by
        have h1 : ¬ c < 0 := by omega
        have h2 : ¬ (i.bytes : Int) * c > 2 ^ 48 := by have : (2 : Int) ^ 48 = 281474976710656 := rfl; omega
        rw [decide_eq_false h1, decide_eq_false h2]; rfl
      have hle : l.toNat ≤ c.toNat := by omega
      have key : ∃ arr, CR M φ H ((List.replicate c.toNat z).flatten.map .f) arr ∧ (Instr.makeSlice t (.int .i64 l) (.int .i64 c)).run X.c.p w = .ok (.slice (some ⟨w.heap.size, 0, none⟩) l.toNat c.toNat) { w with heap := w.heap.push (.cells arr e) } := by
        by_cases h0 : c.toNat * sizeB X.c.p e = 0
        · have : (List.replicate c.toNat z).flatten = [] := List.eq_nil_of_length_eq_zero (by rw [List.length_flatten]; simp [hlz, h0])
          refine ⟨(Array.range (c.toNat * sizeB X.c.p e)).map ((#[] : Array Value)[· % (#[] : Array Value).size]!), ?_, ?_⟩
          · rw [this, h0]
            exact ⟨by simp, fun i hi => by simp at hi, fun i c hc => by simp at hc⟩
          · have hl0 : ¬ l < 0 := by omega
            have hlc : ¬ l > c := by omega
            simp only [Instr.makeSlice, Sem.run_bind, run_underlying' hu, Result.andThen_ok, asInt, asIntOf, run_typeInfo hi, hwl, hwc, ht, hl0, hlc, decide_false, Bool.false_or, Bool.or_self, Bool.or_false, Bool.false_eq_true, if_false, run_askRoom, run_sizeOf' hk, if_pos h0, Sem.run_pure, newRow, run_newObj]
        · refine ⟨(Array.range (c.toNat * sizeB X.c.p e)).map (zx.cells[· % zx.cells.size]!), ?_, ?_⟩
          · have := zeros_sound (n := c.toNat) cz (.inl (by rw [hlz]; exact Nat.pos_of_ne_zero fun h => h0 (by rw [h, Nat.mul_zero])))
            rw [hlz] at this; exact this
          · have hl0 : ¬ l < 0 := by omega
            have hlc : ¬ l > c := by omega
            simp only [Instr.makeSlice, Sem.run_bind, run_underlying' hu, Result.andThen_ok, asInt, asIntOf, run_typeInfo hi, hwl, hwc, ht, hl0, hlc, decide_false, Bool.false_or, Bool.or_self, Bool.or_false, Bool.false_eq_true, if_false, run_askRoom, run_sizeOf' hk, if_neg h0, hzx, Sem.run_pure, newRow, run_newObj]
      obtain ⟨arr, hcr, hr⟩ := key
      have hflat : ∀ n, ((List.replicate n z).flatten.map SV.f).length = n * z.length := fun n => by simp
      have hsz : arr.size = c.toNat * z.length := by rw [hcr.len, hflat]
      have hval : ∀ k v, ((List.replicate l.toNat z).flatten.map SV.f)[k]? = some v → SVR M φ H v (arr.getD k undef) := by
        intro k v hv
        have hk' : k < l.toNat * z.length := by have := (List.getElem?_eq_some_iff.1 hv).1; rwa [hflat] at this
        have hk2 : k < c.toNat * z.length := Nat.lt_of_lt_of_le hk' (Nat.mul_le_mul_right _ hle)
        have hp : 0 < z.length := by
          rcases Nat.eq_zero_or_pos z.length with h | h
          · rw [h, Nat.mul_zero] at hk'; omega
          · exact h
        refine hcr.val k v ?_
        rw [List.getElem?_map, rep_get z hp _ _ hk2]
        rw [List.getElem?_map, rep_get z hp _ _ hk'] at hv
        exact hv
      obtain ⟨φ', h1, h2, h3, h4⟩ := push_cells (ty := e) (e := sizeB X.c.p e) hR (0, 0) (by simp) (by rw [hflat, hsz]; exact Nat.mul_le_mul_right _ hle) (fun k hk => hcr.one k (by rw [← hcr.len]; exact hk)) hval
      refine ⟨_, _, M, φ', .value (run_next hr), ?_, h1, h2⟩
      have hrow := row_new (M := M) (H := H) (ty := e) (e := sizeB X.c.p e) (n := l.toNat) (cap := c.toNat) (x := false) (cs := (List.replicate l.toNat z).flatten.map SV.f) h3 hle (fun h => nomatch h) (by show c.toNat * sizeB X.c.p e ≤ arr.size; rw [hsz, hlz]; exact Nat.le_refl _) (fun _ => by rw [hflat, hlz]; exact Nat.mul_le_mul_right _ hle)
      rw [hflat, hlz] at hrow; exact hrow
    · cases h
  · cases h
theorem kk_equal {kk : KKind} {d : TypeDesc} {t : TypeId} {n : Nat} {x y : Value} {r : Bool} (hu : X.c.p.underlying t = some d) (hd : KK kk d) (h : Instr.sameNow d x y = some r) : (Op.equalIn (n + 1) t x y).run X.c.p w = .ok r w := by
  unfold Instr.sameNow at h
  split at h
  · split at h
    · rename_i hk; subst hk; injection h with h; subst h
      exact run_equalIn_int w n t _ _ _ _ hu
    · cases h
  · injection h with h; subst h
    rw [beq_toListBytes]
    exact run_equalIn_string w n t _ _ hu
  · injection h with h; subst h
    exact run_equalIn_bool' w n t _ _ hu
  · cases h
theorem eqKs_sound {n : Nat} {a b : List FV} {xs ys : Array Value} (hx : ∀ i c, a[i]? = some c → VR M c (xs.getD i undef)) (hy : ∀ i c, b[i]? = some c → VR M c (ys.getD i undef)) (hlx : xs.size = a.length) (hly : ys.size = b.length) :
    ∀ (fs : List Field) (i : Nat) (ks : List KKind) (r : Bool), flatK X.c.p i fs = some ks → eqKs ks (a.drop i) (b.drop i) = some r → (Op.eqFields (n + 1) xs ys fs).run X.c.p w = .ok r w
  | [], i, ks, r, hk, h => by
    simp only [flatK, Option.some.injEq] at hk; subst hk
    simp only [eqKs, Option.some.injEq] at h; subst h
    simp [Op.eqFields]
  | f :: fs, i, ks, r, hk, h => by
    simp only [flatK] at hk
    split at hk
    · rename_i hc
      simp only [Bool.and_eq_true, bne_iff_ne, ne_eq, beq_iff_eq] at hc
      obtain ⟨⟨h1, h2⟩, h3⟩ := hc
      split at hk
      · rename_i k ks' hkk hks
        injection hk with hk; subst hk
        obtain ⟨d, hd, hK⟩ := kkind_spec hkk
        have hat : aggB X.c.p f.type = false := by
          unfold aggB; rw [hd]
          cases k with
          | int => obtain ⟨q, rfl⟩ := hK; rfl
          | str => rw [show d = .string from hK]
          | bool => rw [show d = .bool from hK]
        cases ha : a.drop i with
        | nil => rw [ha] at h; simp [eqKs] at h
        | cons a0 as =>
          cases hb : b.drop i with
          | nil => rw [hb] at h; rw [ha] at h; simp [eqKs] at h
          | cons b0 bs =>
            rw [ha, hb] at h
            have ga : a[i]? = some a0 := by have := congrArg (·[0]?) ha; simpa using this
            have gb : b[i]? = some b0 := by have := congrArg (·[0]?) hb; simpa using this
            have la := (List.getElem?_eq_some_iff.1 ga).1
            have lb := (List.getElem?_eq_some_iff.1 gb).1
            have da : a.drop (i + 1) = as := by rw [← List.tail_drop, ha]; rfl
            have db : b.drop (i + 1) = bs := by rw [← List.tail_drop, hb]; rfl
            have px : (part f.type xs f.offset).run X.c.p w = .ok (xs.getD i undef) w := by
              rw [h2]; simp only [part, Sem.run_bind, run_isAgg' h3, Result.andThen_ok, hat, Bool.false_eq_true, if_false, getD_some (d := undef) (show i < xs.size by omega), Sem.run_pure]
            have py : (part f.type ys f.offset).run X.c.p w = .ok (ys.getD i undef) w := by
              rw [h2]; simp only [part, Sem.run_bind, run_isAgg' h3, Result.andThen_ok, hat, Bool.false_eq_true, if_false, getD_some (d := undef) (show i < ys.size by omega), Sem.run_pure]
            simp only [eqKs] at h
            split at h
            · rename_i hq
              have heq := kk_equal (w := w) (n := n) hd hK (keyEq_sound hq (hx _ _ ga) (hy _ _ gb) hK)
              have ih := eqKs_sound (n := n) hx hy hlx hly fs (i + 1) ks' r hks (by rw [da, db]; exact h)
              simp only [Op.eqFields, h1, ne_eq, not_false_eq_true, if_true, Sem.run_bind, px, py, Result.andThen_ok, heq]
              exact ih
            · rename_i hq
              injection h with h; subst h
              have heq := kk_equal (w := w) (n := n) hd hK (keyEq_sound hq (hx _ _ ga) (hy _ _ gb) hK)
              simp only [Op.eqFields, h1, ne_eq, not_false_eq_true, if_true, Sem.run_bind, px, py, Result.andThen_ok, heq, Sem.run_pure]
              try rfl
            · cases h
      · cases hk
    · cases hk
theorem fieldsOf_eq {t : TypeId} {fs : Array Field} (h : X.c.p.underlying t = some (.struct fs)) : X.c.p.fieldsOf t = fs := by simp [Program.fieldsOf, h]
theorem eqAgg_sound {op : BinOp} {t : TypeId} {ks : List KKind} {a b v : SV} {x y : Value} {xo yo : Operand} (hop : op = .eql ∨ op = .neq) (hf : flatS X.c.p t = some ks) (h : eqAgg (op == .neq) ks a b = some v) (hx : SVR M φ H a x) (hy : SVR M φ H b y) :
    ∃ r, (do eqGuard op t xo yo x y; binOp op t x y : Sem Value).run X.c.p w = .ok r w ∧ SVR M φ H v r := by
  unfold flatS at hf
  split at hf
  · rename_i fs hu
    split at hf
    · rename_i hg
      simp only [Bool.and_eq_true, Bool.not_eq_true'] at hg
      unfold eqAgg at h
      split at h
      · rename_i l m
        simp only [Option.map_eq_some_iff] at h
        obtain ⟨r, hr, rfl⟩ := h
        have hx' := hx.toF; have hy' := hy.toF
        cases hx' with
        | agg _ xs hlx hax hvx =>
          cases hy' with
          | agg _ ys hly hay hvy =>
            have heq : (Op.equalIn 10000 t (.agg xs) (.agg ys)).run X.c.p w = .ok r w := by
              rw [run_equalIn_struct w 9999 t xs ys (by rw [fieldsOf_eq hu]; exact hu) hg.1, fieldsOf_eq hu]
              exact eqKs_sound (n := 9998) hvx hvy hlx hly fs.toList 0 ks r hf (by simpa using hr)
            have hgd := run_eqGuard_agg w op t xo yo xs ys hg.2
            rcases hop with rfl | rfl
            · exact ⟨.bool r, by simp only [Sem.run_bind, hgd, Result.andThen_ok, run_eql_struct, heq], by cases r <;> exact .mkbool _⟩
            · exact ⟨.bool !r, by simp only [Sem.run_bind, hgd, Result.andThen_ok, run_neq_struct, heq], by cases r <;> exact .mkbool _⟩
      · cases h
    · cases hf
  · cases hf
theorem tassert_sound {t u : TypeId} {a v : SV} {x : Value} (hi : ∀ ms, X.c.p.underlying t ≠ some (.interface ms)) (hu : (X.c.p.underlying t).isSome = true) (h : unwrap t a = some v) (hx : SVR M φ H a x) : ∃ r, (Instr.typeAssert x u t false).run X.c.p w = .ok r w ∧ SVR M φ H v r := by
  obtain ⟨d, hd⟩ := Option.isSome_iff_exists.1 hu
  have key : ∀ (y : Value), x = .iface t y → (Instr.typeAssert x u t false).run X.c.p w = .ok y w := by
    intro y hxy; subst hxy
    simp only [Instr.typeAssert, Sem.run_bind, run_underlying' hd, Result.andThen_ok]
    cases d with
    | interface ms => exact absurd hd (hi ms)
    | _ => simp
  unfold unwrap at h
  split at h
  · split at h
    · rename_i he; subst he; injection h with h; subst h
      have hx' := hx.toF
      cases hx' with
      | iface _ _ y hy => exact ⟨y, key y rfl, .f _ _ hy⟩
    · cases h
  · split at h
    · rename_i he; subst he; injection h with h; subst h
      cases hx with
      | iface _ _ y hy => exact ⟨y, key y rfl, hy⟩
    · cases h
  · cases h
end Go.Det

/- An operation of the model comes to what the deterministic one says. -/
set_option linter.unusedVariables false
set_option linter.unusedSimpArgs false
namespace Go.Det
variable {X : Fix} {M : Mem} {φ : Place} {H : List SObj} {w : World}

def Good (X : Fix) (M : Mem) (φ : Place) (H : List SObj) (w : World) (s : Sem Next) (l : List (SV × List SObj)) : Prop := ∃ r ∈ l, OpOut X M φ H w r s
theorem Good.one {s : Sem Next} {r : SV × List SObj} (h : OpOut X M φ H w r s) : Good X M φ H w s [r] := ⟨r, List.mem_singleton.2 rfl, h⟩
theorem outV_some {H : List SObj} {o : Option SV} {l : List (SV × List SObj)} (h : outV H o = some l) : ∃ x, o = some x ∧ l = [(x, H)] := by
  cases o with
  | none => cases h
  | some x => exact ⟨x, rfl, by injection h with h; exact h.symm⟩
theorem outH_some {o : Option (List SObj)} {l : List (SV × List SObj)} (h : outH o = some l) : ∃ x, o = some x ∧ l = [(U, x)] := by
  cases o with
  | none => cases h
  | some x => exact ⟨x, rfl, by injection h with h; exact h.symm⟩
theorem outB_some {o : Option (SV × List SObj)} {l : List (SV × List SObj)} (h : outB o = some l) : ∃ x, o = some x ∧ l = [x] := by
  cases o with
  | none => cases h
  | some x => exact ⟨x, rfl, by injection h with h; exact h.symm⟩
/-- A value without a change. -/
theorem Good.val (hR : Rel X M φ H w) {o : Option SV} {l : List (SV × List SObj)} {s : Sem Value} (h : outV H o = some l) (k : ∀ v, o = some v → ∃ y, s.run X.c.p w = .ok y w ∧ SVR M φ H v y) : Good X M φ H w (do pure (Next.value (← s))) l := by
  obtain ⟨x, h1, rfl⟩ := outV_some h
  obtain ⟨y, h2, h3⟩ := k x h1
  exact .one (OpOut.val hR h2 h3)
theorem ops_mem {ds : List Opd} (h : ds.all okOpd = true) {d : Opd} (hd : d ∈ ds) : okOpd d = true := List.all_eq_true.1 h d hd
section
variable {env : List SV} {tm : Array Value}
theorem ofEnv (hR : Rel X M φ H w) (hE : EnvR M φ H env tm) {x : Operand} (h : okOpd (opd X.c x) = true) : SVR M φ H (get env (opd X.c x)) (evalT tm x) := opd_sound hR hE h
theorem many (hR : Rel X M φ H w) (hE : EnvR M φ H env tm) {xs : List Operand} (h : (xs.map (opd X.c)).all okOpd = true) : ∀ i v, (mapOpd env (xs.map (opd X.c)))[i]? = some v → SVR M φ H v ((xs.map (evalT tm)).getD i undef) := by
  intro i v hv
  simp only [mapOpd, List.getElem?_map, Option.map_eq_some_iff] at hv
  obtain ⟨_, ⟨x, hx, rfl⟩, rfl⟩ := hv
  rw [List.getD_eq_getElem?_getD, List.getElem?_map, hx]
  exact ofEnv hR hE (ops_mem h (List.mem_map.2 ⟨x, List.mem_of_getElem? hx, rfl⟩))
theorem optR (hR : Rel X M φ H w) (hE : EnvR M φ H env tm) {x : Option Operand} (h : (x.map (opd X.c)).toList.all okOpd = true) : OptR M φ H ((x.map (opd X.c)).map (get env)) (x.map (evalT tm)) := by
  cases x with
  | none => exact .none
  | some x => exact .some _ _ (ofEnv hR hE (by simpa using h))
end
variable {prog : FuncId → Option DFunc} {R : Run} {env : List SV} {tm : Array Value}
theorem bin_sound (hR : Rel X M φ H w) {op : BinOp} {a b : SV} {x y : Value} {t : TypeId} {xo yo : Operand} {l : List (SV × List SObj)} (h : outV H (bin op a b) = some l) (hx : SVR M φ H a x) (hy : SVR M φ H b y) :
    Good X M φ H w (do pure (Next.value (← (do eqGuard op t xo yo x y; binOp op t x y)))) l := by
  refine Good.val hR h fun v hv => ?_
  unfold bin at hv
  split at hv
  · rename_i c d
    simp only [Option.map_eq_some_iff] at hv
    obtain ⟨r, hr, rfl⟩ := hv
    obtain ⟨y', h1, h2⟩ := binF_sound (X := X) t hr hx.toF hy.toF
    have hg : (eqGuard op t xo yo x y).run X.c.p w = .ok () w := by
      refine eqGuard_scalar t xo yo (fun arr e => ?_) (fun e => ?_) _ _
      · have hx := hx.toF; subst e
        cases hx <;> simp [binF] at hr
      · have hx := hx.toF; subst e
        cases hx <;> simp [binF] at hr
    exact ⟨y', by simp only [Sem.run_bind, hg, Result.andThen_ok, h1], .f _ _ h2⟩
  · cases hv
theorem eqB_sound (hR : Rel X M φ H w) {op : BinOp} (hop : op = .eql ∨ op = .neq) {a b : SV} {x y : Value} {t : TypeId} (ht : X.c.p.underlying t = some .bool) {xo yo : Operand} {l : List (SV × List SObj)} (h : outV H (eqB (op == .neq) a b) = some l) (hx : SVR M φ H a x) (hy : SVR M φ H b y) :
    Good X M φ H w (do pure (Next.value (← (do eqGuard op t xo yo x y; binOp op t x y)))) l := by
  refine Good.val hR h fun v hv => ?_
  unfold eqB at hv
  split at hv
  · rename_i c d
    injection hv with hv; subst hv
    rw [hx.bool', hy.bool']
    have hg : (eqGuard op t xo yo (.bool c) (.bool d)).run X.c.p w = .ok () w := eqGuard_scalar t xo yo (by intro arr e; cases e) (by intro e; cases e) _ _
    rcases hop with rfl | rfl
    · exact ⟨.bool (c == d), by simp only [Sem.run_bind, hg, Result.andThen_ok, run_eql_bool w t c d ht], by cases c <;> cases d <;> exact .mkbool _⟩
    · exact ⟨.bool !(c == d), by simp only [Sem.run_bind, hg, Result.andThen_ok, run_neq_bool w t c d ht], by cases c <;> cases d <;> exact .mkbool _⟩
  · cases hv
theorem run_eqs {op : BinOp} (hop : op = .eql ∨ op = .neq) {t : TypeId} {x y : Value} {r : Bool} (hi : ∀ k i, x ≠ .int k i) (hs : ∀ s, x ≠ .string s) (hf : ∀ k b, x ≠ .float k b) (hc : ∀ k a b, x ≠ .complex k a b)
    (h : (Op.equal t x y).run X.c.p w = .ok r w) : (binOp op t x y).run X.c.p w = .ok (.bool (r != (op == .neq))) w := by
  rcases hop with rfl | rfl
  · cases x <;> first | exact absurd rfl (hi _ _) | exact absurd rfl (hs _) | exact absurd rfl (hf _ _) | exact absurd rfl (hc _ _ _) | (simp only [binOp, Sem.run_bind, h, Result.andThen_ok, Sem.run_pure]; cases r <;> rfl)
  · cases x <;> first | exact absurd rfl (hi _ _) | exact absurd rfl (hs _) | exact absurd rfl (hf _ _) | exact absurd rfl (hc _ _ _) | (simp only [binOp, Sem.run_bind, h, Result.andThen_ok, Sem.run_pure]; cases r <;> rfl)
theorem isnil_shape {k : NKind} {v : SV} {x : Value} {r : Bool} (h : isNil k v = some r) (hx : SVR M φ H v x) : (∀ k i, x ≠ .int k i) ∧ (∀ s, x ≠ .string s) ∧ (∀ k b, x ≠ .float k b) ∧ (∀ k a b, x ≠ .complex k a b) ∧ (∀ arr, x ≠ .agg arr) := by
  refine ⟨?_, ?_, ?_, ?_, ?_⟩ <;> (intros; intro e; subst e; cases hx <;> first | (cases k <;> simp [isNil] at h; done) | (rename_i hx; cases hx <;> cases k <;> simp [isNil] at h))
def NilT (p : Program) (t : TypeId) (y : Value) : NKind → Prop
  | .ptr => (∃ e, p.underlying t = some (.pointer e)) ∧ y = .pointer none
  | .map => (∃ a b, p.underlying t = some (.map a b)) ∧ y = .map none
  | .func => (∃ a b c, p.underlying t = some (.func a b c)) ∧ y = .nilFunc
  | .iface => (∃ m, p.underlying t = some (.interface m)) ∧ y = .nilIface
theorem isnil_good (hR : Rel X M φ H w) {op : BinOp} (hop : op = .eql ∨ op = .neq) {k : NKind} {v : SV} {x y : Value} {t : TypeId} {xo : Operand} {l : List (SV × List SObj)} (h : outV H ((isNil k v).map fun r => .f (.bool (r != (op == .neq)))) = some l) (hx : SVR M φ H v x)
    (ht : NilT X.c.p t y k) :
    Good X M φ H w (do pure (Next.value (← (do eqGuard op t xo (.const y) x y; binOp op t x y)))) l := by
  refine Good.val hR h fun v' hv => ?_
  simp only [Option.map_eq_some_iff] at hv
  obtain ⟨r, hr, rfl⟩ := hv
  obtain ⟨s1, s2, s3, s4, s5⟩ := isnil_shape hr hx
  have hq := isnil_sound (w := w) hr hx (by cases k <;> exact ht)
  have hg : (eqGuard op t xo (.const y) x y).run X.c.p w = .ok () w := by
    by_cases hn : x = .nilIface
    · subst hn
      have hy : y = .nilIface ∨ y ≠ .nilIface := Classical.em _
      rcases hy with rfl | hy
      · rcases hop with rfl | rfl <;> simp [eqGuard]
      · rcases hop with rfl | rfl <;> (unfold eqGuard; cases y <;> first | rfl | exact absurd rfl hy)
    · exact eqGuard_scalar t xo _ s5 hn _ _
  exact ⟨_, by simp only [Sem.run_bind, hg, Result.andThen_ok, run_eqs hop s1 s2 s3 s4 hq], .mkbool _⟩
theorem sl_shape {x : Bool} {n : Nat} {cs : List FV} {v : Value} (h : VR M (.sl x n cs) v) : ∃ a c, v = .slice a n c ∧ a.isNone = false := by
  cases h with
  | sl => exact ⟨_, _, rfl, rfl⟩
  | slE => exact ⟨_, _, rfl, rfl⟩
theorem isnilSl_good (hR : Rel X M φ H w) {op : BinOp} (hop : op = .eql ∨ op = .neq) {v : SV} {x : Value} {t e : TypeId} {xo : Operand} {l : List (SV × List SObj)} (ht : X.c.p.underlying t = some (.slice e)) (hx : SVR M φ H v x)
    (h : isNilSl (op == .neq) H v = some l) : Good X M φ H w (do pure (Next.value (← (do eqGuard op t xo (.const (.slice none 0 0)) x (.slice none 0 0); binOp op t x (.slice none 0 0))))) l := by
  have key : ∀ a n c, x = .slice a n c → (do eqGuard op t xo (.const (.slice none 0 0)) x (.slice none 0 0); binOp op t x (.slice none 0 0) : Sem Value).run X.c.p w = .ok (.bool (a.isNone != (op == .neq))) w := by
    intro a n c hx; subst hx
    have hg : (eqGuard op t xo (.const (.slice none 0 0)) (.slice a n c) (.slice none 0 0)).run X.c.p w = .ok () w := eqGuard_scalar t xo _ (by intro arr e; cases e) (by intro e; cases e) _ _
    simp only [Sem.run_bind, hg, Result.andThen_ok]
    exact run_eqs hop (fun _ _ e => nomatch e) (fun _ e => nomatch e) (fun _ _ e => nomatch e) (fun _ _ _ e => nomatch e) (isnilSl_equal ht)
  unfold isNilSl at h
  split at h
  · injection h with h; subst h
    cases hx.toF with
    | nilSl => exact .one (OpOut.val hR (key _ _ _ rfl) (.mkbool _))
  · injection h with h; subst h
    obtain ⟨a, c, h1, h2⟩ := sl_shape hx.toF
    have := key a _ c h1
    rw [h2] at this
    exact .one (OpOut.val hR this (.mkbool _))
  · injection h with h; subst h
    cases hx with
    | row _ _ _ _ _ a cap _ ha =>
      obtain ⟨k, j, rfl⟩ := ha (by omega)
      exact .one (OpOut.val hR (key _ _ _ rfl) (.mkbool _))
  · cases h
end Go.Det

/- Pointers to rows, texts of rows, capacities. -/
set_option linter.unusedVariables false
set_option linter.unusedSimpArgs false
namespace Go.Det
variable {X : Fix} {M : Mem} {φ : Place} {H : List SObj} {w : World}

theorem hcells_at {b ver : Nat} {cs : List SV} (h : hcells H b ver = some cs) : ∃ ty e, H[b]? = some (.cells ty e cs) ∧ cs.length = ver := by
  obtain ⟨ty, e, h1, h2⟩ := hcells_some h
  exact ⟨ty, e, h1, h2⟩
theorem shape_live (hR : Rel X M φ H w) {b ty e : Nat} {cs : List SV} (hb : H[b]? = some (.cells ty e cs)) : ∃ n, w.shape? (φ b).1 = some (ty, n) ∧ cs.length ≤ n := by
  obtain ⟨arr, fr, h1, h2, h3, _⟩ := hR.ob _ _ hb
  exact ⟨arr.size, by simp [World.shape?, h1], h3⟩
theorem cap_sound {t e ty : TypeId} {v r : SV} {x : Value} (hu : X.c.p.underlying t = some (.slice e)) (h : capOp H v = some r) (hx : SVR M φ H v x) : ∃ z, (Builtin.cap_ #[t] ty #[x]).run X.c.p w = .ok z w ∧ SVR M φ H r z := by
  unfold capOp at h
  split at h
  · injection h with h; subst h
    cases hx.toF with
    | nilSl => exact ⟨.int .i64 0, by simp [Builtin.cap_, run_underlying' hu, goInt], .mkint ..⟩
  · injection h with h; subst h
    cases hx.toF with
    | sl _ _ _ b o cap vs hm hv hxx hc =>
      have := hxx rfl; subst this
      exact ⟨.int .i64 cap, by simp [Builtin.cap_, run_underlying' hu, goInt], .mkint ..⟩
    | slE _ a => exact ⟨.int .i64 0, by simp [Builtin.cap_, run_underlying' hu, goInt], .mkint ..⟩
  · rename_i b o n ver
    split at h
    · rename_i hs
      injection h with h; subst h
      obtain ⟨cs, hc⟩ := Option.isSome_iff_exists.1 hs
      obtain ⟨ty', e', hb, hl⟩ := hcells_at hc
      cases hx with
      | row _ _ _ _ _ a cap hc ha hb' hle hx =>
        have := (hx ty' e' cs hb hl).2.1 rfl; subst this
        exact ⟨.int .i64 cap, by simp [Builtin.cap_, run_underlying' hu, goInt], .mkint ..⟩
    · cases h
  · cases h
theorem sliceData_sound {ts : Array TypeId} {ty : TypeId} {v r : SV} {x : Value} (h : sliceData v = some r) (hx : SVR M φ H v x) : ∃ z, (Builtin.unsafeSliceData_ ts ty #[x]).run X.c.p w = .ok z w ∧ SVR M φ H r z := by
  unfold sliceData at h
  split at h
  · injection h with h; subst h
    cases hx.toF with
    | nilSl => exact ⟨_, Lib.run_unsafeSliceData_nil w ts ty 0 0, .f _ _ .nilPtr⟩
  · injection h with h; subst h
    cases hx.toF with
    | sl _ _ _ b o cap vs hm hv hxx hc => exact ⟨_, Lib.run_unsafeSliceData_row w ts ty _ _ cap (by omega), .f _ _ (.ptr _ b o vs hm hv)⟩
  · rename_i b o n ver x'
    injection h with h; subst h
    cases hx with
    | row _ _ _ _ _ a cap hc ha hb hle hx =>
      obtain ⟨k, j, rfl⟩ := ha (by omega)
      refine ⟨_, Lib.run_unsafeSliceData_row w ts ty _ _ cap (by omega), .ptr b o ver k j hb hle fun ty e cs hc hl => ?_⟩
      rcases (hx ty e cs hc hl).1 with h | h
      · injection h with h; injection h with h1 h2; subst h1; subst h2; exact ⟨rfl, rfl⟩
      · omega
  · cases h
theorem toUns_sound (hR : Rel X M φ H w) {s d t : TypeId} {i : TypeInfo} {v r : SV} {x : Value} (hs : X.c.p.underlying s = some (.pointer t)) (hd : X.c.p.underlying d = some .unsafePointer) (hi : X.c.p.info? t = some i) (hz : i.size ≠ 0) (h : toUns H v = some r) (hx : SVR M φ H v x) :
    ∃ z, (convert s d x).run X.c.p w = .ok z w ∧ SVR M φ H r z := by
  unfold toUns at h
  split at h
  · injection h with h; subst h
    cases hx.toF with
    | nilPtr => exact ⟨.pointer none, by simp [convert, run_underlying' hs, run_underlying' hd, Conv.unsafePointer], .f _ _ .nilPtr⟩
  · rename_i b o ver
    split at h
    · rename_i cs hc
      obtain ⟨ty, e, hb, hl⟩ := hcells_at hc
      split at h
      · rename_i ho
        injection h with h; subst h
        obtain ⟨n, h1, h2⟩ := shape_live hR hb
        cases hx with
        | ptr _ _ _ k j hb' hle hk =>
          obtain ⟨rfl, rfl⟩ := hk ty e cs hb hl
          exact ⟨_, Lib.run_to_unsafe w ⟨(φ b).1, j, none⟩ hs hd hi hz h1 (by show j < n; omega), .ptr _ _ _ _ _ hb' hle hk⟩
      · cases h
    · cases h
  · cases h
theorem lies_here {P : Program} {e : TypeId} (hc : 0 < P.cellsOf e) (count : Nat) (hn : 1 ≤ count) : liesAt P P.depth e count 0 e 1 = true := by
  have hd : P.depth = (2 * (P.types.size + Made.depth) + 1) + 1 := rfl
  rw [hd]
  simp only [liesAt, Bool.or_eq_true]
  left
  rw [hd]
  simp [rowAt, hn, sameLayout]
  omega
theorem fromUns_sound (hR : Rel X M φ H w) {s d u : TypeId} {i : TypeInfo} {v r : SV} {x : Value} (hs : X.c.p.underlying s = some .unsafePointer) (hd : X.c.p.underlying d = some (.pointer u)) (hi : X.c.p.info? u = some i) (h : fromUns H u (sizeB X.c.p u) v = some r) (hx : SVR M φ H v x) :
    ∃ z, (convert s d x).run X.c.p w = .ok z w ∧ SVR M φ H r z := by
  unfold fromUns at h
  split at h
  · injection h with h; subst h
    cases hx.toF with
    | nilPtr => exact ⟨.pointer none, by simp [convert, run_underlying' hs, run_underlying' hd, Conv.unsafePointer], .f _ _ .nilPtr⟩
  · rename_i b o ver
    split at h
    · rename_i ty e cs hb
      split at h
      · rename_i hg
        obtain ⟨hl, rfl, rfl, hp, hle'⟩ := hg
        injection h with h; subst h
        obtain ⟨n, h1, h2⟩ := shape_live hR hb
        cases hx with
        | ptr _ _ _ k j hb' hle hk =>
          obtain ⟨rfl, rfl⟩ := hk ty e cs hb hl
          exact ⟨_, Lib.run_from_unsafe w ⟨(φ b).1, 0, none⟩ hs hd hi h1 (lies_here hp _ (by unfold sizeB at hp hle'; rw [Nat.le_div_iff_mul_le hp, Nat.one_mul]; omega)), .ptr _ _ _ _ _ hb' hle hk⟩
      · cases h
    · cases h
  · cases h
theorem eqPtr_sound {op : BinOp} (hop : op = .eql ∨ op = .neq) {t e : TypeId} {i : TypeInfo} {a b r : SV} {x y : Value} {xo yo : Operand} (hp : X.c.p.underlying t = some (.pointer e)) (he : X.c.p.info? e = some i) (h : eqPtr H (op == .neq) a b = some r) (hx : SVR M φ H a x) (hy : SVR M φ H b y) :
    ∃ z, (do eqGuard op t xo yo x y; binOp op t x y : Sem Value).run X.c.p w = .ok z w ∧ SVR M φ H r z := by
  unfold eqPtr at h
  split at h
  · rename_i b o ver b' o' ver'
    split at h
    · rename_i hg
      obtain ⟨rfl, rfl, rfl, hs⟩ := hg
      injection h with h; subst h
      obtain ⟨cs, hc⟩ := Option.isSome_iff_exists.1 hs
      obtain ⟨ty, e', hb, hl⟩ := hcells_at hc
      cases hx with
      | ptr _ _ _ k j hb' hle hk =>
        cases hy with
        | ptr _ _ _ k' j' _ _ hk' =>
          obtain ⟨h1, h2⟩ := hk ty e' cs hb hl
          obtain ⟨h3, h4⟩ := hk' ty e' cs hb hl
          subst h1; subst h2; subst h3; subst h4
          have hg : ∀ a : Addr, (eqGuard op t xo yo (.pointer (some a)) (.pointer (some a))).run X.c.p w = .ok () w := fun a => eqGuard_scalar t xo yo (by intro arr e; cases e) (by intro e; cases e) _ _
          refine ⟨.bool (true != (op == .neq)), ?_, .mkbool _⟩
          simp only [Sem.run_bind, hg, Result.andThen_ok]
          have hq : ∀ (a : Addr) (d : Nat), (Op.equalIn (d + 1) t (.pointer (some a)) (.pointer (some a))).run X.c.p w = .ok true w := fun a d => by
            simp [Op.equalIn, run_underlying' hp, sizeOf, typeInfo, he, run_sameAddr_same]
          exact run_eqs hop (by intro _ _ e; cases e) (by intro _ e; cases e) (by intro _ _ e; cases e) (by intro _ _ _ e; cases e) (hq _ 9999)
    · cases h
  · cases h
theorem same_dead' {b : Nat} {x : SObj} (hb : H[b]? = some x) : Same φ H φ (H.set b .dead) b := by
  have hd := get_set (x' := .dead) hb
  exact ⟨fun _ _ _ h => (by rw [hd] at h; cases h), fun _ _ h => (by rw [hd] at h; cases h), fun _ _ _ _ h => (by rw [hd] at h; cases h), fun _ _ _ _ _ _ h => (by rw [hd] at h; cases h)⟩
theorem bytesOf_ints : ∀ {cs : List SV} {l : List UInt8}, bytesOf cs = some l → ∃ vs : List Int, cs = vs.map (fun v => SV.f (.int .u8 v)) ∧ l = vs.map fun v => UInt8.ofNat v.toNat
  | [], l, h => by injection h with h; subst h; exact ⟨[], rfl, rfl⟩
  | c :: cs, l, h => by
    unfold bytesOf at h
    split at h
    · rename_i h1; cases h1
    · rename_i n r h1
      injection h1 with h1 h2; subst h1; subst h2
      split at h
      · rename_i l' hl
        injection h with h; subst h
        obtain ⟨vs, e1, e2⟩ := bytesOf_ints hl
        exact ⟨n :: vs, by rw [e1]; rfl, by rw [e2]; rfl⟩
      · cases h
    · cases h
theorem unsafeStr_sound (hR : Rel X M φ H w) {pt it ty e : TypeId} {p n : SV} {x y : Value} {r : SV × List SObj} (hp : X.c.p.underlying pt = some (.pointer e)) (hc : X.c.p.cellsOf e = 1) (h : unsafeStr H e p n = some r) (hx : SVR M φ H p x) (hy : SVR M φ H n y) :
    OpOut X M φ H w r (do pure (Next.value (← Builtin.unsafeString_ #[pt, it] ty #[x, y]))) := by
  unfold unsafeStr at h
  split at h
  · rename_i n
    rw [hy.int']
    split at h
    · rename_i hn
      subst hn
      have hps : ∃ q, x = .pointer q := by
        split at h
        · cases hx.toF with | nilPtr => exact ⟨_, rfl⟩
        · cases hx.toF with | ptr => exact ⟨_, rfl⟩
        · cases hx with | ptr => exact ⟨_, rfl⟩
        · cases h
      have hr : r = (.f (.str []), H) := by
        split at h <;> first | (injection h with h; exact h.symm) | cases h
      obtain ⟨q, rfl⟩ := hps
      subst hr
      exact OpOut.val hR (Lib.run_unsafeString_none w pt it ty q) (.f _ _ (VR.mkstr []))
    · split at h
      · rename_i hn b ver
        split at h
        · rename_i t e' cs hb
          split at h
          · rename_i hg
            obtain ⟨g1, rfl, g3, g4, g5, g6⟩ := hg
            obtain ⟨l, hl, rfl⟩ := Option.map_eq_some_iff.1 h
            obtain ⟨vs, e1, e2⟩ := bytesOf_ints hl
            have hlen : vs.length = n.toNat := by
              have := congrArg List.length e1
              simp only [List.length_take, List.length_map] at this
              omega
            obtain ⟨arr, fr, q1, q2, q3, q4, q5, q6⟩ := hR.ob _ _ hb
            cases hx with
            | ptr _ _ _ k j hb' hle hk =>
              obtain ⟨rfl, rfl⟩ := hk t e' cs hb g1
              have hcell : ∀ j u, l[j]? = some u → w.cell? ((⟨(φ b).1, 0, none⟩ : Addr).add j) = some (.int .u8 u.toNat) := by
                intro j u hj
                rw [e2, List.getElem?_map] at hj
                obtain ⟨v, hjv, rfl⟩ := Option.map_eq_some_iff.1 hj
                have hjl : j < vs.length := (List.getElem?_eq_some_iff.1 hjv).1
                have hct : (cs.take n.toNat)[j]? = some (.f (.int .u8 v)) := by rw [e1, List.getElem?_map, hjv]; rfl
                have hcs : cs[j]? = some (.f (.int .u8 v)) := by
                  rw [List.getElem?_take, if_pos (by omega)] at hct
                  exact hct
                have hb8 := List.all_eq_true.1 g6 _ (List.mem_of_getElem? hct)
                simp only [okByte, Bool.and_eq_true, decide_eq_true_eq] at hb8
                have hv := (q6 j _ hcs).int'
                rw [add_plain, Nat.zero_add]
                simp only [World.cell?, q1]
                have hja : j < arr.size := by omega
                rw [getD_some (d := undef) hja, hv]
                have : ((UInt8.ofNat v.toNat).toNat : Int) = v := by
                  rw [UInt8.toNat_ofNat']
                  omega
                rw [this]
                rfl
              have hll : l.length = vs.length := by rw [e2, List.length_map]
              have hrun := Lib.run_unsafeString_row (P := X.c.p) w pt it ty t hp hc (φ b).1 arr.size (by simp [World.shape?, q1]) l (by intro h0; rw [h0] at hll; simp at hll; omega) (by omega) (by omega) hcell
              have hnn : n = (l.length : Int) := by omega
              rw [hnn]
              have c := set_change (X := X) (φ := φ) (M := M) (w := w) (x' := .dead) (w' := w.freeze ⟨(φ b).1, 0, none⟩ l.length) hb (by intro h; cases h) (by unfold World.freeze; split <;> rfl) (by unfold World.freeze; split <;> rfl) (by unfold World.freeze; split <;> rfl) (by unfold World.freeze; split <;> simp) (fun k hk => by
                unfold World.freeze
                split
                · rfl
                · show (w.heap.modify _ _)[k]? = _
                  rw [Array.getElem?_modify, if_neg (Ne.symm hk)]) (same_dead' hb)
              refine ⟨_, _, M, φ, .value (run_next hrun), ?_, c.rel hR fun x hx => ?_, c.trans⟩
              · exact .f _ _ (VR.mkstr _)
              · rw [get_set hb] at hx; injection hx with hx; subst hx; trivial
          · cases h
        · cases h
      · cases h
  · cases h
end Go.Det

/- Every operation that is no call. -/
set_option linter.unusedVariables false
set_option linter.unusedSimpArgs false
namespace Go.Det
variable {X : Fix} {M : Mem} {φ : Place} {H : List SObj} {w : World}
variable {prog : FuncId → Option DFunc} {R : Run} {env : List SV} {tm : Array Value}

theorem all1 {a : Opd} (h : [a].all okOpd = true) : okOpd a = true := by simpa using h
theorem all2 {a b : Opd} (h : [a, b].all okOpd = true) : okOpd a = true ∧ okOpd b = true := by simpa using h
theorem all3 {a b c : Opd} (h : [a, b, c].all okOpd = true) : okOpd a = true ∧ okOpd b = true ∧ okOpd c = true := by simpa using h
theorem nil_const {k : NKind} {op : BinOp} (hop : op = .eql ∨ op = .neq) (hR : Rel X M φ H w) (hE : EnvR M φ H env tm) {t ty : TypeId} {x : Operand} {y : Value} {o : Oper} {l : List (SV × List SObj)} (ht : NilT X.c.p t y k) (ho : okOpd (opd X.c x) = true)
    (h : evalOp prog R (.isnil k (op == .neq) (opd X.c x)) env H = some l) (he : o.op = .binOp op t x (.const y) ty) : Good X M φ H w (execOp (evalT tm) o) l := by
  have := isnil_good (xo := x) hR hop h (ofEnv hR hE ho) ht
  simp only [execOp, he]; exact this
theorem bin_op (hR : Rel X M φ H w) (hE : EnvR M φ H env tm) {op : BinOp} {t ty : TypeId} {x y : Operand} {o : Oper} {l : List (SV × List SObj)} {d : DOp} (hd : compOp X.c (.binOp op t x y ty) = d) (ho : (opds d).all okOpd = true)
    (h : evalOp prog R d env H = some l) (he : o.op = .binOp op t x y ty) : Good X M φ H w (execOp (evalT tm) o) l := by
  have bin' : d = .bin op (opd X.c x) (opd X.c y) → Good X M φ H w (execOp (evalT tm) o) l := by
    intro e; subst e
    obtain ⟨o1, o2⟩ := all2 ho
    have := bin_sound (xo := x) (yo := y) (t := t) hR h (ofEnv hR hE o1) (ofEnv hR hE o2)
    simp only [execOp, he]; exact this
  have eq' : (op = .eql ∨ op = .neq) → Good X M φ H w (execOp (evalT tm) o) l := by
    intro hop
    have hd' : compEq X.c op t x y = d := by
      rcases hop with rfl | rfl <;> exact hd
    unfold compEq at hd'
    simp only at hd'
    split at hd'
    · exact bin' hd'.symm
    · exact bin' hd'.symm
    · rename_i hu
      subst hd'
      obtain ⟨o1, o2⟩ := all2 ho
      have := eqB_sound (xo := x) (yo := y) hR hop hu h (ofEnv hR hE o1) (ofEnv hR hE o2)
      simp only [execOp, he]; exact this
    · split at hd'
      · rename_i ks hf
        subst hd'
        obtain ⟨o1, o2⟩ := all2 ho
        have := Good.val (s := do eqGuard op t x y (evalT tm x) (evalT tm y); binOp op t (evalT tm x) (evalT tm y)) hR h fun v hv => eqAgg_sound hop hf hv (ofEnv hR hE o1) (ofEnv hR hE o2)
        simp only [execOp, he]; exact this
      · subst hd'; cases h
    · rename_i e hu
      split at hd'
      · subst hd'; exact nil_const (k := .ptr) hop hR hE (show NilT X.c.p t _ .ptr from ⟨⟨_, hu⟩, rfl⟩) (all1 ho) h he
      · split at hd'
        · rename_i hi
          obtain ⟨i, hi⟩ := Option.isSome_iff_exists.1 hi
          subst hd'
          obtain ⟨o1, o2⟩ := all2 ho
          have := Good.val (s := do eqGuard op t x y (evalT tm x) (evalT tm y); binOp op t (evalT tm x) (evalT tm y)) hR h fun v hv => eqPtr_sound hop hu hi hv (ofEnv hR hE o1) (ofEnv hR hE o2)
          simp only [execOp, he]; exact this
        · subst hd'; cases h
    · rename_i hu
      split at hd'
      · subst hd'; exact nil_const (k := .map) hop hR hE (show NilT X.c.p t _ .map from ⟨⟨_, _, hu⟩, rfl⟩) (all1 ho) h he
      · subst hd'; cases h
    · rename_i hu
      split at hd'
      · subst hd'; exact nil_const (k := .func) hop hR hE (show NilT X.c.p t _ .func from ⟨⟨_, _, _, hu⟩, rfl⟩) (all1 ho) h he
      · subst hd'; cases h
    · rename_i hu
      split at hd'
      · subst hd'; exact nil_const (k := .iface) hop hR hE (show NilT X.c.p t _ .iface from ⟨⟨_, hu⟩, rfl⟩) (all1 ho) h he
      · subst hd'; cases h
    · rename_i hu
      split at hd'
      · subst hd'
        have := isnilSl_good (xo := x) hR hop hu (ofEnv hR hE (all1 ho)) h
        simp only [execOp, he]; exact this
      · subst hd'; cases h
    · subst hd'; cases h
  cases op
  case eql => exact eq' (.inl rfl)
  case neq => exact eq' (.inr rfl)
  all_goals exact bin' hd.symm

theorem call_bad {cl : Call} {d : DOp} (hd : compOp X.c (.call cl) = d) : (∃ f xs, d = .call f xs) ∨ (∃ f xs, d = .callv f xs) ∨ d = .bad ∨ ∃ b, cl.callee = .builtin b := by
  simp only [compOp, compCall] at hd
  split at hd
  · exact .inl ⟨_, _, hd.symm⟩
  · exact .inr (.inl ⟨_, _, hd.symm⟩)
  · exact .inr (.inr (.inl hd.symm))
  · rename_i b hb; exact .inr (.inr (.inr ⟨b, hb⟩))
theorem run_builtin {o : Oper} {cl : Call} {b : Builtin} (he : o.op = .call cl) (hb : cl.callee = .builtin b) : ∃ cst, execOp (evalT tm) o = builtin b cl.argTypes o.type cst (cl.args.map (evalT tm)) := by
  refine ⟨cl.args.map fun | .const _ => true | _ => false, ?_⟩
  simp only [execOp, he, resolve, hb]
  rfl
theorem builtin_op (hR : Rel X M φ H w) (hE : EnvR M φ H env tm) {cl : Call} {b : Builtin} {o : Oper} {l : List (SV × List SObj)} {d : DOp} (hd : compOp X.c (.call cl) = d) (hb : cl.callee = .builtin b) (ho : (opds d).all okOpd = true)
    (h : evalOp prog R d env H = some l) (he : o.op = .call cl) : Good X M φ H w (execOp (evalT tm) o) l := by
  obtain ⟨cst, hcst⟩ := run_builtin (tm := tm) he hb
  rw [hcst]
  simp only [compOp, compCall, hb] at hd
  split at hd
  · rename_i x t hargs htys
    have ha : cl.args.map (evalT tm) = #[evalT tm x] := by rw [← Array.toList_inj, Array.toList_map, hargs]; rfl
    have ht : cl.argTypes = #[t] := by rw [← Array.toList_inj, htys]
    rw [ha, ht]
    show Good X M φ H w (do pure (Next.value (← Builtin.len_ #[t] o.type #[evalT tm x]))) l
    unfold lenOp? at hd
    split at hd
    · rename_i n e hu
      subst hd
      injection h with h; subst h
      exact .one (OpOut.val hR (v := .int .i64 n) (by simp [Builtin.len_, run_underlying' hu, goInt]) (.mkint ..))
    · rename_i a hu
      split at hd
      · rename_i n e hu2
        subst hd
        injection h with h; subst h
        exact .one (OpOut.val hR (v := .int .i64 n) (by simp [Builtin.len_, run_underlying' hu, run_underlying' hu2, goInt]) (.mkint ..))
      · subst hd; cases h
    · rename_i hu
      subst hd
      exact Good.val hR h fun v hv => by
        simp only [Option.map_eq_some_iff] at hv
        obtain ⟨n, hn, rfl⟩ := hv
        exact ⟨_, len_sound hR hn (ofEnv hR hE (all1 ho)) hu, .mkint ..⟩
    · rename_i e hu
      subst hd
      exact Good.val hR h fun v hv => by
        simp only [Option.map_eq_some_iff] at hv
        obtain ⟨n, hn, rfl⟩ := hv
        exact ⟨_, len_sound hR hn (ofEnv hR hE (all1 ho)) ⟨_, hu⟩, .mkint ..⟩
    · rename_i hu
      subst hd
      exact Good.val hR h fun v hv => by
        simp only [Option.map_eq_some_iff] at hv
        obtain ⟨n, hn, rfl⟩ := hv
        exact ⟨_, len_sound hR hn (ofEnv hR hE (all1 ho)) ⟨_, _, hu⟩, .mkint ..⟩
    · subst hd; cases h
  · rename_i s x t u hargs htys
    have ha : cl.args.map (evalT tm) = #[evalT tm s, evalT tm x] := by rw [← Array.toList_inj, Array.toList_map, hargs]; rfl
    have ht : cl.argTypes = #[t, u] := by rw [← Array.toList_inj, htys]
    rw [ha, ht]
    show Good X M φ H w (do pure (Next.value (← Builtin.append_ #[t, u] o.type #[evalT tm s, evalT tm x]))) l
    have key : ∀ e, X.c.p.underlying t = some (.slice e) → ((∃ q, X.c.p.underlying u = some (.slice q)) ∨ X.c.p.underlying u = some .string) →
        (match X.c.p.info? e, zeroCells X.c.p e with
          | some i, some z => if okT X.c.p e && decide (0 < i.bytes) && z.length == sizeB X.c.p e then DOp.append e (sizeB X.c.p e) i.bytes (opd X.c s) (opd X.c x) else .bad
          | _, _ => .bad) = d → Good X M φ H w (do pure (Next.value (← Builtin.append_ #[t, u] o.type #[evalT tm s, evalT tm x]))) l := by
      intro e hu hu2 hd
      split at hd
      · rename_i i z hi hz
        split at hd
        · rename_i hc
          simp only [Bool.and_eq_true, decide_eq_true_eq, beq_iff_eq] at hc
          subst hd
          obtain ⟨o1, o2⟩ := all2 ho
          obtain ⟨r, hr, rfl⟩ := outB_some h
          exact .one (append_sound hR ⟨hu, hu2, hc.1.1, ⟨i, hi, rfl⟩, hc.1.2, ⟨z, hz, hc.2⟩⟩ hr (ofEnv hR hE o1) (ofEnv hR hE o2))
        · subst hd; cases h
      · subst hd; cases h
    unfold appOp? at hd
    split at hd
    · rename_i e q hu hu2; exact key e hu (.inl ⟨_, hu2⟩) hd
    · rename_i e hu hu2; exact key e hu (.inr hu2) hd
    · rename_i e kn hu hu2
      split at hd
      · rename_i i z hi hz
        split at hd
        · subst hd
          obtain ⟨o1, o2⟩ := all2 ho
          obtain ⟨r, hr, rfl⟩ := outB_some h
          exact .one (appendz_sound hR hu hu2 hi hz hr (ofEnv hR hE o1) (ofEnv hR hE o2))
        · subst hd; cases h
      · subst hd; cases h
    · subst hd; cases h
  · subst hd
    have hm := many hR hE (xs := cl.args.toList) ho
    have ha : cl.args.map (evalT tm) = ((cl.args.toList).map (evalT tm)).toArray := by rw [← Array.toList_inj]; simp
    rw [ha]
    exact Good.val (s := Builtin.min_ cl.argTypes o.type ((cl.args.toList).map (evalT tm)).toArray) hR h fun v hv => by
      have := minmax_sound (X := X) (w := w) (t := o.type) (ts := cl.argTypes) hv (xs := (cl.args.toList).map (evalT tm)) (by simp [mapOpd]) hm
      simpa using this
  · subst hd
    have hm := many hR hE (xs := cl.args.toList) ho
    have ha : cl.args.map (evalT tm) = ((cl.args.toList).map (evalT tm)).toArray := by rw [← Array.toList_inj]; simp
    rw [ha]
    exact Good.val (s := Builtin.max_ cl.argTypes o.type ((cl.args.toList).map (evalT tm)).toArray) hR h fun v hv => by
      have := minmax_sound (X := X) (w := w) (t := o.type) (ts := cl.argTypes) hv (xs := (cl.args.toList).map (evalT tm)) (by simp [mapOpd]) hm
      simpa using this
  · rename_i x t hargs htys
    have ha : cl.args.map (evalT tm) = #[evalT tm x] := by rw [← Array.toList_inj, Array.toList_map, hargs]; rfl
    have ht : cl.argTypes = #[t] := by rw [← Array.toList_inj, htys]
    rw [ha, ht]
    split at hd
    · rename_i e hu
      subst hd
      exact Good.val (s := Builtin.cap_ #[t] o.type #[evalT tm x]) hR h fun v hv => cap_sound hu hv (ofEnv hR hE (all1 ho))
    · subst hd; cases h
  · rename_i x t hargs htys
    have ha : cl.args.map (evalT tm) = #[evalT tm x] := by rw [← Array.toList_inj, Array.toList_map, hargs]; rfl
    rw [ha]
    subst hd
    exact Good.val (s := Builtin.unsafeSliceData_ cl.argTypes o.type #[evalT tm x]) hR h fun v hv => sliceData_sound hv (ofEnv hR hE (all1 ho))
  · rename_i x n pt it hargs htys
    have ha : cl.args.map (evalT tm) = #[evalT tm x, evalT tm n] := by rw [← Array.toList_inj, Array.toList_map, hargs]; rfl
    have ht : cl.argTypes = #[pt, it] := by rw [← Array.toList_inj, htys]
    rw [ha, ht]
    split at hd
    · rename_i e hu
      split at hd
      · rename_i hc
        subst hd
        obtain ⟨o1, o2⟩ := all2 ho
        obtain ⟨r, hr, rfl⟩ := outB_some h
        exact .one (unsafeStr_sound hR hu hc hr (ofEnv hR hE o1) (ofEnv hR hE o2))
      · subst hd; cases h
    · subst hd; cases h
  · subst hd; cases h

/-- Every operation that is no call of a function. -/
theorem op_sound (hR : Rel X M φ H w) (hE : EnvR M φ H env tm) {o : Oper} {l : List (SV × List SObj)} {d : DOp} (hd : compOp X.c o.op = d) (ho : (opds d).all okOpd = true) (h : evalOp prog R d env H = some l)
    (hc : ∀ f xs, d ≠ .call f xs) (hcv : ∀ f xs, d ≠ .callv f xs) : Good X M φ H w (execOp (evalT tm) o) l := by
  obtain ⟨dst, op, ty, pos, after, guard⟩ := o
  simp only at hd
  have bad : d = .bad → Good X M φ H w (execOp (evalT tm) { dst := dst, op := op, type := ty, pos := pos, after := after, guard := guard }) l := by
    intro e; subst e; cases h
  cases op with
  | move x =>
    simp only [compOp] at hd
    subst hd; injection h with h; subst h
    exact .one (OpOut.same hR rfl (ofEnv hR hE (all1 ho)))
  | assign x =>
    simp only [compOp] at hd
    subst hd; injection h with h; subst h
    exact .one (OpOut.same hR rfl (ofEnv hR hE (all1 ho)))
  | pick c a b =>
    simp only [compOp] at hd
    subst hd
    obtain ⟨o1, o2, o3⟩ := all3 ho
    have e1 := ofEnv hR hE o1
    simp only [evalOp] at h
    split at h
    · rename_i t ht
      injection h with h; subst h
      rw [ht] at e1
      refine .one (OpOut.same hR (v := if t then evalT tm a else evalT tm b) ?_ ?_)
      · show (do pure (Next.value (if ← asBool (evalT tm c) then evalT tm a else evalT tm b)) : Sem Next).run X.c.p w = _
        rw [e1.bool']; rfl
      · cases t
        · exact ofEnv hR hE o3
        · exact ofEnv hR hE o2
    · cases h
  | alloc t =>
    simp only [compOp] at hd
    split at hd
    · rename_i z hz
      subst hd; injection h with h; subst h
      exact .one (alloc_sound hR hz)
    · exact bad hd.symm
  | box t x =>
    simp only [compOp] at hd
    subst hd
    simp only [evalOp] at h
    split at h
    · rename_i cs hcs
      injection h with h; subst h
      exact .one (box_sound hR (ofEnv hR hE (all1 ho)) hcs)
    · cases h
  | build t parts =>
    simp only [compOp] at hd
    split at hd
    · rename_i z ps hz hps
      split at hd
      · rename_i hg
        simp only [Bool.and_eq_true] at hg
        subst hd
        exact Good.val (s := Instr.build t (parts.map fun (i, x) => (i, evalT tm x))) hR h fun v hv => by
          simp only [Option.map_eq_some_iff] at hv
          obtain ⟨cs, hf, rfl⟩ := hv
          exact build_sound hR hE hz hps hg.1 hg.2 ho hf
      · exact bad hd.symm
    · exact bad hd.symm
  | buildSlice t n parts =>
    simp only [compOp] at hd
    split at hd
    · rename_i e hu
      split at hd
      · rename_i z ps hz hps
        split at hd
        · rename_i hg
          simp only [Bool.and_eq_true, decide_eq_true_eq, beq_iff_eq] at hg
          subst hd
          simp only [evalOp] at h
          split at h
          · cases h
          · rename_i cs hf
            have hm := mkslice_sound hR hE hu hz hps hg.2 hg.1.2 hg.1.1 ho hf
            split at h
            · rename_i lf hl
              injection h with h; subst h
              exact .one (hm.1 lf hl)
            · injection h with h; subst h
              exact .one hm.2
        · exact bad hd.symm
      · exact bad hd.symm
    · exact bad hd.symm
  | load t a =>
    simp only [compOp] at hd
    split at hd
    · rename_i hg
      simp only [Bool.and_eq_true] at hg
      subst hd
      exact Good.val (s := Instr.loadAt t (evalT tm a)) hR h fun v hv => load_sound hR hg.1 hv (ofEnv hR hE (all1 ho))
    · exact bad hd.symm
  | store t a x =>
    simp only [compOp] at hd
    split at hd
    · rename_i hg
      subst hd
      obtain ⟨o1, o2⟩ := all2 ho
      obtain ⟨H', h1, rfl⟩ := outH_some h
      exact .one (store_sound hR hg h1 (ofEnv hR hE o1) (ofEnv hR hE o2))
    · exact bad hd.symm
  | nilCheck x =>
    simp only [compOp] at hd
    subst hd
    obtain ⟨v, h1, rfl⟩ := outV_some h
    split at h1
    · rename_i hn
      injection h1 with h1; subst h1
      have e := ofEnv hR hE (all1 ho)
      exact .one (OpOut.same hR (nilchk_sound hn e X.c.p (evalT tm) x _ rfl rfl) e)
    · cases h1
  | binOp op t x y ty => exact bin_op hR hE hd ho h rfl
  | unOp op t x =>
    simp only [compOp] at hd
    subst hd
    exact Good.val (s := Op.unary op (evalT tm x)) hR h fun v hv => by
      obtain ⟨y, h1, h2⟩ := un_sound hv (ofEnv hR hE (all1 ho))
      exact ⟨y, h1 _ _, h2⟩
  | convert s t x =>
    simp only [compOp] at hd
    split at hd
    · rename_i q k hs ht
      subst hd
      have e := ofEnv hR hE (all1 ho)
      simp only [evalOp] at h
      split at h
      · rename_i q' n hx
        injection h with h; subst h
        rw [hx] at e
        have e' := e.int'
        refine .one (OpOut.val hR (s := convert s t (evalT tm x)) (v := .int k (k.wrap n)) ?_ (.mkint ..))
        rw [e']
        simp only [convert, Sem.run_bind, run_underlying' hs, run_underlying' ht, Result.andThen_ok, Conv.intToInt, Sem.run_pure]
      · cases h
    · rename_i hs ht
      subst hd
      have e := ofEnv hR hE (all1 ho)
      simp only [evalOp] at h
      split at h
      · rename_i q' hx
        injection h with h; subst h
        rw [hx] at e
        have e' := e.str'
        refine .one (OpOut.val hR (s := convert s t (evalT tm x)) (v := evalT tm x) ?_ e)
        rw [e']
        simp only [convert, Sem.run_bind, run_underlying' hs, run_underlying' ht, Result.andThen_ok, Sem.run_pure]
      · cases h
    · rename_i q hs ht
      subst hd
      have e := ofEnv hR hE (all1 ho)
      simp only [evalOp] at h
      split at h
      · rename_i q' n hx
        injection h with h; subst h
        rw [hx] at e
        have e' := e.int'
        refine .one (OpOut.val hR (s := convert s t (evalT tm x)) (v := .string ⟨(Utf8.encode n).data.toList.toArray⟩) ?_ (.f _ _ (.mkstr _)))
        rw [e']
        simp only [convert, Sem.run_bind, run_underlying' hs, run_underlying' ht, Result.andThen_ok, Conv.intToString, Sem.run_pure]
      · cases h
    · rename_i e hs ht
      split at hd
      · rename_i i hi
        split at hd
        · rename_i hz
          subst hd
          exact Good.val (s := convert s t (evalT tm x)) hR h fun v hv => toUns_sound hR hs ht hi hz hv (ofEnv hR hE (all1 ho))
        · exact bad hd.symm
      · exact bad hd.symm
    · rename_i u hs ht
      split at hd
      · rename_i hi
        obtain ⟨i, hi⟩ := Option.isSome_iff_exists.1 hi
        subst hd
        exact Good.val (s := convert s t (evalT tm x)) hR h fun v hv => fromUns_sound hR hs ht hi hv (ofEnv hR hE (all1 ho))
      · exact bad hd.symm
    all_goals exact bad hd.symm
  | makeInterface t x =>
    simp only [compOp] at hd
    split at hd
    · exact bad hd.symm
    · exact bad hd.symm
    · rename_i dd hni hu
      subst hd; injection h with h; subst h
      refine .one (OpOut.val hR (s := Instr.makeInterface t (evalT tm x)) (v := .iface t (evalT tm x)) ?_ (mkIface_sound (ofEnv hR hE (all1 ho))))
      simp only [Instr.makeInterface, Sem.run_bind, run_underlying' hu, Result.andThen_ok]
      cases dd with
      | interface ms => exact absurd rfl (hni ms)
      | _ => rfl
  | makeFunc fn first caps =>
    simp only [compOp] at hd
    split at hd
    · rename_i h0
      subst hd; injection h with h; subst h
      have hf : first = #[] := Array.eq_empty_of_size_eq_zero h0
      subst hf
      have hm := many hR hE (xs := caps.toList) ho
      refine .one (OpOut.val hR (s := Instr.makeFunc fn ((#[] : Array Operand).map (evalT tm)) (caps.map (evalT tm))) (v := .func fn #[] ((caps.toList.map (evalT tm)).toArray)) ?_ (mkFunc_sound (by simp [mapOpd]) fun i c hc => ?_))
      · simp only [Instr.makeFunc, Array.map_empty, Sem.run_pure, show caps.map (evalT tm) = (caps.toList.map (evalT tm)).toArray by rw [← Array.toList_inj]; simp]
      · have := hm i c hc; simpa using this
    · exact bad hd.symm
  | makeMap t r =>
    cases r with
    | none =>
      subst hd; injection h with h; subst h
      exact .one (mkmap_sound hR)
    | some r => exact bad hd.symm
  | makeSlice t a b =>
    simp only [compOp] at hd
    split at hd
    · rename_i e hu
      split at hd
      · rename_i z i hz hi
        split at hd
        · rename_i hg
          simp only [Bool.and_eq_true, beq_iff_eq] at hg
          subst hd
          obtain ⟨o1, o2⟩ := all2 ho
          obtain ⟨r, hr, rfl⟩ := outB_some h
          exact .one (makeslice_sound hR hu hz hi hg.1 hg.2 hr (ofEnv hR hE o1) (ofEnv hR hE o2))
        · exact bad hd.symm
      · exact bad hd.symm
    · exact bad hd.symm
  | slice t x lo hi mx =>
    simp only [compOp] at hd
    split at hd
    · rename_i k hk
      subst hd
      simp only [opds, List.all_cons, List.all_append, Bool.and_eq_true] at ho
      exact Good.val (s := Instr.sliceAt t (evalT tm x) (lo.map (evalT tm)) (hi.map (evalT tm)) (mx.map (evalT tm))) hR h fun v hv =>
        slice_sound hk hv (ofEnv hR hE ho.1) (optR hR hE ho.2.1.1) (optR hR hE ho.2.1.2) (optR hR hE ho.2.2)
    · exact bad hd.symm
  | fieldAddr t x i =>
    simp only [compOp] at hd
    split at hd
    · rename_i fs hu
      split at hd
      · rename_i f hf
        split at hd
        · exact bad hd.symm
        · rename_i hg
          simp only [Bool.or_eq_true, decide_eq_true_eq, Bool.not_eq_true', not_or, Bool.not_eq_false] at hg
          subst hd
          exact Good.val (s := Instr.fieldAt t (evalT tm x) i) hR h fun v hv => faddr_sound hu hf hg.1 hg.2 hv (ofEnv hR hE (all1 ho))
      · exact bad hd.symm
    · exact bad hd.symm
  | field t x i =>
    simp only [compOp] at hd
    split at hd
    · rename_i fs hu
      split at hd
      · rename_i f hf
        split at hd
        · rename_i hg
          subst hd
          exact Good.val (s := Instr.field t (evalT tm x) i) hR h fun v hv => field_sound hu hf hg hv (ofEnv hR hE (all1 ho))
        · exact bad hd.symm
      · exact bad hd.symm
    · exact bad hd.symm
  | indexAddr t x i =>
    simp only [compOp] at hd
    split at hd
    · exact bad hd.symm
    · exact bad hd.symm
    · rename_i k hk0 hk
      subst hd
      obtain ⟨o1, o2⟩ := all2 ho
      exact Good.val (s := Instr.indexAt t (evalT tm x) (evalT tm i)) hR h fun v hv => iaddr_sound hk hv (ofEnv hR hE o1) (ofEnv hR hE o2)
  | index t x i =>
    simp only [compOp] at hd
    split at hd
    · rename_i hu
      subst hd
      obtain ⟨o1, o2⟩ := all2 ho
      exact Good.val (s := Instr.index t (evalT tm x) (evalT tm i)) hR h fun v hv => index_str_sound hu hv (ofEnv hR hE o1) (ofEnv hR hE o2)
    · rename_i n e hu
      split at hd
      · rename_i hg
        simp only [Bool.and_eq_true, Bool.or_eq_true, beq_iff_eq] at hg
        subst hd
        obtain ⟨o1, o2⟩ := all2 ho
        exact Good.val (s := Instr.index t (evalT tm x) (evalT tm i)) hR h fun v hv => index_arr_sound hu hg.1 (fun ha => by rcases hg.2 with h | h; (rw [ha] at h; cases h); exact h) hv (ofEnv hR hE o1) (ofEnv hR hE o2)
      · exact bad hd.symm
    · exact bad hd.symm
  | lookup t m k c =>
    simp only [compOp] at hd
    split at hd
    · rename_i kt e hu
      split at hd
      · rename_i kk z hk hz
        subst hd
        obtain ⟨o1, o2⟩ := all2 ho
        exact Good.val (s := Instr.lookup t (evalT tm m) (evalT tm k) c) hR h fun v hv => lookup_sound hR hu hk hz hv (ofEnv hR hE o1) (ofEnv hR hE o2)
      · exact bad hd.symm
    · exact bad hd.symm
  | mapUpdate t m k x =>
    simp only [compOp] at hd
    split at hd
    · rename_i kt e hu
      split at hd
      · rename_i kk hk
        subst hd
        obtain ⟨o1, o2, o3⟩ := all3 ho
        obtain ⟨H', h1, rfl⟩ := outH_some h
        exact .one (mapset_sound hR hu hk h1 (ofEnv hR hE o1) (ofEnv hR hE o2) (ofEnv hR hE o3))
      · exact bad hd.symm
    · exact bad hd.symm
  | insert t m k x =>
    simp only [compOp] at hd
    split at hd
    · rename_i kt e hu
      split at hd
      · rename_i kk hk
        subst hd
        obtain ⟨o1, o2, o3⟩ := all3 ho
        obtain ⟨H', h1, rfl⟩ := outH_some h
        exact .one (mapset_sound hR hu hk h1 (ofEnv hR hE o1) (ofEnv hR hE o2) (ofEnv hR hE o3))
      · exact bad hd.symm
    · exact bad hd.symm
  | range t x =>
    simp only [compOp] at hd
    split at hd
    · rename_i kt e hu
      subst hd
      obtain ⟨r, hr, rfl⟩ := outB_some h
      exact .one (range_sound hR hu hr (ofEnv hR hE (all1 ho)))
    · exact bad hd.symm
  | next it s =>
    simp only [compOp] at hd
    cases s with
    | true => exact bad hd.symm
    | false =>
      subst hd
      exact next_sound hR h (ofEnv hR hE (all1 ho))
  | entry it =>
    simp only [compOp] at hd
    subst hd
    obtain ⟨v, h1, rfl⟩ := outV_some h
    exact .one (entry_sound hR h1 (ofEnv hR hE (all1 ho)))
  | extract x i =>
    simp only [compOp] at hd
    subst hd
    have e := ofEnv hR hE (all1 ho)
    simp only [evalOp] at h
    split at h
    · rename_i vs hvs
      obtain ⟨arr, ha, hl, hv⟩ := elems_sound e hvs
      exact Good.val (s := Instr.extract (evalT tm x) i) hR h fun v hi => by
        have hlt : i < arr.size := by rw [hl]; exact (List.getElem?_eq_some_iff.1 hi).1
        have hg : arr[i]? = some (arr.getD i undef) := getD_some (d := undef) hlt
        refine ⟨arr.getD i undef, ?_, hv i v hi⟩
        rw [ha]; simp only [Instr.extract, hg, Sem.run_pure]
    · cases h
  | typeAssert x u t c =>
    simp only [compOp] at hd
    split at hd
    · exact bad hd.symm
    · exact bad hd.symm
    · exact bad hd.symm
    · rename_i dd hni hu
      subst hd
      exact Good.val (s := Instr.typeAssert (evalT tm x) u t false) hR h fun v hv => tassert_sound (fun ms hm => by rw [hu] at hm; injection hm with hm; exact hni ms hm) (by rw [hu]; rfl) hv (ofEnv hR hE (all1 ho))
  | call cl =>
    rcases call_bad hd with ⟨f, xs, e⟩ | ⟨f, xs, e⟩ | e | ⟨b, hb⟩
    · exact absurd e (hc f xs)
    · exact absurd e (hcv f xs)
    · exact bad e
    · exact builtin_op hR hE hd hb ho h rfl
  | _ => exact bad hd.symm
end Go.Det

/- Outcomes that are one; heaps let go; values frozen. -/
set_option linter.unusedVariables false
set_option linter.unusedSimpArgs false
namespace Go.Det
variable {X : Fix} {M : Mem} {φ : Place} {H : List SObj} {w : World}

mutual
theorem fv_beq : ∀ (v w : FV), FV.beq v w = true → v = w
  | .int k n, w, h => by cases w <;> simp [FV.beq] at h; simp [h]
  | .bool b, w, h => by cases w <;> simp [FV.beq] at h; simp [h]
  | .str s, w, h => by cases w <;> simp [FV.beq] at h; simp [h]
  | .nilPtr, w, h => by cases w <;> simp [FV.beq] at h; rfl
  | .nilSl, w, h => by cases w <;> simp [FV.beq] at h; rfl
  | .ptr cs, w, h => by
    cases w <;> simp [FV.beq] at h
    rename_i ds; rw [fv_beqs cs ds h]
  | .sl x n cs, w, h => by
    cases w <;> simp [FV.beq] at h
    rename_i y m ds; rw [h.1.1, h.1.2, fv_beqs cs ds h.2]
  | .map a b, w, h => by
    cases w <;> simp [FV.beq] at h
    rename_i c d; rw [fv_beqs a c h.1, fv_beqs b d h.2]
  | .nilMap, w, h => by cases w <;> simp [FV.beq] at h; rfl
  | .func f cs, w, h => by
    cases w <;> simp [FV.beq] at h
    rename_i g ds; rw [h.1, fv_beqs cs ds h.2]
  | .nilFunc, w, h => by cases w <;> simp [FV.beq] at h; rfl
  | .iface t v, w, h => by
    cases w <;> simp [FV.beq] at h
    rename_i u x; rw [h.1, fv_beq v x h.2]
  | .nilIface, w, h => by cases w <;> simp [FV.beq] at h; rfl
  | .agg cs, w, h => by
    cases w <;> simp [FV.beq] at h
    rename_i ds; rw [fv_beqs cs ds h]
  | .tup cs, w, h => by
    cases w <;> simp [FV.beq] at h
    rename_i ds; rw [fv_beqs cs ds h]
theorem fv_beqs : ∀ (l m : List FV), FV.beqs l m = true → l = m
  | [], [], _ => rfl
  | [], _ :: _, h => by simp [FV.beqs] at h
  | _ :: _, [], h => by simp [FV.beqs] at h
  | a :: l, b :: m, h => by
    simp [FV.beqs] at h
    rw [fv_beq a b h.1, fv_beqs l m h.2]
end
mutual
theorem sv_beq : ∀ (v w : SV), SV.beq v w = true → v = w
  | .f v, w, h => by
    cases w <;> simp [SV.beq] at h
    rw [fv_beq v _ h]
  | .ptr b o x, w, h => by cases w <;> simp [SV.beq] at h; simp [h]
  | .row b o n ver x, w, h => by cases w <;> simp [SV.beq] at h; simp [h]
  | .map b, w, h => by cases w <;> simp [SV.beq] at h; simp [h]
  | .it b, w, h => by cases w <;> simp [SV.beq] at h; simp [h]
  | .yield b, w, h => by cases w <;> simp [SV.beq] at h; simp [h]
  | .func f cs, w, h => by
    cases w <;> simp [SV.beq] at h
    rename_i g ds; rw [h.1, sv_beqs cs ds h.2]
  | .iface t v, w, h => by
    cases w <;> simp [SV.beq] at h
    rename_i u x; rw [h.1, sv_beq v x h.2]
  | .agg cs, w, h => by
    cases w <;> simp [SV.beq] at h
    rename_i ds; rw [sv_beqs cs ds h]
  | .tup cs, w, h => by
    cases w <;> simp [SV.beq] at h
    rename_i ds; rw [sv_beqs cs ds h]
  | .dead, w, h => by cases w <;> simp [SV.beq] at h; rfl
theorem sv_beqs : ∀ (l m : List SV), SV.beqs l m = true → l = m
  | [], [], _ => rfl
  | [], _ :: _, h => by simp [SV.beqs] at h
  | _ :: _, [], h => by simp [SV.beqs] at h
  | a :: l, b :: m, h => by
    simp [SV.beqs] at h
    rw [sv_beq a b h.1, sv_beqs l m h.2]
end
theorem es_beq : ∀ (l m : List (FV × SV × Nat)), esBeq l m = true → l = m
  | [], [], _ => rfl
  | [], _ :: _, h => by simp [esBeq] at h
  | _ :: _, [], h => by simp [esBeq] at h
  | (a, b, c) :: l, (a', b', c') :: m, h => by
    simp [esBeq] at h
    rw [fv_beq a a' h.1.1.1, sv_beq b b' h.1.1.2, h.1.2, es_beq l m h.2]
theorem o_beq : ∀ (a b : SObj), SObj.beq a b = true → a = b := by
  intro a b h
  cases a <;> cases b <;> simp [SObj.beq] at h
  · rw [h.1.1, h.1.2, sv_beqs _ _ h.2]
  · rw [es_beq _ _ h.1, h.2]
  · rw [sv_beq _ _ h.1.1.1, h.1.1.2, h.1.2, h.2]
  · rfl
theorem h_beq : ∀ (a b : List SObj), hBeq a b = true → a = b
  | [], [], _ => rfl
  | [], _ :: _, h => by simp [hBeq] at h
  | _ :: _, [], h => by simp [hBeq] at h
  | a :: l, b :: m, h => by
    simp [hBeq] at h
    rw [o_beq a b h.1, h_beq l m h.2]
theorem dedup_mem : ∀ (l : List (SV × List SObj)) (r : SV × List SObj), r ∈ l → r ∈ dedup l
  | [], r, h => by cases h
  | [a], r, h => by simpa [dedup] using h
  | a :: b :: l, r, h => by
    have ih := dedup_mem (b :: l)
    simp only [dedup]
    split
    · rename_i c r' he
      rw [he] at ih
      split
      · rename_i hc
        simp only [Bool.and_eq_true] at hc
        have : a = c := Prod.ext (sv_beq _ _ hc.1) (h_beq _ _ hc.2)
        rcases List.mem_cons.1 h with rfl | h
        · rw [this]; exact List.mem_cons_self
        · exact ih r h
      · rcases List.mem_cons.1 h with rfl | h
        · exact List.mem_cons_self
        · exact List.mem_cons_of_mem _ (ih r h)
    · rename_i he
      have := ih b List.mem_cons_self
      rw [he] at this; cases this
theorem the_all {l : List FV} {r : FV} (h : the l = some r) : ∀ v ∈ l, v = r := by
  unfold the at h
  split at h
  · cases h
  · rename_i a t
    split at h
    · rename_i hall
      injection h with h; subst h
      intro v hv
      rcases List.mem_cons.1 hv with rfl | hv
      · rfl
      · exact (fv_beq _ _ (List.all_eq_true.1 hall v hv)).symm
    · cases h

/-! ### what is let go -/
theorem Rel.take (hR : Rel X M φ H w) {L : Nat} (hL : L ≤ H.length) (hb : ∀ b x, H[b]? = some x → b < L → belowO L x = true) : Rel X M φ (H.take L) w := by
  have hS : ∀ v y, SVR M φ H v y → Det.below L v = true → SVR M φ (H.take L) v y := fun v y hv hbv => hv.step (Mem.le_refl _) (L := L) (by simp; omega) (fun b hb => by
    have e : (H.take L)[b]? = H[b]? := by rw [List.getElem?_take, if_pos hb]
    refine ⟨fun ty e' cs h => ⟨cs, by rw [← e]; exact h, Nat.le_refl _, fun _ => rfl⟩, fun es c h => ⟨⟨_, _, by rw [← e]; exact h⟩, rfl⟩, fun _ _ _ _ h => ⟨⟨_, _, _, _, by rw [← e]; exact h⟩, rfl⟩, fun _ _ _ _ _ _ h => ⟨⟨_, _, _, _, _, _, by rw [← e]; exact h⟩, rfl⟩⟩) hbv
  have hget : ∀ b x, (H.take L)[b]? = some x → H[b]? = some x ∧ b < L := by
    intro b x h
    rw [List.getElem?_take] at h
    split at h
    · rename_i hb; exact ⟨h, hb⟩
    · cases h
  have hlive : ∀ b, live (H.take L) b → live H b := fun b ⟨x, hx, hd⟩ => ⟨x, (hget b x hx).1, hd⟩
  refine ⟨hR.gl, hR.mc, hR.mo, fun b x hx => ?_, fun b b' h h' e => hR.inj b b' (hlive b h) (hlive b' h') e, fun b h => hR.sep b (hlive b h)⟩
  obtain ⟨h1, h2⟩ := hget b x hx
  have ho := hR.ob b x h1
  have hbx := hb b x h1 h2
  cases x with
  | dead => trivial
  | cells ty e cs =>
    obtain ⟨arr, fr, q1, q2, q3, q4, q5, q6⟩ := ho
    exact ⟨arr, fr, q1, q2, q3, q4, q5, fun i c hc => hS _ _ (q6 i c hc) (belows_get hbx i c hc)⟩
  | map es c =>
    obtain ⟨arr, q1, q2, q3⟩ := ho
    refine ⟨arr, q1, q2, fun i e he => ⟨(q3 i e he).1, hS _ _ (q3 i e he).2.1 (belows_get hbx i _ (by simp [he])), (q3 i e he).2.2⟩⟩
  | iter m a s t =>
    obtain ⟨mr, q1, q2⟩ := ho
    exact ⟨mr, q1, hS _ _ q2 hbx⟩
  | loop env ps a bd st j =>
    obtain ⟨l, q1, q2, q3, q4, q5, q6, q7, q8⟩ := ho
    exact ⟨l, q1, q2, q3, q4, q5, q6, q7, fun i v hv => hS _ _ (q8 i v hv) (belows_get hbx i v hv)⟩
/-- Letting go. -/
theorem trim_sound (hR : Rel X M φ H w) {L : Nat} (hL : L ≤ H.length) (vs : List SV) : Rel X M φ (trim L vs H) w ∧ Trans L M φ H w M φ (trim L vs H) w ∧ ∀ v y, v ∈ vs → SVR M φ H v y → SVR M φ (trim L vs H) v y := by
  unfold trim
  split
  · exact ⟨hR, Trans.refl hL, fun v y _ h => h⟩
  · split
    · rename_i hc
      simp only [Bool.and_eq_true] at hc
      have hall : ∀ b x, H[b]? = some x → b < L → belowO L x = true := fun b x hx hb => List.all_eq_true.1 hc.2 x (List.mem_of_getElem? (i := b) (by rw [List.getElem?_take, if_pos hb]; exact hx))
      have hsame : ∀ b, b < L → Same φ H φ (H.take L) b := fun b hb => by
        have e : (H.take L)[b]? = H[b]? := by rw [List.getElem?_take, if_pos hb]
        exact ⟨fun ty e' cs h => ⟨cs, by rw [← e]; exact h, Nat.le_refl _, fun _ => rfl⟩, fun es c h => ⟨⟨_, _, by rw [← e]; exact h⟩, rfl⟩, fun _ _ _ _ h => ⟨⟨_, _, _, _, by rw [← e]; exact h⟩, rfl⟩, fun _ _ _ _ _ _ h => ⟨⟨_, _, _, _, _, _, by rw [← e]; exact h⟩, rfl⟩⟩
      have hlive : ∀ b, live (H.take L) b → live H b := fun b ⟨x, hx, hd⟩ => by
        rw [List.getElem?_take] at hx
        split at hx
        · exact ⟨x, hx, hd⟩
        · cases hx
      refine ⟨hR.take hL hall, ⟨Mem.le_refl _, by simp; omega, hsame, rfl, rfl, rfl, Nat.le_refl _, fun _ _ _ => rfl, fun b hb => .inl ⟨b, hlive b hb, rfl⟩, fun k h => .inl h⟩, fun v y hv h => ?_⟩
      obtain ⟨i, hi, rfl⟩ := List.getElem_of_mem hv
      exact h.step (Mem.le_refl _) (L := L) (by simp; omega) hsame (belows_get hc.1 i _ (List.getElem?_eq_getElem hi))
    · exact ⟨hR, Trans.refl hL, fun v y _ h => h⟩
end Go.Det

/- Freezing: what a value leads to, told in place. -/
set_option linter.unusedVariables false
set_option linter.unusedSimpArgs false
namespace Go.Det
variable {X : Fix} {M : Mem} {φ : Place} {H : List SObj} {w : World}

open Classical in
noncomputable def ice (M : Mem) (φ : Place) (H : List SObj) (w : World) : Mem where
  cell k o := match M.cell k o with
    | some v => some v
    | none => if ∃ b ty e cs, H[b]? = some (.cells ty e cs) ∧ (φ b).1 = k then w.cell? ⟨k, o, none⟩ else none
  obj r := match M.obj r with
    | some x => some x
    | none => if ∃ b es c, H[b]? = some (.map es c) ∧ (φ b).1 = r then w.heap[r]? else none
theorem ice_le : M.le (ice M φ H w) := ⟨fun b o v h => by simp [ice, h], fun r x h => by simp [ice, h]⟩
theorem ice_has {k : Nat} (h : (ice M φ H w).has k) : M.has k ∨ ∃ b, live H b ∧ (φ b).1 = k := by
  rcases h with ⟨o, v, h⟩ | ⟨x, h⟩
  · simp only [ice] at h
    split at h
    · rename_i v' hv; exact .inl (.inl ⟨o, v', hv⟩)
    · split at h
      · rename_i hc
        obtain ⟨b, ty, e, cs, hb, hk⟩ := hc
        exact .inr ⟨b, ⟨_, hb, fun h => nomatch h⟩, hk⟩
      · cases h
  · simp only [ice] at h
    split at h
    · rename_i v' hv; exact .inl (.inr ⟨v', hv⟩)
    · split at h
      · rename_i hc
        obtain ⟨b, es, c, hb, hk⟩ := hc
        exact .inr ⟨b, ⟨_, hb, fun h => nomatch h⟩, hk⟩
      · cases h
theorem cells_cell {arr : Array Value} {ty : TypeId} {fr : Nat × Nat} {k o : Nat} (h : w.heap[k]? = some (.cells arr ty fr)) (hf : ∀ i, i < arr.size → ¬ (fr.1 ≤ i ∧ i < fr.2)) (ho : o < arr.size) : w.cell? ⟨k, o, none⟩ = some (arr.getD o undef) := by
  rw [cell_of h, getD_some (d := undef) ho]
theorem cell_arr {arr : Array Value} {ty : TypeId} {fr : Nat × Nat} {k o : Nat} {v : Value} (h : w.heap[k]? = some (.cells arr ty fr)) (hv : w.cell? ⟨k, o, none⟩ = some v) : o < arr.size ∧ v = arr.getD o undef := by
  rw [cell_of h] at hv
  have ho : o < arr.size := (Array.getElem?_eq_some_iff.1 hv).1
  exact ⟨ho, by rw [Array.getD_eq_getD_getElem?, hv]; rfl⟩
theorem ice_rel (hR : Rel X M φ H w) : Rel X (ice M φ H w) φ [] w where
  gl g cs h := (hR.gl g cs h).mono ice_le
  mc k o v h := by
    simp only [ice] at h
    split at h
    · rename_i v' hv; injection h with h; subst h; exact hR.mc _ _ _ hv
    · split at h
      · rename_i hc
        obtain ⟨b, ty, e, cs, hb, hk⟩ := hc
        obtain ⟨arr, fr, q1, q2, q3, q4, q5, q6⟩ := hR.ob _ _ hb
        rw [hk] at q1
        obtain ⟨h1, h2⟩ := cell_arr q1 h
        exact ⟨by rw [h2]; exact q5 _ h1, h⟩
      · cases h
  mo r x h := by
    simp only [ice] at h
    split at h
    · rename_i v' hv; injection h with h; subst h; exact hR.mo _ _ hv
    · split at h
      · exact h
      · cases h
  ob b x h := by simp at h
  inj b b' h := by obtain ⟨x, hx, _⟩ := h; simp at hx
  sep b h := by obtain ⟨x, hx, _⟩ := h; simp at hx
theorem ice_cell (hR : Rel X M φ H w) {b : Nat} {ty e : Nat} {cs : List SV} (hb : H[b]? = some (.cells ty e cs)) : ∃ arr : Array Value, cs.length ≤ arr.size ∧ (∀ i c, cs[i]? = some c → SVR M φ H c (arr.getD i undef)) ∧ ∀ i, i < arr.size → (ice M φ H w).cell (φ b).1 i = some (arr.getD i undef) := by
  obtain ⟨arr, fr, q1, q2, q3, q4, q5, q6⟩ := hR.ob _ _ hb
  refine ⟨arr, q3, q6, fun i hi => ?_⟩
  have hno : M.cell (φ b).1 i = none := by
    cases hm : M.cell (φ b).1 i with
    | none => rfl
    | some v => exact absurd (.inl ⟨i, v, hm⟩) (hR.sep b ⟨_, hb, fun h => nomatch h⟩)
  simp only [ice, hno]
  rw [if_pos ⟨b, ty, e, cs, hb, rfl⟩]
  exact cells_cell q1 q4 hi
theorem ice_map (hR : Rel X M φ H w) {b c : Nat} {es : List (FV × SV × Nat)} (hb : H[b]? = some (.map es c)) : ∃ arr, (ice M φ H w).obj (φ b).1 = some (.map arr c) ∧ ER M φ H (es.map (·.1)) (es.map (·.2.1)) arr := by
  obtain ⟨arr, h1, h2, _⟩ := map_entries hR hb
  refine ⟨arr, ?_, h2⟩
  have hno : M.obj (φ b).1 = none := by
    cases hm : M.obj (φ b).1 with
    | none => rfl
    | some v => exact absurd (.inr ⟨v, hm⟩) (hR.sep b ⟨_, hb, fun h => nomatch h⟩)
  simp only [ice, hno]
  rw [if_pos ⟨b, es, c, hb, rfl⟩]
  exact h1
theorem frzL_get {g : SV → Option FV} : ∀ {l : List SV} {m : List FV}, frzL g l = some m → m.length = l.length ∧ ∀ (i : Nat) (c : FV), m[i]? = some c → ∃ s, l[i]? = some s ∧ g s = some c
  | [], m, h => by simp [frzL] at h; subst h; exact ⟨rfl, fun i c hc => by simp at hc⟩
  | v :: l, m, h => by
    simp only [frzL] at h
    split at h
    · rename_i x hx
      split at h
      · rename_i m' hm
        injection h with h; subst h
        obtain ⟨h1, h2⟩ := frzL_get hm
        refine ⟨by simp [h1], fun i c hc => ?_⟩
        cases i with
        | zero => simp at hc; subst hc; exact ⟨v, rfl, hx⟩
        | succ i => exact h2 i c (by simpa using hc)
      · cases h
    · cases h
theorem frz_sound (hR : Rel X M φ H w) : ∀ (n : Nat) {v : SV} {x : Value} {fv : FV}, frz H n v = some fv → SVR M φ H v x → VR (ice M φ H w) fv x
  | 0, v, x, fv, h, hx => by
    unfold frz at h
    split at h
    · injection h with h; subst h; exact hx.toF.mono ice_le
    · cases h
    · rename_i he; cases he
  | n + 1, v, x, fv, h, hx => by
    have ih : ∀ {v : SV} {x : Value} {fv : FV}, frz H n v = some fv → SVR M φ H v x → VR (ice M φ H w) fv x := fun h hx => frz_sound hR n h hx
    simp only [frz] at h
    split at h
    · injection h with h; subst h; exact hx.toF.mono ice_le
    · rename_i b o ver
      split at h
      · rename_i cs hcs
        simp only [Option.map_eq_some_iff] at h
        obtain ⟨l, hl, rfl⟩ := h
        obtain ⟨h1, h2⟩ := frzL_get hl
        unfold hcells at hcs
        split at hcs
        · rename_i ty e cs' hb
          split at hcs
          · rename_i hv
            injection hcs with hcs; subst hcs
            obtain ⟨arr, q1, q2, q3⟩ := ice_cell hR hb
            cases hx with
            | ptr _ _ _ k j _ _ hk =>
              obtain ⟨e1, e2⟩ := hk ty e cs' hb hv
              subst e1; subst e2
              refine .ptr l _ _ (fun i => arr.getD (j + i) undef) (fun i hi => q3 _ (by rw [h1, List.length_drop] at hi; omega)) fun i c hc => ?_
              obtain ⟨s, hs, hg⟩ := h2 i c hc
              rw [List.getElem?_drop] at hs
              exact ih hg (q2 _ _ hs)
          · cases hcs
        · cases hcs
      · cases h
    · rename_i b o m ver ex
      split at h
      · rename_i ty e cs hb
        split at h
        · rename_i hc
          obtain ⟨c1, c2, c3⟩ := hc
          simp only [Option.map_eq_some_iff] at h
          obtain ⟨l, hl, rfl⟩ := h
          obtain ⟨h1, h2⟩ := frzL_get hl
          obtain ⟨arr, q1, q2, q3⟩ := ice_cell hR hb
          cases hx with
          | row _ _ _ _ _ a cap hcap ha _ _ hk =>
            obtain ⟨e1, e2, e3⟩ := hk ty e cs hb c1
            have ea : a = some ⟨(φ b).1, o, none⟩ := by
              rcases e1 with e1 | ⟨z, z'⟩
              · exact e1
              · omega
            subst ea
            have hlen : l.length ≤ m * e ∧ o + l.length ≤ cs.length := by
              rw [h1, List.length_take, List.length_drop]; omega
            refine .sl ex m l _ _ cap (fun i => arr.getD (o + i) undef) (fun i hi => q3 _ (by omega)) (fun i c hc => ?_) e2 hcap
            obtain ⟨s, hs, hg⟩ := h2 i c hc
            rw [List.getElem?_take] at hs
            split at hs
            · rw [List.getElem?_drop] at hs
              exact ih hg (q2 _ _ hs)
            · cases hs
        · cases h
      · cases h
    · rename_i b
      split at h
      · rename_i es c hb
        split at h
        · rename_i vs hvs
          injection h with h; subst h
          obtain ⟨h1, h2⟩ := frzL_get hvs
          obtain ⟨arr, q1, q2, q3, q4, q5⟩ := ice_map hR hb
          cases hx with
          | map _ r _ hr =>
            have := hr es c hb; subst this
            refine .map _ _ _ arr c q1 q2 (by rw [h1]; exact q3) (fun i k hk => (q4 i k hk).mono ice_le) fun i v hv => ?_
            obtain ⟨s, hs, hg⟩ := h2 i v hv
            exact ih hg (q5 _ _ hs)
        · cases h
      · cases h
    · rename_i fn cs
      simp only [Option.map_eq_some_iff] at h
      obtain ⟨l, hl, rfl⟩ := h
      obtain ⟨h1, h2⟩ := frzL_get hl
      cases hx with
      | func _ _ arr hs hv =>
        exact .func fn l arr (by omega) fun i c hc => by
          obtain ⟨s, hs, hg⟩ := h2 i c hc
          exact ih hg (hv _ _ hs)
    · rename_i t v
      simp only [Option.map_eq_some_iff] at h
      obtain ⟨l, hl, rfl⟩ := h
      cases hx with
      | iface _ _ y hy => exact .iface t l y (ih hl hy)
    · rename_i cs
      simp only [Option.map_eq_some_iff] at h
      obtain ⟨l, hl, rfl⟩ := h
      obtain ⟨h1, h2⟩ := frzL_get hl
      cases hx with
      | agg _ arr hs ha hv =>
        exact .agg l arr (by omega) (fun i hi => ha i (by omega)) fun i c hc => by
          obtain ⟨s, hs, hg⟩ := h2 i c hc
          exact ih hg (hv _ _ hs)
    · rename_i cs
      simp only [Option.map_eq_some_iff] at h
      obtain ⟨l, hl, rfl⟩ := h
      obtain ⟨h1, h2⟩ := frzL_get hl
      cases hx with
      | tup _ arr hs hv =>
        exact .tup l arr (by omega) fun i c hc => by
          obtain ⟨s, hs, hg⟩ := h2 i c hc
          exact ih hg (hv _ _ hs)
    all_goals cases h
theorem flat0_any {M' : Mem} {v : FV} {x : Value} (h : flat0 v = true) (hx : VR M v x) : VR M' v x := by
  cases hx with
  | int => exact .int ..
  | bool => exact .bool _
  | str => exact .str _
  | nilPtr => exact .nilPtr
  | nilMap => exact .nilMap
  | nilFunc => exact .nilFunc
  | nilIface => exact .nilIface
  | nilSl => exact .nilSl
  | slE x a => exact .slE x a
  | sl x n cs b o cap vs hm hv hx hc =>
    have : n = 0 ∧ cs = [] := by
      unfold flat0 at h
      split at h <;> simp_all
    obtain ⟨rfl, rfl⟩ := this
    exact .sl x 0 [] b o cap vs (fun i hi => absurd hi (by simp)) (fun i c hc => by simp at hc) hx hc
  | _ => simp [flat0] at h
theorem flatV_any {M' : Mem} {v : FV} {x : Value} (h : flatV v = true) (hx : VR M v x) : VR M' v x := by
  have agg : ∀ {cs : List FV} {y : Value}, (cs.all flat0) = true → VR M (.agg cs) y → VR M' (.agg cs) y := by
    intro cs y h hy
    cases hy with
    | agg _ arr hl ha hv => exact .agg cs arr hl ha fun i c hc => flat0_any (List.all_eq_true.1 h c (List.mem_of_getElem? hc)) (hv i c hc)
  unfold flatV at h
  split at h
  · rename_i cs
    cases hx with
    | tup _ arr hl hv =>
      refine .tup cs arr hl fun i c hc => ?_
      have hq := List.all_eq_true.1 h c (List.mem_of_getElem? hc)
      split at hq
      · exact agg hq (hv i _ hc)
      · exact flat0_any hq (hv i _ hc)
  · exact agg h hx
  · exact flat0_any h hx
end Go.Det

/- Operations one behind the other. -/
set_option linter.unusedVariables false
set_option linter.unusedSimpArgs false
namespace Go.Det
variable {X : Fix} {M : Mem} {φ : Place} {H : List SObj} {w : World} {prog : FuncId → Option DFunc} {R : Run}

theorem bind_mem {α β : Type} {o : Out α} {k : α → Out β} {l : List β} (h : Out.bind o k = some l) : ∃ as, o = some as ∧ ∀ a ∈ as, ∃ m, k a = some m ∧ ∀ x ∈ m, x ∈ l := by
  have flat : ∀ (as : List α) (l : List β), Out.flat k as = some l → ∀ a ∈ as, ∃ m, k a = some m ∧ ∀ x ∈ m, x ∈ l := by
    intro as
    induction as with
    | nil => intro l h a ha; cases ha
    | cons a as ih =>
      intro l h a' ha
      simp only [Out.flat] at h
      split at h
      · cases h
      · rename_i m hm
        split at h
        · cases h
        · rename_i m' hm'
          injection h with h; subst h
          rcases List.mem_cons.1 ha with rfl | ha
          · exact ⟨m, hm, fun x hx => List.mem_append_left _ hx⟩
          · obtain ⟨q, hq, hx⟩ := ih m' hm' a' ha
            exact ⟨q, hq, fun x h => List.mem_append_right _ (hx x h)⟩
  unfold Out.bind at h
  split at h
  · cases h
  · rename_i a
    exact ⟨[a], rfl, fun a' ha => by rw [List.mem_singleton.1 ha]; exact ⟨l, h, fun x hx => hx⟩⟩
  · rename_i as _
    exact ⟨as, rfl, flat as l h⟩

theorem EnvR.put {env : List SV} {t : Array Value} (hE : EnvR M φ H env t) {v : SV} {x : Value} (hv : SVR M φ H v x) (d : Option Nat) : EnvR M φ H (put env d v) (putT t d x) := by
  cases d with
  | none => exact hE
  | some d =>
    refine ⟨by simp [Det.put, putT, hE.1], fun i u hu => ?_⟩
    simp only [Det.put, putT] at hu ⊢
    rw [Array.getD_eq_getD_getElem?, Array.getElem?_setIfInBounds]
    rw [List.getElem?_set] at hu
    split at hu
    · rename_i e; subst e
      rw [if_pos rfl]
      split at hu
      · rename_i hlt
        injection hu with hu; subst hu
        rw [if_pos (by rw [hE.1]; exact hlt)]; exact hv
      · cases hu
    · rename_i e
      rw [if_neg e, ← Array.getD_eq_getD_getElem?]; exact hE.2 i u hu
theorem undef_sound : SVR M φ H U undef := .f _ _ (.tup [] #[] rfl fun i c hc => by simp at hc)
theorem env_get {env : List SV} {t : Array Value} (hE : EnvR M φ H env t) (n : Nat) : SVR M φ H (env.getD n U) (t.getD n undef) := by
  by_cases h : n < env.length
  · rw [List.getD_eq_getElem?_getD, List.getElem?_eq_getElem h]; exact hE.2 n _ (List.getElem?_eq_getElem h)
  · rw [List.getD_eq_getElem?_getD, List.getElem?_eq_none (by omega), Array.getD_eq_getD_getElem?, Array.getElem?_eq_none (by rw [hE.1]; omega)]; exact undef_sound
/-- What calls come to. -/
structure CallsOk (X : Fix) (prog : FuncId → Option DFunc) (R : Run) : Prop where
  fn : ∀ {f : FuncId} {args : List SV} {H : List SObj} {l : List (SV × List SObj)}, lcallR prog R f args H = some l → ∀ {M φ w} {vals : Array Value}, Rel X M φ H w → vals.size = args.length →
    (∀ i v, args[i]? = some v → SVR M φ H v (vals.getD i undef)) → Good X M φ H w (callFunc f vals) l
  val : ∀ {f : SV} {args : List SV} {H : List SObj} {l : List (SV × List SObj)}, callV prog R f args H = some l → ∀ {M φ w} {x : Value} {vals : Array Value}, Rel X M φ H w → SVR M φ H f x → vals.size = args.length →
    (∀ i v, args[i]? = some v → SVR M φ H v (vals.getD i undef)) → Good X M φ H w (do let d ← Deferred.ofValue x vals; invoke d.target d.args) l
theorem many' {env : List SV} {tm : Array Value} (hR : Rel X M φ H w) (hE : EnvR M φ H env tm) {xs : Array Operand} (h : (xs.toList.map (opd X.c)).all okOpd = true) :
    (xs.map (evalT tm)).size = (mapOpd env (xs.toList.map (opd X.c))).length ∧ ∀ i v, (mapOpd env (xs.toList.map (opd X.c)))[i]? = some v → SVR M φ H v ((xs.map (evalT tm)).getD i undef) := by
  refine ⟨by simp [mapOpd], fun i v hv => ?_⟩
  have := many hR hE h i v hv
  rwa [show (xs.map (evalT tm)).getD i undef = (xs.toList.map (evalT tm)).getD i undef by rw [Array.getD_eq_getD_getElem?, List.getD_eq_getElem?_getD, ← Array.toList_map, Array.getElem?_toList]]
/-- Every operation. -/
theorem evalOp_sound (hC : CallsOk X prog R) {env : List SV} {tm : Array Value} (hR : Rel X M φ H w) (hE : EnvR M φ H env tm) {o : Oper} {l : List (SV × List SObj)} (h : evalOp prog R (compOpOk X.c o.op) env H = some l) :
    Good X M φ H w (execOp (evalT tm) o) l := by
  unfold compOpOk at h
  simp only at h
  split at h
  · rename_i ho
    by_cases h1 : ∃ f xs, compOp X.c o.op = .call f xs
    · obtain ⟨f, xs, e⟩ := h1
      obtain ⟨dst, op, ty, pos, after, guard⟩ := o
      simp only at e h ho
      cases op with
      | call cl =>
        rw [e] at h ho
        simp only [compOp, compCall] at e
        split at e
        · rename_i g hcal
          injection e with e1 e2; subst e1; subst e2
          obtain ⟨m1, m2⟩ := many' hR hE ho
          have := hC.fn h hR m1 m2
          have hx : execOp (evalT tm) { dst := dst, op := .call cl, type := ty, pos := pos, after := after, guard := guard } = callFunc g (cl.args.map (evalT tm)) := by
            simp only [execOp, resolve, hcal, evalT, Deferred.ofValue]
            show callFunc g ((#[] ++ cl.args.map (evalT tm)) ++ #[]) = _
            simp
          rw [hx]; exact this
        · cases e
        · cases e
        · rename_i b hb
          split at e
          · unfold lenOp? at e; split at e <;> first | cases e | (split at e <;> cases e)
          · unfold appOp? at e; split at e <;> first | cases e | (split at e <;> first | cases e | (split at e <;> cases e))
          all_goals first | cases e | (split at e <;> first | cases e | (split at e <;> cases e))
      | binOp op t x y ty =>
        exfalso
        have : ∀ op, compEq X.c op t x y ≠ .call f xs := by
          intro op h
          unfold compEq at h
          simp only at h
          split at h <;> first | cases h | (split at h <;> first | cases h | (split at h <;> cases h))
        cases op <;> first | exact this _ e | cases e
      | _ => exfalso; simp only [compOp] at e; first | cases e | (split at e <;> first | cases e | (split at e <;> first | cases e | (split at e <;> first | cases e | (split at e <;> cases e))))
    · by_cases h2 : ∃ f xs, compOp X.c o.op = .callv f xs
      · obtain ⟨f, xs, e⟩ := h2
        obtain ⟨dst, op, ty, pos, after, guard⟩ := o
        simp only at e h ho
        cases op with
        | call cl =>
          rw [e] at h ho
          simp only [compOp, compCall] at e
          split at e
          · cases e
          · rename_i x hnf hcal
            injection e with e1 e2; subst e1; subst e2
            simp only [opds, List.all_cons, Bool.and_eq_true] at ho
            obtain ⟨m1, m2⟩ := many' hR hE ho.2
            have := hC.val h hR (ofEnv hR hE ho.1) m1 m2
            have hx : execOp (evalT tm) { dst := dst, op := .call cl, type := ty, pos := pos, after := after, guard := guard } = (do let d ← Deferred.ofValue (evalT tm x) (cl.args.map (evalT tm)); invoke d.target d.args) := by
              simp only [execOp, resolve, hcal]
            rw [hx]; exact this
          · cases e
          · rename_i b hb
            split at e
            · unfold lenOp? at e; split at e <;> first | cases e | (split at e <;> cases e)
            · unfold appOp? at e; split at e <;> first | cases e | (split at e <;> first | cases e | (split at e <;> cases e))
            all_goals first | cases e | (split at e <;> first | cases e | (split at e <;> cases e))
        | binOp op t x y ty =>
          exfalso
          have : ∀ op, compEq X.c op t x y ≠ .callv f xs := by
            intro op h
            unfold compEq at h
            simp only at h
            split at h <;> first | cases h | (split at h <;> first | cases h | (split at h <;> cases h))
          cases op <;> first | exact this _ e | cases e
        | _ => exfalso; simp only [compOp] at e; first | cases e | (split at e <;> first | cases e | (split at e <;> first | cases e | (split at e <;> first | cases e | (split at e <;> cases e))))
      · exact op_sound hR hE rfl ho h (fun f xs e => h1 ⟨f, xs, e⟩) (fun f xs e => h2 ⟨f, xs, e⟩)
  · cases h
end Go.Det

/- Regions in the text's order. -/
set_option linter.unusedVariables false
set_option linter.unusedSimpArgs false
namespace Go.Det
variable {X : Fix} {M : Mem} {φ : Place} {H : List SObj} {w : World} {prog : FuncId → Option DFunc} {R : Run}

structure Goes (X : Fix) (L : Nat) (M : Mem) (φ : Place) (H : List SObj) (w : World) (s' : St) (t' : Array Value) (w' : World) (M' : Mem) (φ' : Place) : Prop where
  rel : Rel X M' φ' s'.h w'
  env : EnvR M' φ' s'.h s'.env t'
  tr : Trans L M φ H w M' φ' s'.h w'
theorem wanted_sound {env : List SV} {t : Array Value} (hE : EnvR M φ H env t) {ops : Array Oper} {o : Oper} {anc : Nat} {r : Bool} (hb : (compOper X.c ops o anc).op ≠ .bad ∨ (compOper X.c ops o anc).guard ≠ none ∨ o.guard = none) (h : wanted env (compOper X.c ops o anc).guard = some r) :
    Region.wanted o (yielded ops t) = r := by
  unfold compOper at h hb
  unfold Region.wanted
  split at h
  · rename_i hg
    rw [hg]
    simp only [wanted, Option.some.injEq] at h
    exact h
  · rename_i j bb hg
    rw [hg]
    simp only
    split at h
    · rename_i tt ht
      simp only [wanted] at h
      have hv := env_get hE tt
      split at h
      · rename_i c hc
        injection h with h
        rw [hc] at hv
        have hv' := hv.bool'
        have : t[tt]? = some (.bool c) := by
          rw [Array.getD_eq_getD_getElem?] at hv'
          cases hq : t[tt]? with
          | none => rw [hq] at hv'; cases hv'
          | some x => rw [hq] at hv'; simp at hv'; rw [hv']
        have hy : yielded ops t j = some c := by simp [yielded, ht, this]
        rw [hy, ← h]
        cases c <;> cases bb <;> rfl
      · rename_i hc
        injection h with h
        rw [hc] at hv
        have hy : yielded ops t j = none := by
          simp only [yielded, ht, Option.bind_some]
          have hv' := hv.toF
          rw [Array.getD_eq_getD_getElem?] at hv'
          cases hq : t[tt]? with
          | none => rfl
          | some x =>
            rw [hq] at hv'
            simp at hv'
            cases hv'; rfl
        rw [hy, ← h]; rfl
      · cases h
    · rename_i ht
      exfalso
      rw [hg] at hb
      simp only [ht] at hb
      simp at hb
theorem compOper_op {ops : Array Oper} {o : Oper} {anc : Nat} : (compOper X.c ops o anc).dst = o.dst ∧ ((compOper X.c ops o anc).op = compOpOk X.c o.op ∨ (compOper X.c ops o anc).op = .bad) ∧ (compOper X.c ops o anc).anc = anc := by
  unfold compOper
  split
  · exact ⟨rfl, .inl rfl, rfl⟩
  · split
    · exact ⟨rfl, .inl rfl, rfl⟩
    · exact ⟨rfl, .inr rfl, rfl⟩
theorem no_defer {o : Oper} {env : List SV} {H : List SObj} {l : List (SV × List SObj)} (h : evalOp prog R (compOpOk X.c o.op) env H = some l) (c : Call) : o.op ≠ .defer c := by
  intro e
  rw [e] at h
  simp [compOpOk, compOp, opds, evalOp] at h
/-- Guarded or not: what an operation of a region comes to. -/
theorem oper_run (hC : CallsOk X prog R) {env : List SV} {t : Array Value} (hR : Rel X M φ H w) (hE : EnvR M φ H env t) {ops : Array Oper} {o : Oper} {anc : Nat} (hw : wanted env (compOper X.c ops o anc).guard = some true) {l : List (SV × List SObj)} (h : evalOp prog R (compOper X.c ops o anc).op env H = some l) :
    ∃ r ∈ l, ∃ t' w' M' φ', Goes X H.length M φ H w ⟨put env o.dst r.1, r.2⟩ t' w' M' φ' ∧ (∃ v, t' = putT t o.dst v ∧ SVR M' φ' r.2 r.1 v) ∧
      ∀ i, ops[i]? = some o → ∀ (b : Frame) (k : List Item) (cs : List Frame) (d : List Deferred) (rest : List Nat), Steps X.c.p (lone (fat b t d (.inRegion ops (i :: rest) :: k)) cs w) (lone (fat b t' d (.inRegion ops rest :: k)) cs w') := by
  rcases (compOper_op (X := X) (ops := ops) (o := o) (anc := anc)).2.1 with e | e
  · rw [e] at h
    have hW := wanted_sound hE (by
      by_cases hb : (compOper X.c ops o anc).op = .bad
      · rw [← e, hb] at h; cases h
      · exact .inl hb) hw
    obtain ⟨r, hr, v, w', M', φ', h1, h2, h3, h4⟩ := evalOp_sound hC hR hE h
    exact ⟨r, hr, putT t o.dst v, w', M', φ', ⟨h3, (hE.over h4 hE.bel).put h2 _, h4⟩, ⟨v, rfl, h2⟩, fun i ho b k cs d rest => m_runs ho hW (no_defer h) h1⟩
  · rw [e] at h; cases h
theorem oper_skip {env : List SV} {t : Array Value} (hR : Rel X M φ H w) (hE : EnvR M φ H env t) {ops : Array Oper} {o : Oper} {anc : Nat} (hw : wanted env (compOper X.c ops o anc).guard = some false) :
    EnvR M φ H (put env o.dst U) (putT t o.dst undef) ∧ ∀ i, ops[i]? = some o → ∀ (b : Frame) (k : List Item) (cs : List Frame) (d : List Deferred) (rest : List Nat), Steps X.c.p (lone (fat b t d (.inRegion ops (i :: rest) :: k)) cs w) (lone (fat b (putT t o.dst undef) d (.inRegion ops rest :: k)) cs w) := by
  have hW := wanted_sound hE (by
    by_cases hg : (compOper X.c ops o anc).guard = none
    · rw [hg] at hw; simp [wanted] at hw
    · exact .inr (.inl hg)) hw
  exact ⟨hE.put undef_sound _, fun i ho b k cs d rest => .one (m_op_skip ho hW)⟩
theorem oper_sound (hC : CallsOk X prog R) {s : St} {t : Array Value} (hR : Rel X M φ s.h w) (hE : EnvR M φ s.h s.env t) {ops : Array Oper} {o : Oper} {anc : Nat} {outs : List St} (h : evalOper prog R (compOper X.c ops o anc) s = some outs) :
    ∃ s' ∈ outs, ∃ t' w' M' φ', Goes X s.h.length M φ s.h w s' t' w' M' φ' ∧
      ∀ i, ops[i]? = some o → ∀ (b : Frame) (k : List Item) (cs : List Frame) (d : List Deferred) (rest : List Nat), Steps X.c.p (lone (fat b t d (.inRegion ops (i :: rest) :: k)) cs w) (lone (fat b t' d (.inRegion ops rest :: k)) cs w') := by
  unfold evalOper at h
  have hdst := (compOper_op (X := X) (ops := ops) (o := o) (anc := anc)).1
  split at h
  · rename_i hw
    obtain ⟨as, ha, hm⟩ := bind_mem h
    obtain ⟨r, hr, t', w', M', φ', h1, _, h2⟩ := oper_run hC hR hE hw ha
    obtain ⟨m, e, hx⟩ := hm r hr
    injection e with e; subst e
    rw [hdst] at hx
    exact ⟨_, hx _ (List.mem_singleton.2 rfl), t', w', M', φ', h1, h2⟩
  · rename_i hw
    injection h with h; subst h
    rw [hdst]
    obtain ⟨h1, h2⟩ := oper_skip hR hE hw
    exact ⟨_, List.mem_singleton.2 rfl, _, w, M, φ, ⟨hR, h1, Trans.refl (Nat.le_refl _)⟩, h2⟩
  · cases h
/-- The list of operations stands for a list of numbers. -/
inductive Listed (X : Fix) (ops : Array Oper) : List Nat → List DOper → Prop
  | nil : Listed X ops [] []
  | cons {i : Nat} {o : Oper} {anc : Nat} {is : List Nat} {ds : List DOper} (ho : ops[i]? = some o) (h : Listed X ops is ds) : Listed X ops (i :: is) (compOper X.c ops o anc :: ds)
theorem ops_sound (hC : CallsOk X prog R) {ops : Array Oper} : ∀ {is : List Nat} {ds : List DOper}, Listed X ops is ds → ∀ {M φ w} {s : St} {t : Array Value} {outs : List St}, Rel X M φ s.h w → EnvR M φ s.h s.env t → evalOps prog R ds s = some outs →
    ∃ s' ∈ outs, ∃ t' w' M' φ', Goes X s.h.length M φ s.h w s' t' w' M' φ' ∧ ∀ (b : Frame) (k : List Item) (cs : List Frame) (d : List Deferred), Steps X.c.p (lone (fat b t d (.inRegion ops is :: k)) cs w) (lone (fat b t' d (.inRegion ops [] :: k)) cs w') := by
  intro is ds hl
  induction hl with
  | nil =>
    intro M φ w s t outs hR hE h
    injection h with h; subst h
    exact ⟨s, List.mem_singleton.2 rfl, t, w, M, φ, ⟨hR, hE, Trans.refl (Nat.le_refl _)⟩, fun b k cs d => .refl _ _⟩
  | cons ho hl ih =>
    intro M φ w s t outs hR hE h
    obtain ⟨as, ha, hm⟩ := bind_mem h
    obtain ⟨s1, hs1, t1, w1, M1, φ1, g1, st1⟩ := oper_sound hC hR hE ha
    obtain ⟨m, e, hx⟩ := hm s1 hs1
    obtain ⟨s2, hs2, t2, w2, M2, φ2, g2, st2⟩ := ih g1.rel g1.env e
    exact ⟨s2, hx _ hs2, t2, w2, M2, φ2, ⟨g2.rel, g2.env, g1.tr.trans (g2.tr.weaken g1.tr.len)⟩, fun b k cs d => (st1 _ ho b k cs d _).trans (st2 b k cs d)⟩
theorem opers_get (ops : Array Oper) : ∀ (l : List Oper) (as : List Nat) (i : Nat), l = ops.toList.drop i → as.length = l.length → Listed X ops (List.range' i l.length) (opers X.c ops l as)
  | [], [], i, _, _ => .nil
  | [], _ :: _, i, _, h => by simp at h
  | _ :: _, [], i, _, h => by simp at h
  | o :: l, a :: as, i, he, h => by
    have ho : ops[i]? = some o := by
      have := congrArg (·[0]?) he
      simp at this
      exact this.symm
    have : l = ops.toList.drop (i + 1) := by rw [← List.tail_drop, ← he]; rfl
    show Listed X ops (List.range' i (l.length + 1)) (compOper X.c ops o a :: opers X.c ops l as)
    rw [List.range'_succ]
    exact .cons ho (opers_get ops l as (i + 1) this (by simpa using h))
theorem region_sound (hC : CallsOk X prog R) {ops : Array Oper} {s : St} {t : Array Value} {outs : List St} (hR : Rel X M φ s.h w) (hE : EnvR M φ s.h s.env t) (h : evalOps prog R (opers X.c ops ops.toList (List.replicate ops.size 0)) s = some outs) :
    ∃ s' ∈ outs, ∃ t' w' M' φ', Goes X s.h.length M φ s.h w s' t' w' M' φ' ∧ ∀ (b : Frame) (k : List Item) (cs : List Frame) (d : List Deferred) (id : Nat), Steps X.c.p (lone (fat b t d (.code (.region id ops false) :: k)) cs w) (lone (fat b t' d k) cs w') := by
  have hl := opers_get (X := X) ops ops.toList (List.replicate ops.size 0) 0 rfl (by simp)
  obtain ⟨s', h1, t', w', M', φ', h2, h3⟩ := ops_sound hC hl hR hE h
  refine ⟨s', h1, t', w', M', φ', h2, fun b k cs d id => .head m_region ?_⟩
  rw [List.range_eq_range', show ops.size = ops.toList.length by simp]
  exact (h3 b k cs d).trans (.one m_region_end)
end Go.Det

/- The orders in which a region may run. -/
set_option linter.unusedVariables false
set_option linter.unusedSimpArgs false
namespace Go.Det

def addS (S : Nat → Bool) (i : Nat) : Nat → Bool := fun j => if j = i then true else S j
/-- An order that the edges permit, behind what S holds. -/
inductive Sched (ops : Array Oper) : (Nat → Bool) → List Nat → Prop
  | done (S) (h : ∀ i, i < ops.size → S i = true) : Sched ops S []
  | step (S) (i : Nat) (o : Oper) (l : List Nat) (ho : ops[i]? = some o) (hn : S i = false) (hp : ∀ e ∈ o.after, Region.binds .any e = true → S e.on = true) (hl : Sched ops (addS S i) l) : Sched ops S (i :: l)
def backOk (ops : Array Oper) : Prop := ∀ (i : Nat) (o : Oper), ops[i]? = some o → ∀ e ∈ o.after, Region.binds .any e = true → e.on < i
def holes (S : Nat → Bool) : Nat → Nat
  | 0 => 0
  | n + 1 => holes S n + (if S n then 0 else 1)
theorem holes_zero {S : Nat → Bool} : ∀ {n : Nat}, holes S n = 0 → ∀ i, i < n → S i = true
  | 0, _, i, hi => by omega
  | n + 1, h, i, hi => by
    simp only [holes] at h
    by_cases e : i = n
    · subst e
      cases hs : S i with
      | true => rfl
      | false => rw [hs] at h; simp at h
    · exact holes_zero (n := n) (by omega) i (by omega)
theorem holes_same {S S' : Nat → Bool} : ∀ {n : Nat}, (∀ i, i < n → S i = S' i) → holes S n = holes S' n
  | 0, _ => rfl
  | n + 1, h => by simp only [holes, holes_same (n := n) fun i hi => h i (by omega), h n (by omega)]
theorem holes_add {S : Nat → Bool} {i : Nat} (hn : S i = false) : ∀ {n : Nat}, i < n → holes S n = holes (addS S i) n + 1
  | 0, h => by omega
  | n + 1, h => by
    simp only [holes]
    by_cases e : i = n
    · subst e
      rw [holes_same (S := S) (S' := addS S i) (n := i) fun j hj => by simp [addS, show j ≠ i by omega]]
      simp [addS, hn]
    · rw [holes_add hn (n := n) (by omega)]
      simp only [addS, show n ≠ i by omega, if_false]
      omega
theorem least {S : Nat → Bool} : ∀ (n : Nat), holes S n ≠ 0 → ∃ i, i < n ∧ S i = false ∧ ∀ j, j < i → S j = true
  | 0, h => absurd rfl h
  | n + 1, h => by
    by_cases h0 : holes S n = 0
    · refine ⟨n, by omega, ?_, holes_zero h0⟩
      simp only [holes, h0] at h
      cases hs : S n with
      | true => rw [hs] at h; simp at h
      | false => rfl
    · obtain ⟨i, h1, h2, h3⟩ := least n h0
      exact ⟨i, by omega, h2, h3⟩
theorem mem_ready {ops : Array Oper} {listed : Array Bool} {i : Nat} : i ∈ Region.ready .any ops listed ↔ ∃ o, ops[i]? = some o ∧ listed.getD i true = false ∧ ∀ e ∈ o.after, Region.binds .any e = true → listed.getD e.on false = true := by
  unfold Region.ready
  rw [List.mem_filter, List.mem_range]
  constructor
  · rintro ⟨hi, h⟩
    simp only [Bool.and_eq_true, Bool.not_eq_true'] at h
    refine ⟨ops[i], by simp [hi], h.1, fun e he hb => ?_⟩
    have h2 := h.2
    simp only [Array.getElem?_eq_getElem hi, Option.map_some, Option.getD_some] at h2
    obtain ⟨k, hk, rfl⟩ := Array.getElem_of_mem he
    have := (Array.all_eq_true.1 h2) k hk
    rw [hb] at this; simpa using this
  · rintro ⟨o, ho, hl, hp⟩
    have hi : i < ops.size := (Array.getElem?_eq_some_iff.1 ho).1
    refine ⟨hi, ?_⟩
    simp only [hl, Bool.not_false, Bool.true_and, ho, Option.map_some, Option.getD_some]
    rw [Array.all_eq_true]
    intro k hk
    cases hb : Region.binds .any o.after[k] with
    | false => rfl
    | true => simpa using hp _ (Array.getElem_mem hk) hb
theorem sched_go {ops : Array Oper} (hb : backOk ops) : ∀ (fuel t : Nat) (listed : Array Bool), listed.size = ops.size → holes (fun i => listed.getD i false) ops.size = fuel →
    Sched ops (fun i => listed.getD i false) (Region.linearise.go .any ops fuel t listed [])
  | 0, t, listed, hs, hh => by
    simp only [Region.linearise.go, List.reverse_nil]
    exact .done _ (holes_zero hh)
  | fuel + 1, t, listed, hs, hh => by
    simp only [Region.linearise.go]
    change Sched ops _ (match (Region.ready .any ops listed)[t % (Region.ready .any ops listed).length]? with
      | some i => Region.linearise.go .any ops fuel (t / (Region.ready .any ops listed).length) (listed.setIfInBounds i true) [i]
      | none => [].reverse)
    have hne : ∃ i, i ∈ Region.ready .any ops listed := by
      obtain ⟨i, h1, h2, h3⟩ := least (S := fun i => listed.getD i false) ops.size (by rw [hh]; omega)
      refine ⟨i, mem_ready.2 ⟨ops[i], by simp [h1], ?_, fun e he hbe => h3 _ (hb i _ (by simp [h1]) e he hbe)⟩⟩
      simp only [Array.getD_eq_getD_getElem?] at h2 ⊢
      rw [Array.getElem?_eq_getElem (by omega)] at h2 ⊢
      exact h2
    cases hi : (Region.ready .any ops listed)[t % (Region.ready .any ops listed).length]? with
    | none =>
      exfalso
      obtain ⟨i, hi'⟩ := hne
      have hlen : 0 < (Region.ready .any ops listed).length := List.length_pos_of_mem hi'
      have := Nat.mod_lt t hlen
      rw [List.getElem?_eq_getElem this] at hi; cases hi
    | some i =>
      simp only []
      rw [linearise_go_acc, List.reverse_singleton, List.singleton_append]
      obtain ⟨o, ho, hl, hp⟩ := mem_ready.1 (List.mem_of_getElem? hi)
      have hilt : i < ops.size := (Array.getElem?_eq_some_iff.1 ho).1
      have hil : listed.getD i false = false := by
        simp only [Array.getD_eq_getD_getElem?] at hl ⊢
        rw [Array.getElem?_eq_getElem (by omega)] at hl ⊢
        exact hl
      have heq : (fun j => (listed.setIfInBounds i true).getD j false) = addS (fun j => listed.getD j false) i := by
        funext j
        simp only [addS, Array.getD_eq_getD_getElem?, Array.getElem?_setIfInBounds]
        by_cases e : i = j
        · subst e; simp [show i < listed.size by omega]
        · rw [if_neg e, if_neg (Ne.symm e)]
      refine .step _ i o _ ho hil hp ?_
      rw [← heq]
      refine sched_go hb fuel _ _ (by simp [hs]) ?_
      rw [heq]
      have := holes_add (S := fun j => listed.getD j false) hil hilt
      omega
/-- What the model runs is an order that the edges permit. -/
theorem sched_schedule {ops : Array Oper} (hb : backOk ops) (t : Nat) : Sched ops (fun _ => false) (Region.schedule true ops t) := by
  simp only [Region.schedule, Bool.true_or, if_true, Region.linearise]
  have h0 : (fun i => (Array.replicate ops.size false).getD i false) = fun _ => false := by
    funext i
    simp only [Array.getD_eq_getD_getElem?, Array.getElem?_replicate]
    split <;> rfl
  have hall : ∀ n, holes (fun _ => false) n = n := by
    intro n
    induction n with
    | zero => rfl
    | succ n ih => simp only [holes, ih]; rfl
  have := sched_go hb ops.size t (Array.replicate ops.size false) (by simp) (by rw [h0]; exact hall _)
  rw [h0] at this; exact this
end Go.Det

/- What the check of a region's drawing says. -/
set_option linter.unusedVariables false
set_option linter.unusedSimpArgs false
namespace Go.Det
variable {X : Fix} {prog : FuncId → Option DFunc} {R : Run}

structure DrawOk (X : Fix) (ops : Array Oper) (ds : List DOper) (m : Nat) (anc : Nat → Nat) : Prop where
  le : m ≤ ops.size
  at_ : ∀ i o, ops[i]? = some o → ds[i]? = some (compOper X.c ops o (anc i))
  back : backOk ops
  mask : ∀ i o j, ops[i]? = some o → (anc i).testBit j = true → ∃ e ∈ o.after, Region.binds .any e = true ∧ (j = e.on ∨ (anc e.on).testBit j = true)
  tail : ∀ i j, m ≤ i → i < ops.size → j < i → (anc i).testBit j = true
  once : ∀ i j o o' d, i < m → j < m → ds[i]? = some o → ds[j]? = some o' → o.dst = some d → (i = j ∨ o'.dst ≠ some d) ∧ (d ∈ dlooks o' → (anc j).testBit i = true)
theorem opers_at (ops : Array Oper) : ∀ (l : List Oper) (as : List Nat) (k : Nat), l = ops.toList.drop k → as.length = l.length → ∀ (i : Nat) (o : Oper) (a : Nat), l[i]? = some o → as[i]? = some a → (opers X.c ops l as)[i]? = some (compOper X.c ops o a)
  | [], _, _, _, _, i, o, a, h, _ => by simp at h
  | _ :: _, [], _, _, h, _, _, _, _, _ => by simp at h
  | o0 :: l, a0 :: as, k, he, h, i, o, a, ho, ha => by
    cases i with
    | zero => simp at ho ha; subst ho; subst ha; rfl
    | succ i =>
      have : l = ops.toList.drop (k + 1) := by rw [← List.tail_drop, ← he]; rfl
      simpa [opers] using opers_at ops l as (k + 1) this (by simpa using h) i o a (by simpa using ho) (by simpa using ha)
theorem fold_mask (anc : Nat → Nat) (j : Nat) : ∀ (l : List Edge) (s : Nat), (l.foldl (fun s e => if Region.binds .any e then s ||| 2 ^ e.on ||| anc e.on else s) s).testBit j = true →
    s.testBit j = true ∨ ∃ e ∈ l, Region.binds .any e = true ∧ (j = e.on ∨ (anc e.on).testBit j = true)
  | [], s, h => .inl h
  | e :: l, s, h => by
    simp only [List.foldl_cons] at h
    rcases fold_mask anc j l _ h with h1 | ⟨e', he, hb⟩
    · split at h1
      · rename_i hb
        rw [Nat.testBit_or, Nat.testBit_or, Bool.or_eq_true, Bool.or_eq_true] at h1
        rcases h1 with (h1 | h1) | h1
        · exact .inl h1
        · refine .inr ⟨e, List.mem_cons_self, hb, .inl ?_⟩
          rw [Nat.testBit_two_pow] at h1
          exact (of_decide_eq_true h1).symm
        · exact .inr ⟨e, List.mem_cons_self, hb, .inr h1⟩
      · exact .inl h1
    · exact .inr ⟨e', List.mem_cons_of_mem _ he, hb⟩
theorem drawOk_spec {ops : Array Oper} {as : List Nat} {m : Nat} (h : drawOk ops (opers X.c ops ops.toList as) as m = true) : DrawOk X ops (opers X.c ops ops.toList as) m (fun i => as.getD i 0) := by
  unfold drawOk at h
  simp only [Bool.and_eq_true, decide_eq_true_eq] at h
  obtain ⟨⟨⟨⟨⟨h1, h2⟩, h3⟩, h4⟩, h5⟩, h6⟩ := h
  have hat : ∀ i o, ops[i]? = some o → (opers X.c ops ops.toList as)[i]? = some (compOper X.c ops o (as.getD i 0)) := by
    intro i o ho
    have hi : i < ops.size := (Array.getElem?_eq_some_iff.1 ho).1
    refine opers_at ops ops.toList as 0 rfl (by simpa using h2) i o _ (by simpa using ho) ?_
    rw [List.getD_eq_getElem?_getD, List.getElem?_eq_getElem (by omega)]; rfl
  have hzip : ∀ {i : Nat} {o : Oper}, ops[i]? = some o → (o, i) ∈ ops.toList.zipIdx := fun ho => List.mk_mem_zipIdx_iff_getElem?.2 (by simpa using ho)
  refine ⟨h1, hat, fun i o ho e he hb => ?_, fun i o j ho hj => ?_, fun i j hm hi hj => ?_, fun i j o o' d hi hj ho ho' hd => ?_⟩
  · have := List.all_eq_true.1 (List.all_eq_true.1 h3 _ (hzip ho)) e (by simpa using he)
    rw [hb] at this; simpa using this
  · have := List.all_eq_true.1 h4 _ (hzip ho)
    simp only [beq_iff_eq] at this
    have hj : (as.getD i 0).testBit j = true := hj
    rw [this] at hj
    rcases fold_mask (fun k => as.getD k 0) j _ 0 hj with h0 | ⟨e, he, hb⟩
    · simp at h0
    · exact ⟨e, by simpa using he, hb⟩
  · have hi' : i < as.length := by omega
    have := List.all_eq_true.1 h5 (as[i], i) (List.mk_mem_zipIdx_iff_getElem?.2 (List.getElem?_eq_getElem hi'))
    simp only [Bool.or_eq_true, decide_eq_true_eq, beq_iff_eq] at this
    rcases this with h | h
    · omega
    · simp only [List.getD_eq_getElem?_getD, List.getElem?_eq_getElem hi', Option.getD_some]
      have hb : (as[i] % 2 ^ i).testBit j = true := by rw [h, Nat.testBit_two_pow_sub_one]; simpa using hj
      rw [Nat.testBit_mod_two_pow] at hb
      simp only [Bool.and_eq_true] at hb
      exact hb.2
  · have hz : ∀ {k : Nat} {q : DOper}, k < m → (opers X.c ops ops.toList as)[k]? = some q → (q, k) ∈ ((opers X.c ops ops.toList as).take m).zipIdx := fun hk hq => List.mk_mem_zipIdx_iff_getElem?.2 (by rw [List.getElem?_take, if_pos hk]; exact hq)
    have := List.all_eq_true.1 h6 _ (hz hi ho)
    simp only [hd] at this
    have := List.all_eq_true.1 this _ (hz hj ho')
    simp only [Bool.and_eq_true, Bool.or_eq_true, beq_iff_eq, bne_iff_ne, ne_eq, Bool.not_eq_true', List.contains_eq_mem, decide_eq_false_iff_not] at this
    refine ⟨this.1, fun hin => ?_⟩
    rcases this.2 with h | h
    · exact absurd hin h
    · have hj' : j < ops.size := by omega
      have := hat j ops[j] (by simp [hj'])
      rw [ho'] at this
      injection this with this
      rw [this, (compOper_op (X := X)).2.2] at h
      exact h

/-! ### an operation looks at what it looks at -/
theorem get_eq {env env' : List SV} {x : Opd} (h : ∀ n, x = .t n → env.getD n U = env'.getD n U) : get env x = get env' x := by
  cases x with
  | t n => exact h n rfl
  | c v => rfl
  | bad => rfl
theorem mapOpd_eq {env env' : List SV} {xs : List Opd} (h : ∀ x ∈ xs, get env x = get env' x) : mapOpd env xs = mapOpd env' xs := List.map_congr_left h
theorem partsOf_eq {env env' : List SV} {ps : List (Nat × Nat × Opd)} (h : ∀ x ∈ ps.map (·.2.2), get env x = get env' x) : partsOf env ps = partsOf env' ps := by
  unfold partsOf
  refine List.map_congr_left fun p hp => ?_
  obtain ⟨a, b, x⟩ := p
  simp only
  rw [h x (List.mem_map.2 ⟨_, hp, rfl⟩)]
theorem optMap_eq {env env' : List SV} {x : Option Opd} (h : ∀ y ∈ x.toList, get env y = get env' y) : x.map (get env) = x.map (get env') := by
  cases x with
  | none => rfl
  | some y => simp [h y (by simp)]
theorem evalOp_eq {env env' : List SV} {d : DOp} {h : List SObj} (hx : ∀ x ∈ opds d, get env x = get env' x) : evalOp prog R d env h = evalOp prog R d env' h := by
  cases d
  case mkfunc fn xs => simp only [evalOp]; rw [mapOpd_eq (xs := xs) hx]
  case minmax b xs => simp only [evalOp]; rw [mapOpd_eq (xs := xs) hx]
  case call f xs => simp only [evalOp]; rw [mapOpd_eq (xs := xs) hx]
  case callv f xs =>
    simp only [evalOp]
    rw [mapOpd_eq (xs := xs) fun x h => hx x (List.mem_cons_of_mem _ h), hx f List.mem_cons_self]
  case build z ps => simp only [evalOp]; rw [partsOf_eq (ps := ps) hx]
  case mkslice n z ps t e => simp only [evalOp]; rw [partsOf_eq (ps := ps) hx]
  case slice k x lo hi mx =>
    simp only [evalOp]
    rw [hx x (by simp [opds]), optMap_eq (x := lo) fun y hy => hx y (by simp only [opds, List.mem_cons, List.mem_append]; exact .inr (.inl (.inl hy))), optMap_eq (x := hi) fun y hy => hx y (by simp only [opds, List.mem_cons, List.mem_append]; exact .inr (.inl (.inr hy))),
      optMap_eq (x := mx) fun y hy => hx y (by simp only [opds, List.mem_cons, List.mem_append]; exact .inr (.inr hy))]
  all_goals simp only [opds, List.mem_cons, List.mem_singleton, forall_eq_or_imp, List.not_mem_nil, false_imp_iff, implies_true, and_true] at hx
  all_goals simp only [evalOp]
  all_goals first | rfl | rw [hx] | (obtain ⟨h1, h2⟩ := hx; rw [h1, h2]) | (obtain ⟨h1, h2, h3⟩ := hx; rw [h1, h2, h3])
theorem neutral_eq {env env' : List SV} {d : DOp} (hx : ∀ x ∈ opds d, get env x = get env' x) : neutral prog env d = neutral prog env' d := by
  cases d
  case mkslice n z ps t e => simp only [neutral]; rw [partsOf_eq (ps := ps) hx]
  case callv f xs => simp only [neutral]; rw [hx f List.mem_cons_self]
  all_goals rfl
theorem outV_same {h : List SObj} {o : Option SV} {l : List (SV × List SObj)} (k : outV h o = some l) : ∀ r ∈ l, r.2 = h := by
  obtain ⟨x, _, rfl⟩ := outV_some k
  intro r hr; rw [List.mem_singleton.1 hr]
theorem lcall_same {f : FuncId} {d : DFunc} {args : List SV} {h : List SObj} {l : List (SV × List SObj)} (hf : prog f = some d) (hl : d.live = false) (he : d.ext = none) (k : lcallR prog R f args h = some l) : ∀ r ∈ l, r.2 = h := by
  unfold lcallR at k
  simp only [hf, he, hl, Bool.false_eq_true, if_false] at k
  split at k
  · cases k
  · split at k
    · cases k
    · split at k
      · injection k with k; subst k
        intro r hr; rw [List.mem_singleton.1 hr]
      · cases k
theorem neutral_same (hext : ∀ f d, prog f = some d → d.live = false → d.ext = none) {env : List SV} {d : DOp} {h : List SObj} {l : List (SV × List SObj)} (hn : neutral prog env d = true) (k : evalOp prog R d env h = some l) : ∀ r ∈ l, r.2 = h := by
  have one : ∀ {v : SV}, some [(v, h)] = some l → ∀ r ∈ l, r.2 = h := by
    intro v e; injection e with e; subst e
    intro r hr; rw [List.mem_singleton.1 hr]
  cases d
  case mkslice n z ps t e =>
    simp only [neutral] at hn
    simp only [evalOp] at k
    split at k
    · cases k
    · rename_i cs hcs
      rw [hcs] at hn
      simp only at hn
      split at k
      · exact one k
      · rename_i hl; rw [hl] at hn; simp at hn
  case call f xs =>
    simp only [neutral] at hn
    split at hn
    · rename_i d hd
      exact lcall_same hd (by simpa using hn) (hext f d hd (by simpa using hn)) k
    · cases hn
  case callv f xs =>
    simp only [neutral] at hn
    simp only [evalOp] at k
    split at hn
    · rename_i g c hg
      rw [hg] at k
      simp only [callV] at k
      split at hn
      · rename_i d hd
        exact lcall_same hd (by simpa using hn) (hext g d hd (by simpa using hn)) k
      · cases hn
    · rename_i g c hg
      rw [hg] at k
      simp only [callV] at k
      split at hn
      · rename_i d hd
        exact lcall_same hd (by simpa using hn) (hext g d hd (by simpa using hn)) k
      · cases hn
    · cases hn
  all_goals simp only [neutral, Bool.false_eq_true] at hn
  all_goals simp only [evalOp] at k
  all_goals first
    | exact one k
    | exact outV_same k
    | (split at k <;> first | exact one k | exact outV_same k | cases k; done)
    | cases k
end Go.Det

/- Regions whose order is open. -/
set_option linter.unusedVariables false
set_option linter.unusedSimpArgs false
namespace Go.Det
variable {X : Fix} {prog : FuncId → Option DFunc} {R : Run}

theorem puts_len : ∀ (F : List DOper) (vs : List SV) (env : List SV), (puts env F vs).length = env.length
  | [], _, env => by simp [puts]
  | _ :: _, [], env => by simp [puts]
  | o :: F, v :: vs, env => by
    simp only [puts]
    rw [puts_len F vs]
    cases o.dst <;> simp [put]
theorem put_other {env : List SV} {dst : Option Nat} {v : SV} {d : Nat} (h : dst ≠ some d) : (put env dst v)[d]? = env[d]? := by
  cases dst with
  | none => rfl
  | some d' =>
    simp only [put]
    rw [List.getElem?_set_ne]
    intro e; exact h (by rw [e])
theorem puts_other : ∀ (F : List DOper) (vs : List SV) (env : List SV) (d : Nat), (∀ o ∈ F, o.dst ≠ some d) → (puts env F vs)[d]? = env[d]?
  | [], _, env, d, _ => by simp [puts]
  | _ :: _, [], env, d, _ => by simp [puts]
  | o :: F, v :: vs, env, d, h => by
    simp only [puts]
    rw [puts_other F vs _ d fun o' ho => h o' (List.mem_cons_of_mem _ ho), put_other (h o List.mem_cons_self)]
theorem puts_at : ∀ (F : List DOper) (vs : List SV) (env : List SV) (i : Nat) (o : DOper) (v : SV) (d : Nat), F[i]? = some o → vs[i]? = some v → o.dst = some d → (∀ (j : Nat) (o' : DOper), F[j]? = some o' → o'.dst = some d → j = i) → (puts env F vs)[d]? = if d < env.length then some v else none
  | [], _, env, i, o, v, d, h, _, _, _ => by simp at h
  | _ :: _, [], env, i, o, v, d, _, h, _, _ => by simp at h
  | o0 :: F, v0 :: vs, env, i, o, v, d, h, hv, hd, hu => by
    simp only [puts]
    cases i with
    | zero =>
      simp at h hv; subst h; subst hv
      rw [puts_other F vs _ d fun o' ho' hd' => by
        obtain ⟨j, hj, rfl⟩ := List.getElem_of_mem ho'
        have := hu (j + 1) F[j] (by simp [hj]) hd'
        omega]
      rw [hd]
      simp only [put]
      rw [List.getElem?_set]
      simp
    | succ i =>
      rw [puts_at F vs _ i o v d (by simpa using h) (by simpa using hv) hd fun j o' ho' hd' => by
        have := hu (j + 1) o' (by simpa using ho') hd'
        omega]
      have : (put env o0.dst v0).length = env.length := by cases o0.dst <;> simp [put]
      rw [this]

/-- One entry of the chain of heaps. -/
def Ent (prog : FuncId → Option DFunc) (R : Run) (F : List DOper) (vs V : List SV) (h : List SObj) (e : Nat × Nat × List SObj) : Prop :=
  ∃ o v, F[e.1]? = some o ∧ vs[e.1]? = some v ∧ o.anc = e.2.1 ∧ wanted V o.guard = some true ∧ neutral prog V o.op = false ∧ evalOp prog R o.op V h = some [(v, e.2.2)]
inductive Ch (prog : FuncId → Option DFunc) (R : Run) (F : List DOper) (vs V : List SV) : Option Nat → List SObj → List (Nat × Nat × List SObj) → Prop
  | nil (last h) : Ch prog R F vs V last h []
  | cons (last : Option Nat) (h : List SObj) (e : Nat × Nat × List SObj) (r) (he : Ent prog R F vs V h e) (hl : ∀ j, last = some j → e.2.1.testBit j = true) (hr : Ch prog R F vs V (some e.1) e.2.2 r) : Ch prog R F vs V last h (e :: r)
/-- What the chain says of each operation. -/
def Told (prog : FuncId → Option DFunc) (V : List SV) (o : DOper) (v : SV) (i : Nat) (hs : List (Nat × Nat × List SObj)) : Prop :=
  (wanted V o.guard = some false ∧ v = U) ∨ (wanted V o.guard = some true ∧ neutral prog V o.op = true) ∨ (wanted V o.guard = some true ∧ neutral prog V o.op = false ∧ ∃ a h', (i, a, h') ∈ hs)
theorem chain_spec {F : List DOper} {vs V : List SV} : ∀ (os : List DOper) (us : List SV) (i : Nat) (last : Option Nat) (h : List SObj) (hs : List (Nat × Nat × List SObj)), os = F.drop i → us = vs.drop i → chain prog R V last i os us h = some hs →
    Ch prog R F vs V last h hs ∧ os.length = us.length ∧ ∀ (k : Nat) (o : DOper) (v : SV), os[k]? = some o → us[k]? = some v → Told prog V o v (i + k) hs
  | [], [], i, last, h, hs, _, _, hc => by
    simp only [chain, Option.some.injEq] at hc; subst hc
    exact ⟨.nil _ _, rfl, fun k o v hk => by simp at hk⟩
  | [], _ :: _, i, last, h, hs, _, _, hc => by simp [chain] at hc
  | _ :: _, [], i, last, h, hs, _, _, hc => by simp [chain] at hc
  | o :: os, u :: us, i, last, h, hs, he, hu, hc => by
    have he' : os = F.drop (i + 1) := by rw [← List.tail_drop, ← he]; rfl
    have hu' : us = vs.drop (i + 1) := by rw [← List.tail_drop, ← hu]; rfl
    have ho : F[i]? = some o := by have := congrArg (·[0]?) he; simpa using this.symm
    have hv : vs[i]? = some u := by have := congrArg (·[0]?) hu; simpa using this.symm
    have push : ∀ hs0, (∀ (k : Nat) (o : DOper) (v : SV), os[k]? = some o → us[k]? = some v → Told prog V o v (i + 1 + k) hs0) → (∀ x ∈ hs0, x ∈ hs) → Told prog V o u i hs → ∀ (k : Nat) (o' : DOper) (v : SV), (o :: os)[k]? = some o' → (u :: us)[k]? = some v → Told prog V o' v (i + k) hs := by
      intro hs0 ih hsub h0 k o' v hk hv
      cases k with
      | zero => simp at hk hv; subst hk; subst hv; exact h0
      | succ k =>
        have := ih k o' v (by simpa using hk) (by simpa using hv)
        rw [show i + 1 + k = i + (k + 1) by omega] at this
        rcases this with h | h | ⟨h1, h2, a, h', h3⟩
        · exact .inl h
        · exact .inr (.inl h)
        · exact .inr (.inr ⟨h1, h2, a, h', hsub _ h3⟩)
    simp only [chain] at hc
    split at hc
    · cases hc
    · rename_i hw
      split at hc
      · rename_i hb
        have hb := sv_beq _ _ hb
        obtain ⟨h1, h2, h3⟩ := chain_spec os us (i + 1) last h hs he' hu' hc
        exact ⟨h1, by simp [h2], push hs h3 (fun x hx => hx) (.inl ⟨hw, hb⟩)⟩
      · cases hc
    · rename_i hw
      split at hc
      · rename_i hn
        obtain ⟨h1, h2, h3⟩ := chain_spec os us (i + 1) last h hs he' hu' hc
        exact ⟨h1, by simp [h2], push hs h3 (fun x hx => hx) (.inr (.inl ⟨hw, hn⟩))⟩
      · rename_i hn
        split at hc
        · rename_i hl
          split at hc
          · rename_i v' h' hev
            split at hc
            · rename_i hb
              have hb := sv_beq _ _ hb
              subst hb
              simp only [Option.map_eq_some_iff] at hc
              obtain ⟨r, hr, rfl⟩ := hc
              obtain ⟨h1, h2, h3⟩ := chain_spec os us (i + 1) (some i) h' r he' hu' hr
              refine ⟨.cons _ _ _ _ ⟨o, u, ho, hv, rfl, hw, by simpa using hn, hev⟩ (fun j hj => ?_) h1, by simp [h2], push r h3 (fun x hx => List.mem_cons_of_mem _ hx) (.inr (.inr ⟨hw, by simpa using hn, _, _, List.mem_cons_self⟩))⟩
              subst hj; exact hl
            · cases hc
          · cases hc
        · cases hc
theorem lastHeap_append (h : List SObj) : ∀ (a b : List (Nat × Nat × List SObj)), lastHeap h (a ++ b) = lastHeap (lastHeap h a) b
  | [], b => rfl
  | (_, _, h') :: a, b => by simp only [List.cons_append, lastHeap]; exact lastHeap_append h' a b
theorem stab_spec {V : List SV} {o : DOper} {i : Nat} {v : SV} : ∀ (pre post : List (Nat × Nat × List SObj)) (done : List Nat) (h : List SObj), stab prog R V o i v done h (pre ++ post) = true → (∀ e ∈ post, o.anc.testBit e.1 = false) → (∀ e ∈ pre, e.2.1.testBit i = false) → (∀ a ∈ done, a.testBit i = false) →
    ∃ h', evalOp prog R o.op V (lastHeap h pre) = some [(v, h')]
  | [], post, done, h, hs, h1, h2, h3 => by
    simp only [List.nil_append] at hs
    unfold stab at hs
    simp only [Bool.and_eq_true] at hs
    have hc : (post.all (fun e => !o.anc.testBit e.1)) = true ∧ (done.all fun a => !a.testBit i) = true := by
      rw [List.all_eq_true, List.all_eq_true]
      exact ⟨fun e he => by rw [h1 e he]; rfl, fun a ha => by rw [h3 a ha]; rfl⟩
    have hs := hs.1
    rw [if_pos hc] at hs
    split at hs
    · rename_i v' h' he
      exact ⟨h', by rw [show lastHeap h [] = h from rfl, he, sv_beq _ _ hs]⟩
    · cases hs
  | (j, a, h') :: pre, post, done, h, hs, h1, h2, h3 => by
    rw [List.cons_append] at hs
    unfold stab at hs
    simp only [Bool.and_eq_true] at hs
    exact stab_spec pre post (a :: done) h' hs.2 h1 (fun e he => h2 e (List.mem_cons_of_mem _ he)) fun b hb => by
      rcases List.mem_cons.1 hb with rfl | hb
      · exact h2 _ List.mem_cons_self
      · exact h3 b hb
theorem stabs_spec {V : List SV} {hs : List (Nat × Nat × List SObj)} {h : List SObj} : ∀ (i : Nat) (os : List DOper) (us : List SV), stabs prog R V hs h i os us = true → ∀ (k : Nat) (o : DOper) (v : SV), os[k]? = some o → us[k]? = some v → wanted V o.guard = some true → neutral prog V o.op = true → stab prog R V o (i + k) v [] h hs = true
  | i, [], us, _, k, o, v, hk, _, _, _ => by simp at hk
  | i, _ :: _, [], _, k, o, v, _, hk, _, _ => by simp at hk
  | i, o0 :: os, u :: us, hs', k, o, v, hk, hv, hw, hn => by
    simp only [stabs, Bool.and_eq_true] at hs'
    cases k with
    | zero =>
      simp at hk hv; subst hk; subst hv
      have := hs'.1
      rw [hw] at this
      simp only [hn, Bool.and_self, if_true] at this
      exact this
    | succ k =>
      have := stabs_spec (i + 1) os us hs'.2 k o v (by simpa using hk) (by simpa using hv) hw hn
      rwa [show i + (k + 1) = i + 1 + k by omega]
theorem textRun_len : ∀ (os : List DOper) (env : List SV) (h : List SObj) (vs : List SV), textRun prog R os env h = some vs → vs.length = os.length
  | [], env, h, vs, e => by simp [textRun] at e; subst e; rfl
  | o :: os, env, h, vs, e => by
    simp only [textRun] at e
    split at e
    · simp only [Option.map_eq_some_iff] at e
      obtain ⟨l, hl, rfl⟩ := e
      simp [textRun_len os _ _ _ hl]
    · split at e
      · simp only [Option.map_eq_some_iff] at e
        obtain ⟨l, hl, rfl⟩ := e
        simp [textRun_len os _ _ _ hl]
      · cases e
    · cases e
end Go.Det

/- A region whose order is open comes to what it does in one order. -/
set_option linter.unusedVariables false
set_option linter.unusedSimpArgs false
namespace Go.Det
variable {X : Fix} {prog : FuncId → Option DFunc} {R : Run}

structure ES (env0 V env' : List SV) (F : List DOper) (S : Nat → Bool) : Prop where
  len : env'.length = V.length
  done : ∀ (i : Nat) (o : DOper) (d : Nat), F[i]? = some o → o.dst = some d → S i = true → env'[d]? = V[d]?
  other : ∀ (d : Nat), (∀ (i : Nat) (o : DOper), F[i]? = some o → o.dst = some d → S i = false) → env'[d]? = env0[d]?
theorem opers_len (ops : Array Oper) : ∀ (l : List Oper) (as : List Nat), as.length = l.length → (opers X.c ops l as).length = l.length
  | [], [], _ => rfl
  | [], _ :: _, h => by simp at h
  | _ :: _, [], h => by simp at h
  | o :: l, a :: as, h => by simp [opers, opers_len ops l as (by simpa using h)]
theorem listed_of {ops : Array Oper} {anc : Nat → Nat} : ∀ (dl : List DOper) (k : Nat), (∀ (i : Nat) (d : DOper), dl[i]? = some d → ∃ o, ops[k + i]? = some o ∧ d = compOper X.c ops o (anc (k + i))) → Listed X ops (List.range' k dl.length) dl
  | [], k, _ => .nil
  | d :: dl, k, h => by
    obtain ⟨o, ho, hd⟩ := h 0 d rfl
    subst hd
    show Listed X ops (List.range' k (dl.length + 1)) _
    rw [List.range'_succ]
    exact .cons ho (listed_of dl (k + 1) fun i d hi => by
      have := h (i + 1) d (by simpa using hi)
      rwa [show k + (i + 1) = k + 1 + i by omega] at this)
theorem Ch.mem {F : List DOper} {vs V : List SV} {last : Option Nat} {h : List SObj} {hs : List (Nat × Nat × List SObj)} (c : Ch prog R F vs V last h hs) : ∀ e ∈ hs, ∃ h, Ent prog R F vs V h e := by
  induction c with
  | nil => intro e he; cases he
  | cons last h e r he hl hr ih =>
    intro e' he'
    rcases List.mem_cons.1 he' with rfl | he'
    · exact ⟨_, he⟩
    · exact ih e' he'
theorem Ch.prev {F : List DOper} {vs V : List SV} {last : Option Nat} {h : List SObj} {hs : List (Nat × Nat × List SObj)} (c : Ch prog R F vs V last h hs) : ∀ e ∈ hs, (∃ j, last = some j ∧ e.2.1.testBit j = true) ∨ (∃ y ∈ hs, e.2.1.testBit y.1 = true) ∨ (last = none ∧ ∃ r, hs = e :: r) := by
  induction c with
  | nil => intro e he; cases he
  | cons last h e r he hl hr ih =>
    intro e' he'
    rcases List.mem_cons.1 he' with rfl | he'
    · cases last with
      | none => exact .inr (.inr ⟨rfl, r, rfl⟩)
      | some j => exact .inl ⟨j, rfl, hl j rfl⟩
    · rcases ih e' he' with ⟨j, hj, hb⟩ | ⟨y, hy, hb⟩ | ⟨hn, _⟩
      · injection hj with hj; subst hj
        exact .inr (.inl ⟨e, List.mem_cons_self, hb⟩)
      · exact .inr (.inl ⟨y, List.mem_cons_of_mem _ hy, hb⟩)
      · cases hn
/-- Behind the free part there is one order. -/
theorem tail_list {ops : Array Oper} {ds : List DOper} {m : Nat} {anc : Nat → Nat} (D : DrawOk X ops ds m anc) {S : Nat → Bool} {l : List Nat} (hs : Sched ops S l) : ∀ k, m ≤ k → k ≤ ops.size → (∀ i, S i = true ↔ i < k) → l = List.range' k (ops.size - k) := by
  induction hs with
  | done S h =>
    intro k hm hk hS
    have : k = ops.size := by
      refine Nat.le_antisymm hk (Nat.le_of_not_lt fun hlt => ?_)
      have := (hS k).1 (h k hlt); omega
    subst this; simp
  | step S i o l ho hn hp hl ih =>
    intro k hm hk hS
    have hi : i < ops.size := (Array.getElem?_eq_some_iff.1 ho).1
    have hki : k ≤ i := Nat.le_of_not_lt fun h => by have := (hS i).2 h; rw [hn] at this; cases this
    have hik : i = k := by
      refine Nat.le_antisymm (Nat.le_of_not_lt fun hlt => ?_) hki
      obtain ⟨e, he, hb, hor⟩ := D.mask i o k ho (D.tail i k (by omega) hi hlt)
      have hSe := hp e he hb
      have hek : e.on < k := (hS _).1 hSe
      rcases hor with h | h
      · omega
      · -- what is ahead of an element below k is below it
        have key : ∀ n j, n < ops.size → (anc n).testBit j = true → j < n := by
          intro n
          induction n using Nat.strongRecOn with
          | _ n ihn =>
            intro j hnl hj
            obtain ⟨e', he', hb', hor'⟩ := D.mask n ops[n] j (by simp [hnl]) hj
            have hlt' := D.back n ops[n] (by simp [hnl]) e' he' hb'
            rcases hor' with h' | h'
            · omega
            · have := ihn e'.on hlt' j (by omega) h'; omega
        have := key e.on k (by omega) h
        omega
    subst hik
    have := ih (i + 1) (by omega) (by omega) fun j => by
      simp only [addS]
      split
      · rename_i e; simp; omega
      · rw [hS]; omega
    rw [this, show ops.size - i = (ops.size - (i + 1)) + 1 by omega, List.range'_succ]
section
variable {ops : Array Oper} {ds : List DOper} {m : Nat} {anc : Nat → Nat} {env0 vs V : List SV} {S : Nat → Bool} {env' : List SV}
theorem take_at (hm : ∀ i, i < m → i < ds.length) {i : Nat} {o : DOper} : (ds.take m)[i]? = some o ↔ i < m ∧ ds[i]? = some o := by
  rw [List.getElem?_take]
  constructor
  · intro h
    split at h
    · exact ⟨by assumption, h⟩
    · cases h
  · rintro ⟨h1, h2⟩; rw [if_pos h1]; exact h2
theorem looks_eq (D : DrawOk X ops ds m anc) (hV : V = puts env0 (ds.take m) vs) (E : ES env0 V env' (ds.take m) S) {i : Nat} {o : DOper} (hi : i < m) (ho : ds[i]? = some o) (hS : ∀ j, (anc i).testBit j = true → S j = true) : ∀ n ∈ dlooks o, env'.getD n U = V.getD n U := by
  intro n hn
  rw [List.getD_eq_getElem?_getD, List.getD_eq_getElem?_getD]
  by_cases hq : ∃ (j : Nat) (o' : DOper), (ds.take m)[j]? = some o' ∧ o'.dst = some n
  · obtain ⟨j, o', hj, hd⟩ := hq
    have hj' : j < m ∧ ds[j]? = some o' := by
      rw [List.getElem?_take] at hj
      split at hj
      · exact ⟨by assumption, hj⟩
      · cases hj
    rw [E.done j o' n hj hd (hS j ((D.once j i o' o n hj'.1 hi hj'.2 ho hd).2 hn))]
  · rw [E.other n fun j o' hj hd => absurd ⟨j, o', hj, hd⟩ hq, hV, puts_other _ _ _ _ fun o' ho' hd => by
      obtain ⟨j, hj, rfl⟩ := List.getElem_of_mem ho'
      exact hq ⟨j, _, List.getElem?_eq_getElem hj, hd⟩]
theorem opds_eq {o : DOper} (h : ∀ n ∈ dlooks o, env'.getD n U = V.getD n U) : (∀ x ∈ opds o.op, get env' x = get V x) ∧ wanted env' o.guard = wanted V o.guard := by
  refine ⟨fun x hx => get_eq fun n hn => h n ?_, ?_⟩
  · subst hn
    exact List.mem_append_left _ (List.mem_filterMap.2 ⟨_, hx, rfl⟩)
  · cases hg : o.guard with
    | none => rfl
    | some g =>
      obtain ⟨t, b⟩ := g
      simp only [wanted]
      rw [h t (List.mem_append_right _ (by rw [hg]; exact List.mem_singleton.2 rfl))]
theorem ES.put (D : DrawOk X ops ds m anc) (hV : V = puts env0 (ds.take m) vs) (E : ES env0 V env' (ds.take m) S) {i : Nat} {o : DOper} {v : SV} (hi : i < m) (ho : ds[i]? = some o) (hv : vs[i]? = some v) : ES env0 V (Det.put env' o.dst v) (ds.take m) (addS S i) := by
  have hat : ∀ {j : Nat} {o' : DOper}, (ds.take m)[j]? = some o' → j < m ∧ ds[j]? = some o' := by
    intro j o' hj
    rw [List.getElem?_take] at hj
    split at hj
    · exact ⟨by assumption, hj⟩
    · cases hj
  have hF : (ds.take m)[i]? = some o := by rw [List.getElem?_take, if_pos hi]; exact ho
  refine ⟨by cases o.dst <;> simp [Det.put, E.len], fun j o' d hj hd hSj => ?_, fun d hall => ?_⟩
  · obtain ⟨j1, j2⟩ := hat hj
    by_cases hij : j = i
    · subst hij
      rw [ho] at j2; injection j2 with j2; subst j2
      rw [hV, puts_at _ _ _ j o v d hF hv hd fun k o' hk hd' => by
        obtain ⟨k1, k2⟩ := hat hk
        rcases (D.once j k o o' d hi k1 ho k2 hd).1 with h | h
        · exact h.symm
        · exact absurd hd' h]
      rw [hd]
      simp only [Det.put, List.getElem?_set]
      have hl : env'.length = env0.length := by rw [E.len, hV, puts_len]
      simp [hl]
    · have hne : o.dst ≠ some d := by
        rcases (D.once j i o' o d j1 hi j2 ho hd).1 with h | h
        · exact absurd h hij
        · exact h
      rw [put_other hne]
      refine E.done j o' d hj hd ?_
      simpa [addS, hij] using hSj
  · have hne : o.dst ≠ some d := fun h => by
      have := hall i o hF h
      simp [addS] at this
    rw [put_other hne]
    refine E.other d fun j o' hj hd => ?_
    have := hall j o' hj hd
    by_cases hij : j = i
    · subst hij; simp [addS] at this
    · simpa [addS, hij] using this
theorem ES.full (E : ES env0 V env' (ds.take m) S) (hV : V = puts env0 (ds.take m) vs) (h : ∀ i, i < m → S i = true) : env' = V := by
  refine List.ext_getElem? fun d => ?_
  by_cases hq : ∃ (j : Nat) (o' : DOper), (ds.take m)[j]? = some o' ∧ o'.dst = some d
  · obtain ⟨j, o', hj, hd⟩ := hq
    refine E.done j o' d hj hd (h j ?_)
    rw [List.getElem?_take] at hj
    split at hj
    · assumption
    · cases hj
  · rw [E.other d fun j o' hj hd => absurd ⟨j, o', hj, hd⟩ hq, hV, puts_other _ _ _ _ fun o' ho' hd => by
      obtain ⟨j, hj, rfl⟩ := List.getElem_of_mem ho'
      exact hq ⟨j, _, List.getElem?_eq_getElem hj, hd⟩]
end
theorem draw_go (hC : CallsOk X prog R) (hext : ∀ f d, prog f = some d → d.live = false → d.ext = none) {ops : Array Oper} {ds : List DOper} {m : Nat} {anc : Nat → Nat} (D : DrawOk X ops ds m anc) (hlen : ds.length = ops.size) {env0 vs V : List SV} {h0 : List SObj} {hs : List (Nat × Nat × List SObj)}
    (hV : V = puts env0 (ds.take m) vs) (hvl : vs.length = (ds.take m).length) (hT : ∀ (k : Nat) (o : DOper) (v : SV), (ds.take m)[k]? = some o → vs[k]? = some v → Told prog V o v k hs) (hSt : ∀ (k : Nat) (o : DOper) (v : SV), (ds.take m)[k]? = some o → vs[k]? = some v → wanted V o.guard = some true → neutral prog V o.op = true → stab prog R V o k v [] h0 hs = true)
    {outs : List St} (hout : evalOps prog R (ds.drop m) ⟨V, lastHeap h0 hs⟩ = some outs) {S : Nat → Bool} {l : List Nat} (hsch : Sched ops S l) :
    (∀ i, m ≤ i → S i = false) → (∀ i, S i = true → ∀ j, (anc i).testBit j = true → S j = true) → ∀ pre post, hs = pre ++ post → (∀ e ∈ pre, S e.1 = true) → (∀ e ∈ post, S e.1 = false) → (∀ e ∈ pre, e.2.1 = anc e.1) → (∃ last, (∀ j, last = some j → S j = true) ∧ Ch prog R (ds.take m) vs V last (lastHeap h0 pre) post) →
    ∀ {env' : List SV} {M φ w} {t : Array Value}, ES env0 V env' (ds.take m) S → Rel X M φ (lastHeap h0 pre) w → EnvR M φ (lastHeap h0 pre) env' t →
    ∃ s' ∈ outs, ∃ t' w' M' φ', Goes X (lastHeap h0 pre).length M φ (lastHeap h0 pre) w s' t' w' M' φ' ∧ ∀ (b : Frame) (k : List Item) (cs : List Frame) (d : List Deferred), Steps X.c.p (lone (fat b t d (.inRegion ops l :: k)) cs w) (lone (fat b t' d (.inRegion ops [] :: k)) cs w') := by
  have hF : ∀ {i : Nat} {o : DOper}, (ds.take m)[i]? = some o → i < m ∧ ds[i]? = some o := by
    intro i o h
    rw [List.getElem?_take] at h
    split at h
    · exact ⟨by assumption, h⟩
    · cases h
  have full : ∀ (S : Nat → Bool) (l : List Nat), Sched ops S l → (∀ i, m ≤ i → S i = false) → (∀ i, i < m → S i = true) → ∀ pre post, hs = pre ++ post → (∀ e ∈ post, S e.1 = false) → (∃ last, (∀ j, last = some j → S j = true) ∧ Ch prog R (ds.take m) vs V last (lastHeap h0 pre) post) →
      ∀ {env' : List SV} {M φ w} {t : Array Value}, ES env0 V env' (ds.take m) S → Rel X M φ (lastHeap h0 pre) w → EnvR M φ (lastHeap h0 pre) env' t →
      ∃ s' ∈ outs, ∃ t' w' M' φ', Goes X (lastHeap h0 pre).length M φ (lastHeap h0 pre) w s' t' w' M' φ' ∧ ∀ (b : Frame) (k : List Item) (cs : List Frame) (d : List Deferred), Steps X.c.p (lone (fat b t d (.inRegion ops l :: k)) cs w) (lone (fat b t' d (.inRegion ops [] :: k)) cs w') := by
    intro S l hsch hge hlt pre post hsp hpost hch env' M φ w t E hR hE
    have hpn : post = [] := by
      cases post with
      | nil => rfl
      | cons e r =>
        obtain ⟨last, _, c⟩ := hch
        obtain ⟨_, o, v, ho, _⟩ := c.mem e List.mem_cons_self
        have := hlt e.1 (hF ho).1
        rw [hpost e List.mem_cons_self] at this; cases this
    subst hpn
    rw [List.append_nil] at hsp; subst hsp
    have hev := E.full hV hlt; subst hev
    have hl := tail_list D hsch m (Nat.le_refl _) D.le fun i => by
      by_cases h : i < m
      · simp [h, hlt i h]
      · simp [h, hge i (by omega)]
    have hlist : Listed X ops (List.range' m (ds.drop m).length) (ds.drop m) := listed_of (anc := anc) (ds.drop m) m fun i d hd => by
      rw [List.getElem?_drop] at hd
      have hi : m + i < ops.size := by rw [← hlen]; exact (List.getElem?_eq_some_iff.1 hd).1
      have := D.at_ (m + i) ops[m + i] (by simp [hi])
      rw [hd] at this; injection this with this
      exact ⟨ops[m + i], by simp [hi], this⟩
    rw [List.length_drop, hlen, ← hl] at hlist
    obtain ⟨s', h1, t', w', M', φ', h2, h3⟩ := ops_sound hC hlist hR hE hout
    exact ⟨s', h1, t', w', M', φ', h2, h3⟩
  induction hsch with
  | done S h =>
    intro hge hcl pre post hsp hpre hpost hanc hch env' M φ w t E hR hE
    exact full S [] (.done S h) hge (fun i hi => h i (Nat.lt_of_lt_of_le hi D.le)) pre post hsp hpost hch E hR hE
  | step S i o l ho hn hp hl ih =>
    intro hge hcl pre post hsp hpre hpost hanc hch env' M φ w t E hR hE
    by_cases hfull : ∀ j, j < m → S j = true
    · exact full S (i :: l) (.step S i o l ho hn hp hl) hge hfull pre post hsp hpost hch E hR hE
    have hancS : ∀ j, (anc i).testBit j = true → S j = true := by
      intro j hj
      obtain ⟨e, he, hb, hor⟩ := D.mask i o j ho hj
      rcases hor with h | h
      · rw [h]; exact hp e he hb
      · exact hcl e.on (hp e he hb) j h
    have hilt : i < ops.size := (Array.getElem?_eq_some_iff.1 ho).1
    have him : i < m := Nat.lt_of_not_le fun hle => hfull fun j hj => hancS j (D.tail i j hle hilt (by omega))
    have hds := D.at_ i o ho
    have hFi : (ds.take m)[i]? = some (compOper X.c ops o (anc i)) := by rw [List.getElem?_take, if_pos him]; exact hds
    have hil : i < (ds.take m).length := (List.getElem?_eq_some_iff.1 hFi).1
    have hvi : vs[i]? = some vs[i] := List.getElem?_eq_getElem (by omega)
    generalize vs[i] = v at hvi
    have hlk := looks_eq D hV E him hds hancS
    obtain ⟨hopd, hwt⟩ := opds_eq hlk
    have hdst := (compOper_op (X := X) (ops := ops) (o := o) (anc := anc i)).1
    have hancd := (compOper_op (X := X) (ops := ops) (o := o) (anc := anc i)).2.2
    have E' := E.put D hV him hds hvi
    rw [hdst] at E'
    have hge' : ∀ j, m ≤ j → addS S i j = false := fun j hj => by simp [addS, show j ≠ i by omega, hge j hj]
    have hcl' : ∀ k, addS S i k = true → ∀ j, (anc k).testBit j = true → addS S i j = true := by
      intro k hk j hj
      simp only [addS] at hk ⊢
      split
      · rfl
      · split at hk
        · rename_i e; subst e; exact hancS j hj
        · exact hcl k hk j hj
    have hpreS : ∀ {j : Nat}, S j = true → addS S i j = true := fun h => by simp only [addS]; split <;> first | rfl | exact h
    obtain ⟨last, hlast, c⟩ := hch
    rcases hT i _ v hFi hvi with ⟨hw, hvU⟩ | ⟨hw, hneu⟩ | ⟨hw, hneu, a, h', hin⟩
    · -- not wanted
      subst hvU
      obtain ⟨g1, g2⟩ := oper_skip hR hE (ops := ops) (o := o) (anc := anc i) (by rw [hwt]; exact hw)
      have hpost' : ∀ e ∈ post, addS S i e.1 = false := by
        intro e he
        have hne : e.1 ≠ i := fun h => by
          obtain ⟨_, o2, v2, q1, q2, q3, q4, _⟩ := c.mem e he
          rw [h, hFi] at q1; injection q1 with q1; subst q1
          rw [hw] at q4; cases q4
        simp [addS, hne, hpost e he]
      obtain ⟨s', r1, t', w', M', φ', r2, r3⟩ := ih hge' hcl' pre post hsp (fun e he => hpreS (hpre e he)) hpost' hanc ⟨last, fun j hj => hpreS (hlast j hj), c⟩ E' hR g1
      exact ⟨s', r1, t', w', M', φ', r2, fun b k cs d => (g2 i ho b k cs d l).trans (r3 b k cs d)⟩
    · -- the heap stays
      have hst := hSt i _ v hFi hvi hw hneu
      rw [hsp] at hst
      obtain ⟨h', hev⟩ := stab_spec pre post [] h0 hst (fun e he => by
        rw [hancd]
        cases hb : (anc i).testBit e.1 with
        | false => rfl
        | true => have := hancS _ hb; rw [hpost e he] at this; cases this) (fun e he => by
        rw [hanc e he]
        cases hb : (anc e.1).testBit i with
        | false => rfl
        | true => have := hcl e.1 (hpre e he) i hb; rw [hn] at this; cases this) (fun a ha => by cases ha)
      have hh := neutral_same hext hneu hev _ (List.mem_singleton.2 rfl)
      simp only at hh; subst hh
      rw [← evalOp_eq hopd] at hev
      obtain ⟨r, hr, t1, w1, M1, φ1, g1, ⟨x, _, _⟩, g2⟩ := oper_run hC hR hE (ops := ops) (o := o) (anc := anc i) (by rw [hwt]; exact hw) hev
      rw [List.mem_singleton.1 hr] at g1
      have hpost' : ∀ e ∈ post, addS S i e.1 = false := by
        intro e he
        have hne : e.1 ≠ i := fun h => by
          obtain ⟨_, o2, v2, q1, q2, q3, q4, q5, _⟩ := c.mem e he
          rw [h, hFi] at q1; injection q1 with q1; subst q1
          rw [hneu] at q5; cases q5
        simp [addS, hne, hpost e he]
      obtain ⟨s', r1, t', w', M', φ', r2, r3⟩ := ih hge' hcl' pre post hsp (fun e he => hpreS (hpre e he)) hpost' hanc ⟨last, fun j hj => hpreS (hlast j hj), c⟩ E' g1.rel g1.env
      exact ⟨s', r1, t', w', M', φ', ⟨r2.rel, r2.env, g1.tr.trans r2.tr⟩, fun b k cs d => (g2 i ho b k cs d l).trans (r3 b k cs d)⟩
    · -- the heap is turned
      have hinp : (i, a, h') ∈ post := by
        rw [hsp] at hin
        rcases List.mem_append.1 hin with h | h
        · have := hpre _ h; rw [hn] at this; cases this
        · exact h
      have hai : a = anc i := by
        obtain ⟨_, o2, v2, q1, q2, q3, _⟩ := c.mem _ hinp
        rw [hFi] at q1; injection q1 with q1; subst q1
        rw [hancd] at q3; exact q3.symm
      subst hai
      cases c with
      | nil => cases hinp
      | cons _ _ e r he hl' hr =>
        have hhead : e = (i, anc i, h') := by
          rcases List.mem_cons.1 hinp with h | h
          · exact h.symm
          · exfalso
            rcases hr.prev _ h with ⟨j, hj, hb⟩ | ⟨y, hy, hb⟩ | ⟨hnn, _⟩
            · injection hj with hj; subst hj
              have := hancS _ hb
              rw [hpost e List.mem_cons_self] at this; cases this
            · have := hancS _ hb
              rw [hpost y (List.mem_cons_of_mem _ hy)] at this; cases this
            · cases hnn
        subst hhead
        obtain ⟨o2, v2, q1, q2, q3, q4, q5, hev⟩ := he
        simp only at q1 q2 hev
        rw [hFi] at q1; injection q1 with q1; subst q1
        rw [hvi] at q2; injection q2 with q2; subst q2
        rw [← evalOp_eq hopd] at hev
        obtain ⟨rr, hrr, t1, w1, M1, φ1, g1, ⟨x, _, _⟩, g2⟩ := oper_run hC hR hE (ops := ops) (o := o) (anc := anc i) (by rw [hwt]; exact hw) hev
        rw [List.mem_singleton.1 hrr] at g1
        have hlh : lastHeap h0 (pre ++ [(i, anc i, h')]) = h' := by rw [lastHeap_append]; rfl
        have hpost' : ∀ e ∈ r, addS S i e.1 = false := by
          intro e he'
          have hne : e.1 ≠ i := fun h => by
            rcases hr.prev _ he' with ⟨j, hj, hb⟩ | ⟨y, hy, hb⟩ | ⟨hnn, _⟩
            · injection hj with hj
              obtain ⟨_, o3, v3, u1, u2, u3, _⟩ := hr.mem _ he'
              rw [h, hFi] at u1; injection u1 with u1; subst u1
              rw [hancd] at u3
              rw [← u3] at hb
              have := hancS _ hb
              rw [← hj] at this
              simp only at this
              rw [hn] at this; cases this
            · obtain ⟨_, o3, v3, u1, u2, u3, _⟩ := hr.mem _ he'
              rw [h, hFi] at u1; injection u1 with u1; subst u1
              rw [hancd] at u3
              rw [← u3] at hb
              have := hancS _ hb
              rw [hpost y (List.mem_cons_of_mem _ hy)] at this; cases this
            · cases hnn
          simp [addS, hne, hpost e (List.mem_cons_of_mem _ he')]
        have hgo := ih hge' hcl' (pre ++ [(i, anc i, h')]) r (by rw [hsp]; simp) (fun e he => by
          rcases List.mem_append.1 he with h | h
          · exact hpreS (hpre e h)
          · rw [List.mem_singleton.1 h]; simp [addS]) hpost' (fun e he => by
          rcases List.mem_append.1 he with h | h
          · exact hanc e h
          · rw [List.mem_singleton.1 h]) ⟨some i, fun j hj => by injection hj with hj; subst hj; simp [addS], by rw [hlh]; exact hr⟩ (M := M1) (φ := φ1) (w := w1) (t := t1) E'
        rw [hlh] at hgo
        obtain ⟨s', r1, t', w', M', φ', r2, r3⟩ := hgo g1.rel g1.env
        exact ⟨s', r1, t', w', M', φ', ⟨r2.rel, r2.env, g1.tr.trans (r2.tr.weaken g1.tr.len)⟩, fun b k cs d => (g2 i ho b k cs d l).trans (r3 b k cs d)⟩
/-- A region whose order is open. -/
theorem draw_sound (hC : CallsOk X prog R) (hext : ∀ f d, prog f = some d → d.live = false → d.ext = none) (hmix : X.c.p.follows .mixedOrders = true) {ops : Array Oper} {as : List Nat} {m : Nat} (hk : drawOk ops (opers X.c ops ops.toList as) as m = true) {s : St} {M φ w} {t : Array Value} {outs : List St}
    (hR : Rel X M φ s.h w) (hE : EnvR M φ s.h s.env t) (h : evalDraw prog R m (opers X.c ops ops.toList as) s = some outs) (fn : FuncId) (id : Nat) :
    ∃ s' ∈ outs, ∃ t' w' M' φ', Goes X s.h.length M φ s.h w s' t' w' M' φ' ∧ ∀ (b : Frame) (k : List Item) (cs : List Frame) (d : List Deferred), b.fn = fn → Steps X.c.p (lone (fat b t d (.code (.region id ops true) :: k)) cs w) (lone (fat b t' d k) cs w') := by
  have D := drawOk_spec hk
  have hlen : (opers X.c ops ops.toList as).length = ops.size := by
    have : as.length = ops.size := by
      unfold drawOk at hk
      simp only [Bool.and_eq_true, decide_eq_true_eq] at hk
      exact hk.1.1.1.1.2
    rw [opers_len ops _ _ (by simpa using this)]; simp
  generalize opers X.c ops ops.toList as = ds at D hlen h
  unfold evalDraw at h
  split at h
  · cases h
  · rename_i vs hvs
    simp only at h
    split at h
    · cases h
    · rename_i hs hch
      split at h
      · rename_i hst
        have hvl := textRun_len _ _ _ _ hvs
        obtain ⟨c1, c2, c3⟩ := chain_spec (F := ds.take m) (vs := vs) (ds.take m) vs 0 none s.h hs rfl rfl hch
        have hsched := sched_schedule D.back (w.tape w.drawn (.order fn id))
        obtain ⟨s', r1, t', w', M', φ', r2, r3⟩ := draw_go hC hext D hlen (env0 := s.env) (h0 := s.h) rfl hvl (fun k o v hk hv => by have := c3 k o v hk hv; rwa [Nat.zero_add] at this) (fun k o v hk hv hw hn => by
            have := stabs_spec 0 _ _ hst k o v hk hv hw hn
            rwa [Nat.zero_add] at this) h hsched (fun _ _ => rfl) (fun _ h => nomatch h) [] hs rfl (fun e he => by cases he) (fun _ _ => rfl) (fun e he => by cases he) ⟨none, (fun j hj => nomatch hj), c1⟩
            (env' := s.env) (M := M) (φ := φ) (w := { w with drawn := w.drawn + 1 }) (t := t)
            ⟨by rw [puts_len], (fun _ _ _ _ _ h => nomatch h), fun _ _ => rfl⟩ (hR.drawn _) hE
        refine ⟨s', r1, t', w', M', φ', ⟨r2.rel, r2.env, (Trans.drawn (Nat.le_refl _) _).trans r2.tr⟩, fun b k cs d hb => .head m_region_draw ?_⟩
        rw [hb, hmix]
        exact (r3 b k cs d).trans (.one m_region_end)
      · cases h
end Go.Det

/- Code, and how it is left. -/
set_option linter.unusedVariables false
set_option linter.unusedSimpArgs false
namespace Go.Det
variable {X : Fix} {prog : FuncId → Option DFunc} {R : Run} {M : Mem} {φ : Place} {H : List SObj} {w : World}

def mark (r : Nat) : Deferred := { target := .collected r, args := #[] }
/-- The blocks that loops over functions have laid for the calls that they defer. -/
structure Marks (M : Mem) (φ : Place) (H : List SObj) (w : World) (rs : List Nat) : Prop where
  at_ : ∀ r ∈ rs, w.heap[r]? = some (.deferred (some [])) ∧ (∀ b, live H b → (φ b).1 ≠ r) ∧ ¬ M.has r
  nodup : rs.Nodup
theorem Marks.over {L : Nat} {M' : Mem} {φ' : Place} {H' : List SObj} {w' : World} (t : Trans L M φ H w M' φ' H' w') {rs : List Nat} (h : Marks M φ H w rs) : Marks M' φ' H' w' rs where
  at_ r hr := by
    obtain ⟨h1, h2, h3⟩ := h.at_ r hr
    have hlt : r < w.heap.size := (Array.getElem?_eq_some_iff.1 h1).1
    refine ⟨by rw [t.foot r hlt h2]; exact h1, fun b hb e => ?_, fun hm => ?_⟩
    · rcases t.newL b hb with ⟨b0, l0, e0⟩ | hge
      · exact h2 b0 l0 (e0.trans e)
      · omega
    · rcases t.newM r hm with h | ⟨b0, l0, e0⟩ | hge
      · exact h3 h
      · exact h2 b0 l0 e0
      · omega
  nodup := h.nodup
/-- Which marks there are behind: the elder ones, and new ones. -/
def New (nrf : Bool) (w : World) (rs rs' : List Nat) : Prop := (nrf = true → rs' = rs) ∧ ∀ r ∈ rs', r ∈ rs ∨ w.heap.size ≤ r
theorem New.same {nrf : Bool} {w : World} {rs : List Nat} : New nrf w rs rs := ⟨fun _ => rfl, fun r hr => .inl hr⟩
theorem New.trans {n1 n2 : Bool} {w w1 : World} {rs rs1 rs2 : List Nat} (h : New n1 w rs rs1) (k : New n2 w1 rs1 rs2) (hs : w.heap.size ≤ w1.heap.size) : New (n1 && n2) w rs rs2 :=
  ⟨fun hn => by simp only [Bool.and_eq_true] at hn; rw [k.1 hn.2, h.1 hn.1], fun r hr => by
    rcases k.2 r hr with h1 | h1
    · exact h.2 r h1
    · exact .inr (Nat.le_trans hs h1)⟩
theorem New.imp {n1 n2 : Bool} {w : World} {rs rs' : List Nat} (h : New n1 w rs rs') (k : n2 = true → n1 = true) : New n2 w rs rs' := ⟨fun hn => h.1 (k hn), h.2⟩
def Leaves (X : Fix) (fn : FuncId) (nrf : Bool) (L : Nat) (M : Mem) (φ : Place) (H : List SObj) (w : World) (t : Array Value) (rs : List Nat) (outs : List (Ex × St)) (start : List Item → List Item) : Prop :=
  ∃ e s', (e, s') ∈ outs ∧ ∃ t' w' M' φ' rs', Goes X L M φ H w s' t' w' M' φ' ∧ Marks M' φ' s'.h w' rs' ∧ New nrf w rs rs' ∧
    ∀ (b : Frame) (k : List Item) (cs : List Frame), b.fn = fn → (b.roundOf = none ∨ nrf = true) → Arr X.c.p (lone (fat b t (rs.map mark) (start k)) cs w) b k cs e t' (rs'.map mark) w'
structure CodeOk (X : Fix) (R : Run) : Prop where
  code : ∀ {fn : FuncId} {c : Code} {s : St} {outs : List (Ex × St)}, R (compCode X.c (X.keep fn) c) s = some outs → ∀ {M φ w} {t : Array Value} {rs : List Nat}, Rel X M φ s.h w → EnvR M φ s.h s.env t → Marks M φ s.h w rs →
    Leaves X fn (noRF (compCode X.c (X.keep fn) c)) s.h.length M φ s.h w t rs outs fun k => .code c :: k
  again : ∀ {fn : FuncId} {c : Code} {L : Nat} {kp : Option (List Nat)} {s : St} {outs : List (Ex × St)}, R (.again L kp (compCode X.c (X.keep fn) c)) s = some outs → L ≤ s.h.length → ∀ {M φ w} {t : Array Value} {rs : List Nat}, Rel X M φ s.h w → EnvR M φ s.h s.env t → Marks M φ s.h w rs →
    Leaves X fn (noRF (compCode X.c (X.keep fn) c)) L M φ s.h w t rs outs fun k => .code c :: .inLoop c :: k
theorem Leaves.here {fn : FuncId} {nrf : Bool} {s : St} {t : Array Value} {rs : List Nat} {e : Ex} {start : List Item → List Item} (hR : Rel X M φ s.h w) (hE : EnvR M φ s.h s.env t) (hM : Marks M φ s.h w rs)
    (h : ∀ (b : Frame) (k : List Item) (cs : List Frame), b.fn = fn → Arr X.c.p (lone (fat b t (rs.map mark) (start k)) cs w) b k cs e t (rs.map mark) w) : Leaves X fn nrf s.h.length M φ s.h w t rs [(e, s)] start :=
  ⟨e, s, List.mem_singleton.2 rfl, t, w, M, φ, rs, ⟨hR, hE, Trans.refl (Nat.le_refl _)⟩, hM, .same, fun b k cs hb _ => h b k cs hb⟩
theorem killEnv_get : ∀ (keep : List Nat) (k : Nat) (env : List SV) (i : Nat) (v : SV), (killEnv keep k env)[i]? = some v → v = .dead ∨ env[i]? = some v
  | keep, k, [], i, v, h => by simp [killEnv] at h
  | keep, k, x :: env, i, v, h => by
    cases i with
    | zero =>
      simp only [killEnv, List.getElem?_cons_zero, Option.some.injEq] at h
      split at h
      · exact .inr (by simp [h])
      · exact .inl h.symm
    | succ i =>
      have := killEnv_get keep (k + 1) env i v (by simpa [killEnv] using h)
      simpa using this
theorem killEnv_len : ∀ (keep : List Nat) (k : Nat) (env : List SV), (killEnv keep k env).length = env.length
  | keep, k, [] => rfl
  | keep, k, x :: env => by simp [killEnv, killEnv_len keep (k + 1) env]
theorem EnvR.kill {env : List SV} {t : Array Value} (hE : EnvR M φ H env t) (kp : Option (List Nat)) : EnvR M φ H (killK kp env) t := by
  cases kp with
  | none => exact hE
  | some l =>
    refine ⟨by simp [killK, killEnv_len, hE.1], fun i v hv => ?_⟩
    rcases killEnv_get l 0 env i v hv with rfl | h
    · exact .dead _
    · exact hE.2 i v h
theorem Leaves.steps {fn : FuncId} {nrf : Bool} {L : Nat} {t : Array Value} {rs : List Nat} {outs : List (Ex × St)} {start start' : List Item → List Item} (h : Leaves X fn nrf L M φ H w t rs outs start)
    (st : ∀ (b : Frame) (k : List Item) (cs : List Frame), b.fn = fn → Steps X.c.p (lone (fat b t (rs.map mark) (start' k)) cs w) (lone (fat b t (rs.map mark) (start k)) cs w)) : Leaves X fn nrf L M φ H w t rs outs start' := by
  obtain ⟨e, s', h1, t', w', M', φ', rs', h2, h3, h4, h5⟩ := h
  exact ⟨e, s', h1, t', w', M', φ', rs', h2, h3, h4, fun b k cs hb hn => (h5 b k cs hb hn).of_steps (st b k cs hb)⟩
theorem Leaves.weaken {fn : FuncId} {nrf nrf' : Bool} {L : Nat} {t : Array Value} {rs : List Nat} {outs : List (Ex × St)} {start : List Item → List Item} (h : Leaves X fn nrf L M φ H w t rs outs start) (hn : nrf' = true → nrf = true) : Leaves X fn nrf' L M φ H w t rs outs start := by
  obtain ⟨e, s', h1, t', w', M', φ', rs', h2, h3, h4, h5⟩ := h
  exact ⟨e, s', h1, t', w', M', φ', rs', h2, h3, h4.imp hn, fun b k cs hb hr => h5 b k cs hb (hr.imp id hn)⟩
/-- One behind the other. -/
theorem Leaves.bind {fn : FuncId} {n1 n2 : Bool} {L : Nat} {t : Array Value} {rs : List Nat} {as : List (Ex × St)} {outs : List (Ex × St)} {start : List Item → List Item} {x : Item} (hx : x.plain = true) (h : Leaves X fn n1 L M φ H w t rs as start)
    (hk : ∀ e s', (e, s') ∈ as → (e ≠ .normal → (e, s') ∈ outs) ∧ (e = .normal → ∀ {M' φ' w'} {t' : Array Value} {rs' : List Nat}, Goes X L M φ H w s' t' w' M' φ' → Marks M' φ' s'.h w' rs' → ∃ L', L ≤ L' ∧ Leaves X fn n2 L' M' φ' s'.h w' t' rs' outs fun k => x :: k)) :
    Leaves X fn (n1 && n2) L M φ H w t rs outs fun k => start (x :: k) := by
  obtain ⟨e, s', h1, t', w', M', φ', rs', h2, h3, h4, h5⟩ := h
  by_cases he : e = .normal
  · subst he
    obtain ⟨L', hL, e2, s2, g1, t2, w2, M2, φ2, rs2, g2, g3, g4, g5⟩ := (hk _ s' h1).2 rfl h2 h3
    refine ⟨e2, s2, g1, t2, w2, M2, φ2, rs2, ⟨g2.rel, g2.env, h2.tr.trans (g2.tr.weaken hL)⟩, g3, h4.trans g4 h2.tr.size, fun b k cs hb hr => ?_⟩
    · simp only [Bool.and_eq_true] at hr
      exact (g5 b k cs hb (hr.imp id (·.2))).of_steps (h5 b (x :: k) cs hb (hr.imp id (·.1)))
  · refine ⟨e, s', (hk e s' h1).1 he, t', w', M', φ', rs', h2, h3, h4.imp fun hn => by simp only [Bool.and_eq_true] at hn; exact hn.1, fun b k cs hb hr => ?_⟩
    · simp only [Bool.and_eq_true] at hr
      exact (h5 b (x :: k) cs hb (hr.imp id (·.1))).pass hx he
/-- A function without a body, that the deterministic reading knows. -/
def ExtOk (X : Fix) (f : FuncId) (e : Ext) : Prop := ∀ {args : List SV} {H : List SObj} {r : SV × List SObj}, extern e args H = some r → ∀ {M φ w} {vals : Array Value}, Rel X M φ H w → vals.size = args.length →
  (∀ i v, args[i]? = some v → SVR M φ H v (vals.getD i undef)) → OpOut X M φ H w r (callFunc f vals)
/-- What is asked of the program. -/
structure ProgOk (X : Fix) (prog : FuncId → Option DFunc) : Prop where
  mix : X.c.p.follows .mixedOrders = true
  fn : ∀ f d, prog f = some d → ∃ fn, X.c.p.funcs[f]? = some fn ∧
    ((∃ c, fn.body = some c ∧ (fn.name == "runtime.NumGoroutine") = false ∧ fn.results.toList.all (okRes X.c.p) = true ∧ d.ext = none ∧ d.ntmps = fn.ntmps ∧ d.results = fn.results.toList.map (compRes X.c.p) ∧ d.body = compCode X.c (X.keep f) c) ∨
     (d.live = true ∧ ∃ e, d.ext = some e ∧ ExtOk X f e))
theorem ProgOk.ext (h : ProgOk X prog) : ∀ f d, prog f = some d → d.live = false → d.ext = none := by
  intro f d hd hl
  obtain ⟨fn, _, h1 | h1⟩ := h.fn f d hd
  · obtain ⟨c, _, _, _, h, _⟩ := h1; exact h
  · rw [h1.1] at hl; cases hl
theorem code_step (hP : ProgOk X prog) (hC : CallsOk X prog R) (hR0 : CodeOk X R)
    (hRF : ∀ {fn : FuncId} {f : Operand} {ps : Array Tmp} {a b : Code} {s : St} {outs : List (Ex × St)}, noRF (compCode X.c (X.keep fn) a) = true → noRF (compCode X.c (X.keep fn) b) = true → okOpd (opd X.c f) = true → stepD prog R (.rangeFunc (opd X.c f) ps.toList (compCode X.c (X.keep fn) a) (compCode X.c (X.keep fn) b)) s = some outs →
      ∀ {M φ w} {t : Array Value} {rs : List Nat}, Rel X M φ s.h w → EnvR M φ s.h s.env t → Marks M φ s.h w rs → Leaves X fn false s.h.length M φ s.h w t rs outs fun k => .code (.rangeFunc f ps a b) :: k) : CodeOk X (stepD prog R) where
  again := by
    intro fn c L kp s outs h hL M φ w t rs hR hE hM
    simp only [stepD] at h
    obtain ⟨as, ha, hm⟩ := bind_mem h
    have hb := hR0.code ha hR hE hM
    have hb' : Leaves X fn (noRF (compCode X.c (X.keep fn) c)) L M φ s.h w t rs as fun k => .code c :: k := by
      obtain ⟨e, s', h1, t', w', M', φ', rs', h2, h3⟩ := hb
      exact ⟨e, s', h1, t', w', M', φ', rs', ⟨h2.rel, h2.env, h2.tr.weaken hL⟩, h3⟩
    have := Leaves.bind (n2 := noRF (compCode X.c (X.keep fn) c)) (outs := outs) (x := .inLoop c) (start := fun k => .code c :: k) rfl hb' fun e s' hmem => by
      obtain ⟨m, hk, hsub⟩ := hm _ hmem
      refine ⟨fun hne => ?_, fun he M' φ' w' t' rs' hg hM' => ?_⟩
      · rw [if_neg hne] at hk
        injection hk with hk; subst hk
        exact hsub _ (List.mem_singleton.2 rfl)
      · rw [if_pos he] at hk
        simp only at hk
        have hEk := hg.env.kill kp
        obtain ⟨q1, q2, q3⟩ := trim_sound hg.rel (L := L) hg.tr.len (killK kp s'.env)
        have hE2 : EnvR M' φ' (trim L (killK kp s'.env) s'.h) (killK kp s'.env) t' := ⟨hEk.1, fun i v hv => q3 v _ (List.mem_of_getElem? hv) (hEk.2 i v hv)⟩
        obtain ⟨e2, s2, g1, t2, w2, M2, φ2, rs2, g2, g3, g4, g5⟩ := hR0.again hk q2.len q1 hE2 (hM'.over q2)
        refine ⟨L, Nat.le_refl _, e2, s2, hsub _ g1, t2, w2, M2, φ2, rs2, ⟨g2.rel, g2.env, q2.trans g2.tr⟩, g3, g4, fun b k cs hb hr => (g5 b k cs hb hr).of_steps (.one m_inLoop)⟩
    rwa [Bool.and_self] at this
  code := by
    intro fn c s outs h M φ w t rs hR hE hM
    cases c with
    | skip =>
      injection h with h; subst h
      exact .here hR hE hM fun b k cs _ => .one m_skip
    | region id ops draw =>
      simp only [compCode] at h
      cases draw with
      | false =>
        simp only [Bool.false_eq_true, if_false, stepD] at h
        obtain ⟨as, ha, hm⟩ := bind_mem h
        obtain ⟨s', h1, t', w', M', φ', h2, h3⟩ := region_sound hC hR hE ha
        obtain ⟨m, hk, hsub⟩ := hm _ h1
        injection hk with hk; subst hk
        exact ⟨.normal, s', hsub _ (List.mem_singleton.2 rfl), t', w', M', φ', rs, h2, hM.over h2.tr, .same, fun b k cs hb _ => h3 b k cs _ id⟩
      | true =>
        simp only [if_true] at h
        split at h
        · rename_i hk
          simp only [stepD] at h
          obtain ⟨as, ha, hm⟩ := bind_mem h
          obtain ⟨s', h1, t', w', M', φ', h2, h3⟩ := draw_sound hC hP.ext hP.mix hk hR hE ha fn id
          obtain ⟨m, hk, hsub⟩ := hm _ h1
          injection hk with hk; subst hk
          exact ⟨.normal, s', hsub _ (List.mem_singleton.2 rfl), t', w', M', φ', rs, h2, hM.over h2.tr, .same, fun b k cs hb _ => h3 b k cs _ hb⟩
        · cases h
    | seq a b =>
      simp only [compCode, stepD] at h
      obtain ⟨as, ha, hm⟩ := bind_mem h
      have hb := (hR0.code ha hR hE hM)
      refine Leaves.steps (start := fun k => .code a :: .code b :: k) ?_ fun fr k cs _ => .one m_seq
      show Leaves X fn (noRF (compCode X.c (X.keep fn) a) && noRF (compCode X.c (X.keep fn) b)) _ _ _ _ _ _ _ _ _
      refine Leaves.bind (x := .code b) (start := fun k => .code a :: k) rfl hb fun e s' hmem => ?_
      obtain ⟨m, hk, hsub⟩ := hm _ hmem
      refine ⟨fun hne => ?_, fun he M' φ' w' t' rs' hg hM' => ?_⟩
      · rw [if_neg hne] at hk
        injection hk with hk; subst hk
        exact hsub _ (List.mem_singleton.2 rfl)
      · rw [if_pos he] at hk
        obtain ⟨e2, s2, g1, rest⟩ := hR0.code hk hg.rel hg.env hM'
        exact ⟨_, hg.tr.len, e2, s2, hsub _ g1, rest⟩
    | cond x a b =>
      simp only [compCode] at h ⊢
      split at h
      · rename_i ho
        rw [if_pos ho]
        simp only [stepD] at h
        split at h
        · rename_i z hz
          have hv := ofEnv hR hE ho
          rw [hz] at hv
          have hv := hv.bool'
          have hc : Leaves X fn (noRF (compCode X.c (X.keep fn) (if z then a else b))) s.h.length M φ s.h w t rs outs fun k => .code (if z then a else b) :: k := by
            cases z
            · exact hR0.code h hR hE hM
            · exact hR0.code h hR hE hM
          refine Leaves.steps (start := fun k => .code (if z then a else b) :: k) (hc.weaken fun hn => ?_) fun fr k cs _ => .one (m_cond hv)
          simp only [noRF, Bool.and_eq_true] at hn
          cases z
          · exact hn.2
          · exact hn.1
        · cases h
      · cases h
    | block id a =>
      simp only [compCode, stepD] at h
      obtain ⟨as, ha, hm⟩ := bind_mem h
      obtain ⟨e, s', h1, t', w', M', φ', rs', h2, h3, h4, h5⟩ := hR0.code ha hR hE hM
      obtain ⟨m, hk, hsub⟩ := hm _ h1
      injection hk with hk; subst hk
      refine ⟨_, s', hsub _ (List.mem_singleton.2 rfl), t', w', M', φ', rs', h2, h3, h4, fun b k cs hb hr => ?_⟩
      have hA := (h5 b (.inBlock id :: k) cs hb hr).of_steps (m := lone (fat b t (rs.map mark) (.code (.block id a) :: k)) cs w) (.one m_block)
      cases e with
      | normal =>
        rw [if_neg (fun h => nomatch h)]
        exact Steps.trans hA (.one m_inBlock)
      | ret =>
        rw [if_neg (fun h => nomatch h)]
        exact hA
      | exit j =>
        by_cases hj : j = id
        · subst hj
          rw [if_pos rfl]
          exact hA.1 k (by simp [exitTo])
        · rw [if_neg (fun h => hj (by injection h))]
          have hx : exitTo j (.inBlock id :: k) = exitTo j k := by simp [exitTo, show ¬ id = j from fun h => hj h.symm]
          simpa only [Arr, hx] using hA
    | loop a =>
      simp only [compCode, stepD] at h
      have hEk := hE.kill (X.keep fn (compCode.firstRegion a))
      have := hR0.again h (Nat.le_refl _) hR hEk hM
      exact Leaves.steps this fun fr k cs _ => .one m_loop
    | exit id =>
      injection h with h; subst h
      exact .here hR hE hM fun b k cs _ => ⟨fun k' hk => .one (m_exit hk), fun hn => ⟨k, hn, .refl _ _⟩⟩
    | ret =>
      injection h with h; subst h
      exact .here hR hE hM fun b k cs _ => ⟨k, .refl _ _⟩
    | rangeFunc f ps a b =>
      simp only [compCode] at h ⊢
      split at h
      · rename_i hg
        rw [if_pos hg]
        simp only [Bool.and_eq_true] at hg
        exact hRF hg.1.1 hg.1.2 hg.2 h hR hE hM
      · cases h
    | _ => cases h
end Go.Det

/- Calls. -/
set_option linter.unusedVariables false
set_option linter.unusedSimpArgs false
namespace Go.Det
variable {X : Fix} {prog : FuncId → Option DFunc} {R : Run} {M : Mem} {φ : Place} {H : List SObj} {w : World}

/-- An object that nothing is told of is turned. -/
theorem Rel.aside (hR : Rel X M φ H w) {r : Nat} (o : Obj) (h1 : ∀ b, live H b → (φ b).1 ≠ r) (h2 : ¬ M.has r) : Rel X M φ H { w with heap := w.heap.setIfInBounds r o } := by
  have hk : ∀ k, k ≠ r → (w.heap.setIfInBounds r o)[k]? = w.heap[k]? := fun k hk => Array.getElem?_setIfInBounds_ne (Ne.symm hk)
  refine ⟨hR.gl, fun b i v hv => ?_, fun q x hx => ?_, fun b x hx => ?_, hR.inj, hR.sep⟩
  · obtain ⟨q1, q2⟩ := hR.mc b i v hv
    refine ⟨q1, ?_⟩
    rw [cell?_of_heap (w := w) (hk b fun e => h2 (by rw [← e]; exact .inl ⟨i, v, hv⟩))]; exact q2
  · show (w.heap.setIfInBounds r o)[q]? = _
    rw [hk q fun e => h2 (by rw [← e]; exact .inr ⟨x, hx⟩)]; exact hR.mo q x hx
  · cases hd : x with
    | dead => trivial
    | _ =>
      rw [← hd]
      exact (hR.ob b x hx).keep (Mem.le_refl _) (fun v y h => h) rfl (hk _ (h1 b ⟨x, hx, by rw [hd]; intro h; cases h⟩))
theorem Trans.aside {L : Nat} {M0 : Mem} {φ0 : Place} {H0 : List SObj} {w0 : World} (h : Trans L M0 φ0 H0 w0 M φ H w) {r : Nat} (o : Obj) (hr : w0.heap.size ≤ r) : Trans L M0 φ0 H0 w0 M φ H { w with heap := w.heap.setIfInBounds r o } :=
  { le := h.le, len := h.len, ext := h.ext, os := h.os, tape := h.tape, output := h.output, size := by simpa using h.size
    foot := fun k hk hn => by
      show (w.heap.setIfInBounds r o)[k]? = _
      rw [Array.getElem?_setIfInBounds_ne (by omega)]; exact h.foot k hk hn
    newL := h.newL, newM := h.newM }
def back (b : Frame) (t : Array Value) (d : List Deferred) (todo : List Item) : Frame := { fat b t d todo with mode := .returning }
/-- The marks are taken off. -/
theorem unwind_marks {L : Nat} {M0 : Mem} {φ0 : Place} {H0 : List SObj} {w0 : World} : ∀ (rs : List Nat) {w : World}, Rel X M φ H w → Trans L M0 φ0 H0 w0 M φ H w → Marks M φ H w rs → (∀ r ∈ rs, w0.heap.size ≤ r) →
    ∃ w', Rel X M φ H w' ∧ Trans L M0 φ0 H0 w0 M φ H w' ∧ ∀ (b : Frame) (t : Array Value) (todo : List Item) (cs : List Frame), Steps X.c.p (lone (back b t (rs.map mark) todo) cs w) (lone (back b t [] todo) cs w')
  | [], w, hR, hT, _, _ => ⟨w, hR, hT, fun b t todo cs => .refl _ _⟩
  | r :: rs, w, hR, hT, hM, hn => by
    obtain ⟨h1, h2, h3⟩ := hM.at_ r List.mem_cons_self
    have hR1 := hR.aside (.deferred none) h2 h3
    have hT1 := hT.aside (.deferred none) (hn r List.mem_cons_self)
    have hM1 : Marks M φ H { w with heap := w.heap.setIfInBounds r (.deferred none) } rs := by
      refine ⟨fun q hq => ?_, (List.nodup_cons.1 hM.nodup).2⟩
      obtain ⟨q1, q2, q3⟩ := hM.at_ q (List.mem_cons_of_mem _ hq)
      have hne : r ≠ q := fun e => (List.nodup_cons.1 hM.nodup).1 (e ▸ hq)
      refine ⟨?_, q2, q3⟩
      show (w.heap.setIfInBounds r (.deferred none))[q]? = _
      rw [Array.getElem?_setIfInBounds_ne hne]; exact q1
    obtain ⟨w', g1, g2, g3⟩ := unwind_marks rs hR1 hT1 hM1 fun q hq => hn q (List.mem_cons_of_mem _ hq)
    refine ⟨w', g1, g2, fun b t todo cs => .head ?_ (g3 b t todo cs)⟩
    have hrun : (Instr.takeDeferred r).run X.c.p w = .ok [] { w with heap := w.heap.setIfInBounds r (.deferred none) } := by
      have hg : (getObj r).run X.c.p w = .ok (.deferred (some [])) w := by simp [getObj, Sem.run, h1]
      have hs : (setObj r (.deferred none)).run X.c.p w = .ok () { w with heap := w.heap.setIfInBounds r (.deferred none) } := run_setObj _ h1 (fun _ _ _ h => nomatch h)
      simp only [Instr.takeDeferred, Sem.run_bind, hg, Result.andThen_ok, hs, Sem.run_pure]
    have hrunT : ((Instr.takeDeferred r).runT X.c.p w #[]).1 = .ok [] { w with heap := w.heap.setIfInBounds r (.deferred none) } := by rw [Sem.runT_fst]; exact hrun
    refine step_lone_go ?_
    simp only [stepG, back, fat, unwind, mark, List.map_cons]
    generalize (Instr.takeDeferred r).runT X.c.p w #[] = q at hrunT
    obtain ⟨a, es⟩ := q
    simp only at hrunT
    subst hrunT
    simp [GStep.after]
end Go.Det

/- Calls of functions. -/
set_option linter.unusedVariables false
set_option linter.unusedSimpArgs false
namespace Go.Det
variable {X : Fix} {prog : FuncId → Option DFunc} {R : Run} {M : Mem} {φ : Place} {H : List SObj} {w : World}

theorem resVal_sound {s : St} {t : Array Value} (hR : Rel X M φ s.h w) (hE : EnvR M φ s.h s.env t) {r : ResultVar} {v : SV} (ho : okRes X.c.p r = true) (h : resVal s (compRes X.c.p r) = some v) :
    ∃ y, (match r with | .tmp k => pure (t.getD k undef) | .cell a ty => do loadVar ty (← asAddr (t.getD a undef)) : Sem Value).run X.c.p w = .ok y w ∧ SVR M φ s.h v y := by
  cases r with
  | tmp k =>
    simp only [compRes, resVal, Option.some.injEq] at h
    subst h
    exact ⟨_, rfl, env_get hE k⟩
  | cell a ty =>
    simp only [compRes, resVal] at h
    obtain ⟨cs, hc, hv⟩ := load_ld h
    obtain ⟨ad, ha, hs, hca⟩ := ldCells_sound hR hc (env_get hE a)
    obtain ⟨y, hy, hs'⟩ := loadVar_sound hR ho hca hv hs
    refine ⟨y, ?_, hs'⟩
    simp only [ha, asAddr, Sem.run_bind, Sem.run_pure, Result.andThen_ok, hy]
theorem mapM_sound {s : St} {t : Array Value} (hR : Rel X M φ s.h w) (hE : EnvR M φ s.h s.env t) : ∀ (rs : List ResultVar) (vs : List SV), rs.all (okRes X.c.p) = true → resVals s (rs.map (compRes X.c.p)) = some vs →
    ∃ ys : List Value, (rs.mapM fun r => (match r with | .tmp k => pure (t.getD k undef) | .cell a ty => do loadVar ty (← asAddr (t.getD a undef)) : Sem Value)).run X.c.p w = .ok ys w ∧ ys.length = vs.length ∧ ∀ (i : Nat) (c : SV), vs[i]? = some c → SVR M φ s.h c (ys.getD i undef)
  | [], vs, _, h => by
    simp only [List.map_nil, resVals, Option.some.injEq] at h; subst h
    exact ⟨[], by simp, rfl, fun i c hc => by simp at hc⟩
  | r :: rs, vs, ho, h => by
    simp only [List.all_cons, Bool.and_eq_true] at ho
    simp only [List.map_cons, resVals] at h
    split at h
    · rename_i v hv
      split at h
      · rename_i l hl
        injection h with h; subst h
        obtain ⟨y, h1, h2⟩ := resVal_sound hR hE ho.1 hv
        obtain ⟨ys, h3, h4, h5⟩ := mapM_sound hR hE rs l ho.2 hl
        refine ⟨y :: ys, ?_, by simp [h4], fun i c hc => ?_⟩
        · simp only [List.mapM_cons, Sem.run_bind, h1, Result.andThen_ok, h3, Sem.run_pure]
        · cases i with
          | zero => simp at hc; subst hc; simpa using h2
          | succ i => simpa using h5 i c (by simpa using hc)
      · cases h
    · cases h
theorem result_sound {s : St} {t : Array Value} (hR : Rel X M φ s.h w) (hE : EnvR M φ s.h s.env t) {fn : Func} {r : SV} (ho : fn.results.toList.all (okRes X.c.p) = true) (h : result s (fn.results.toList.map (compRes X.c.p)) = some r) :
    ∃ y, (results fn t).run X.c.p w = .ok y w ∧ SVR M φ s.h r y := by
  unfold result at h
  have key : ∀ vs, resVals s (fn.results.toList.map (compRes X.c.p)) = some vs → ∃ ys : List Value, (results fn t).run X.c.p w = .ok (if h : ys.length = 1 then ys[0]'(by omega) else .tuple ys.toArray) w ∧ ys.length = vs.length ∧ ∀ (i : Nat) (c : SV), vs[i]? = some c → SVR M φ s.h c (ys.getD i undef) := by
    intro vs hvs
    obtain ⟨ys, h1, h2, h3⟩ := mapM_sound hR hE fn.results.toList vs ho hvs
    refine ⟨ys, ?_, h2, h3⟩
    unfold results
    rw [Sem.run_bind]
    have hm : (fn.results.mapM fun r => (match r with | .tmp k => pure (t.getD k undef) | .cell a ty => do loadVar ty (← asAddr (t.getD a undef)) : Sem Value)).run X.c.p w = .ok ys.toArray w := by
      rw [← Array.toArray_toList (xs := fn.results), List.mapM_toArray]
      simp only [Sem.run_map, h1, Result.andThen_ok, Array.toArray_toList]
    have := congrArg (·.andThen fun vs w => (pure (if h : vs.size = 1 then vs[0] else .tuple vs) : Sem Value).run X.c.p w) hm
    simp only [Result.andThen_ok] at this
    refine Eq.trans this ?_
    simp
  split at h
  · rename_i v hvs
    injection h with h; subst h
    obtain ⟨ys, h1, h2, h3⟩ := key _ hvs
    have hl : ys.length = 1 := by simpa using h2
    rw [dif_pos hl] at h1
    refine ⟨_, h1, ?_⟩
    have := h3 0 v rfl
    rw [List.getD_eq_getElem?_getD, List.getElem?_eq_getElem (by omega)] at this
    exact this
  · rename_i vs hne hvs
    injection h with h; subst h
    obtain ⟨ys, h1, h2, h3⟩ := key _ hvs
    have hl : ¬ ys.length = 1 := by
      intro e
      rw [h2] at e
      cases vs with
      | nil => simp at e
      | cons a l =>
        cases l with
        | nil => exact hne a rfl
        | cons => simp at e
    rw [dif_neg hl] at h1
    exact ⟨_, h1, mkTup_sound (by simpa using h2) fun i c hc => by simpa using h3 i c hc⟩
  · cases h
theorem callFunc_run {f : FuncId} {fn : Func} {c : Code} {vals : Array Value} (hf : X.c.p.funcs[f]? = some fn) (hb : fn.body = some c) (hn : (fn.name == "runtime.NumGoroutine") = false) : (callFunc f vals).run X.c.p w = .ok (.enter f vals) w := by
  simp only [callFunc, Sem.run_bind, run_program, Result.andThen_ok, hf, hn, hb, Option.isNone, Bool.false_eq_true, if_false, Sem.run_pure]
/-- A function's body, from its entry to its return. -/
theorem body_sound (hC : CodeOk X R) {f : FuncId} {fn : Func} {c : Code} {d : DFunc} {args : List SV} {vals : Array Value} {l : List (Ex × St)} (hf : X.c.p.funcs[f]? = some fn) (hb : fn.body = some c) (hres : fn.results.toList.all (okRes X.c.p) = true)
    (hd1 : d.ntmps = fn.ntmps) (hd2 : d.results = fn.results.toList.map (compRes X.c.p)) (hd3 : d.body = compCode X.c (X.keep f) c) (h : R d.body ⟨args ++ List.replicate (d.ntmps - args.length) U, H⟩ = some l)
    (hR : Rel X M φ H w) (hl : vals.size = args.length) (hv : ∀ i v, args[i]? = some v → SVR M φ H v (vals.getD i undef)) (hend : ∀ x ∈ l, endOf d x ≠ none) :
    ∃ x ∈ l, ∃ r s y w' M' φ', endOf d x = some (r, s) ∧ SVR M' φ' s.h r y ∧ Rel X M' φ' s.h w' ∧ Trans H.length M φ H w M' φ' s.h w' ∧ ∀ cs, ∃ fr : Frame, Steps X.c.p (lone (Frame.enter X.c.p f vals .normal) cs w) (lone fr cs w') ∧ fr.fn = f ∧ fr.leaving X.c.p w' (.returned y) := by
  have hE : EnvR M φ H (args ++ List.replicate (d.ntmps - args.length) U) (vals ++ Array.replicate (fn.ntmps - vals.size) undef) := by
    refine ⟨by simp [hl, hd1], fun i v hi => ?_⟩
    rw [Array.getD_eq_getD_getElem?, Array.getElem?_append]
    by_cases hlt : i < args.length
    · rw [List.getElem?_append_left hlt] at hi
      rw [if_pos (by omega), ← Array.getD_eq_getD_getElem?]; exact hv i v hi
    · rw [List.getElem?_append_right (by omega), List.getElem?_replicate] at hi
      split at hi
      · injection hi with hi; subst hi
        rw [if_neg (by omega), Array.getElem?_replicate, if_pos (by rw [hl, ← hd1]; assumption)]
        exact undef_sound
      · cases hi
  rw [hd3] at h
  obtain ⟨e, s', h1, t', w1, M', φ', rs', h2, h3, h4, h5⟩ := hC.code (rs := []) h hR hE ⟨fun r hr => (nomatch hr), List.nodup_nil⟩
  obtain ⟨w', g1, g2, g3⟩ := unwind_marks rs' h2.rel h2.tr h3 fun r hr => by
    rcases h4.2 r hr with h | h
    · cases h
    · exact h
  have hE' : EnvR M' φ' s'.h s'.env t' := h2.env
  have hex : ∃ r, endOf d (e, s') = some (r, s') ∧ result s' d.results = some r ∧ ∀ id, e ≠ .exit id := by
    have := hend _ h1
    unfold endOf at this ⊢
    split
    · rename_i he; rw [he] at this; exact absurd rfl this
    · rename_i s'' hne he
      injection he with he1 he2
      subst he2
      cases hr : result s' d.results with
      | none =>
        exfalso
        apply this
        split
        · rfl
        · rename_i he3; injection he3 with _ he3; subst he3; rw [hr]
      | some r => exact ⟨r, rfl, rfl, fun id hid => hne id (by rw [← he1]; exact hid)⟩
  obtain ⟨r, hr1, hr2, hne⟩ := hex
  rw [hd2] at hr2
  obtain ⟨y, hy1, hy2⟩ := result_sound g1 hE' hres hr2
  refine ⟨_, h1, r, s', y, w', M', φ', hr1, hy2, g1, g2, fun cs => ?_⟩
  let b : Frame := { (default : Frame) with fn := f, kind := .normal, roundOf := none }
  have henter : Frame.enter X.c.p f vals .normal = fat b (vals ++ Array.replicate (fn.ntmps - vals.size) undef) [] [.code c] := by
    simp [Frame.enter, fat, hf, hb, b]
  have harr := h5 b [] cs rfl (.inl rfl)
  rw [henter]
  have fin : ∀ todo, Steps X.c.p (lone (fat b (vals ++ Array.replicate (fn.ntmps - vals.size) undef) [] [.code c]) cs w) (lone (back b t' (rs'.map mark) todo) cs w1) → ∃ fr : Frame, Steps X.c.p (lone (fat b (vals ++ Array.replicate (fn.ntmps - vals.size) undef) [] [.code c]) cs w) (lone fr cs w') ∧ fr.fn = f ∧ fr.leaving X.c.p w' (.returned y) :=
    fun todo hs => ⟨back b t' [] todo, hs.trans (g3 b t' todo cs), rfl, rfl, rfl, rfl, fn, hf, hy1⟩
  cases e with
  | normal => exact fin [] (Steps.trans harr (.one (m_end rfl)))
  | exit id => exact absurd rfl (hne id)
  | ret =>
    obtain ⟨kk, hs⟩ := harr
    exact fin _ (hs.trans (.one (m_ret rfl)))
end Go.Det

/- Calls, pure and live. -/
set_option linter.unusedVariables false
set_option linter.unusedSimpArgs false
namespace Go.Det
variable {X : Fix} {prog : FuncId → Option DFunc} {R : Run} {M : Mem} {φ : Place} {H : List SObj} {w : World}

theorem ends_spec {d : DFunc} : ∀ {l : List (Ex × St)} {rs : List FV}, ends d l = some rs → ∀ x ∈ l, ∃ r s v, endOf d x = some (r, s) ∧ frz s.h 100 r = some v ∧ v ∈ rs
  | [], rs, h, x, hx => by cases hx
  | e :: l, rs, h, x, hx => by
    simp only [ends] at h
    split at h
    · cases h
    · rename_i r s he
      split at h
      · cases h
      · rename_i v hv
        split at h
        · cases h
        · rename_i vs hvs
          injection h with h; subst h
          rcases List.mem_cons.1 hx with rfl | hx
          · exact ⟨r, s, v, he, hv, List.mem_cons_self⟩
          · obtain ⟨r', s', v', h1, h2, h3⟩ := ends_spec hvs x hx
            exact ⟨r', s', v', h1, h2, List.mem_cons_of_mem _ h3⟩
theorem Rel.grow (hR : Rel X M φ H w) {w' : World} (hk : ∀ k, k < w.heap.size → w'.heap[k]? = w.heap[k]?) : Rel X M φ H w' := by
  refine ⟨hR.gl, fun b i v hv => ?_, fun q x hx => ?_, fun b x hx => ?_, hR.inj, hR.sep⟩
  · obtain ⟨q1, q2⟩ := hR.mc b i v hv
    exact ⟨q1, by rw [cell?_of_heap (hk b (cell_lt q2))]; exact q2⟩
  · have := hR.mo q x hx
    rw [hk q (Array.getElem?_eq_some_iff.1 this).1]; exact this
  · cases hd : x with
    | dead => trivial
    | _ =>
      rw [← hd]
      exact (hR.ob b x hx).keep (Mem.le_refl _) (fun v y h => h) rfl (hk _ (hR.lt ⟨x, hx, by rw [hd]; intro h; cases h⟩))
theorem dead_nil {φ : Place} {b : Nat} : ¬ live [] b := fun ⟨x, hx, _⟩ => by simp at hx
theorem foot_nil {L : Nat} {M' : Mem} {φ' : Place} {H' : List SObj} {w' : World} (t : Trans L M φ [] w M' φ' H' w') : ∀ k, k < w.heap.size → w'.heap[k]? = w.heap[k]? := fun k hk => t.foot k hk fun b hb => absurd hb (dead_nil (φ := φ))
/-- What a callee that sees nothing of the heap leaves behind. -/
theorem Rel.behind (hR : Rel X M φ H w) {M2 : Mem} {φ2 : Place} {w' : World} (h2 : Rel X M2 φ2 [] w') (t : Trans 0 M φ [] w M2 φ2 [] w') : Rel X M2 φ H w' ∧ Trans H.length M φ H w M2 φ H w' := by
  have hk := foot_nil t
  have hnew : ∀ k, M2.has k → M.has k ∨ w.heap.size ≤ k := fun k h => by
    rcases t.newM k h with h | ⟨b, hb, _⟩ | h
    · exact .inl h
    · exact absurd hb (dead_nil (φ := φ))
    · exact .inr h
  constructor
  · refine ⟨h2.gl, h2.mc, h2.mo, fun b x hx => ?_, hR.inj, fun b hb hm => ?_⟩
    · cases hd : x with
      | dead => trivial
      | _ =>
        rw [← hd]
        exact (hR.ob b x hx).keep t.le (fun v y h => h.step t.le (Nat.le_refl _) (fun b _ => Same.refl _ _ b) h.bel) rfl (hk _ (hR.lt ⟨x, hx, by rw [hd]; intro h; cases h⟩))
    · rcases hnew _ hm with h | h
      · exact hR.sep b hb h
      · have := hR.lt hb; omega
  · exact ⟨t.le, Nat.le_refl _, fun b _ => Same.refl _ _ b, t.os, t.tape, t.output, t.size, fun k hk' _ => hk k hk', fun b hb => .inl ⟨b, hb, rfl⟩, fun k h => by
      rcases hnew k h with h | h
      · exact .inl h
      · exact .inr (.inr h)⟩
theorem Rel.bare (hR : Rel X M φ H w) : Rel X M φ [] w := by
  have := hR.take (L := 0) (Nat.zero_le _) fun b x _ h => absurd h (Nat.not_lt_zero _)
  simpa using this
/-- A call that sees nothing but frozen values. -/
theorem pcall_sound (hP : ProgOk X prog) (hC : CodeOk X R) {f : FuncId} {d : DFunc} {fargs : List FV} {r : FV} (hf : prog f = some d) (he : d.ext = none) (h : pcallR prog R f fargs = some r) (hR : Rel X M φ [] w) {vals : Array Value} (hl : vals.size = fargs.length)
    (hv : ∀ i v, fargs[i]? = some v → VR M v (vals.getD i undef)) : ∃ y w' M' φ', VR M' r y ∧ Rel X M' φ' [] w' ∧ Trans 0 M φ [] w M' φ' [] w' ∧ (callFunc f vals).run X.c.p w = .ok (.enter f vals) w ∧
      ∀ cs, ∃ fr : Frame, Steps X.c.p (lone (Frame.enter X.c.p f vals .normal) cs w) (lone fr cs w') ∧ fr.fn = f ∧ fr.leaving X.c.p w' (.returned y) := by
  unfold pcallR at h
  simp only [hf, he] at h
  obtain ⟨fn, hfn, ⟨c, hb, hname, hres, _, hd1, hd2, hd3⟩ | ⟨_, e, he', _⟩⟩ := hP.fn f d hf
  · split at h
    · cases h
    · rename_i l hl'
      split at h
      · rename_i rs hrs
        have hs := ends_spec hrs
        have hlen : (fargs.map SV.f).length = fargs.length := by simp
        obtain ⟨x, hx, r0, s, y, w', M', φ', q1, q2, q3, q4, q5⟩ := body_sound (args := fargs.map SV.f) hC hfn hb hres hd1 hd2 hd3 (by rw [hlen]; exact hl') hR (by rw [hlen]; exact hl) (fun i v hi => by
          simp only [List.getElem?_map, Option.map_eq_some_iff] at hi
          obtain ⟨g, hg, rfl⟩ := hi
          exact .f _ _ (hv i g hg)) (fun x hx => by
          obtain ⟨r, s, v, h1, _⟩ := hs x hx
          rw [h1]; simp)
        obtain ⟨r1, s1, v1, e1, e2, e3⟩ := hs x hx
        rw [q1] at e1; injection e1 with e1; injection e1 with e1 e1'; subst e1; subst e1'
        have := the_all h _ e3; subst this
        refine ⟨y, w', ice M' φ' s.h w', φ', frz_sound q3 100 e2 q2, ice_rel q3, ?_, callFunc_run hfn hb hname, q5⟩
        exact ⟨Mem.le_trans q4.le ice_le, Nat.zero_le _, fun b hb => absurd hb (Nat.not_lt_zero _), q4.os, q4.tape, q4.output, q4.size, q4.foot, fun b hb => absurd hb (dead_nil (φ := φ)), fun k hk => by
          rcases ice_has hk with h | ⟨b, hb, rfl⟩
          · exact q4.newM k h
          · rcases q4.newL b hb with ⟨b0, hb0, _⟩ | h
            · exact absurd hb0 (dead_nil (φ := φ))
            · exact .inr (.inr h)⟩
      · cases h
  · rw [he] at he'; cases he'
theorem runs_of {f : FuncId} {vals : Array Value} {y : Value} {w' : World} (h : (callFunc f vals).run X.c.p w = .ok (.enter f vals) w) (hs : ∀ cs, ∃ fr : Frame, Steps X.c.p (lone (Frame.enter X.c.p f vals .normal) cs w) (lone fr cs w') ∧ fr.fn = f ∧ fr.leaving X.c.p w' (.returned y)) :
    Runs X.c.p (callFunc f vals) w y w' :=
  .enter f vals w h fun c cs => by
    obtain ⟨fr, h1, _, h2⟩ := hs (c :: cs)
    exact h1.trans (.one (step_leave_returned h2))
theorem allF_of {args : List SV} (h : (allF args).isSome = true) : ∃ l : List FV, args = l.map SV.f := by
  obtain ⟨l, hl⟩ := Option.isSome_iff_exists.1 h
  exact ⟨l, allF_get hl⟩
theorem frz_f {h : List SObj} (n : Nat) (v : FV) : frz h n (.f v) = some v := by cases n <;> rfl
theorem frzL_f {h : List SObj} (n : Nat) : ∀ {l m : List FV}, frzL (frz h n) (l.map SV.f) = some m → m = l
  | [], m, e => by simp [frzL] at e; rw [e]
  | v :: l, m, e => by
    simp only [List.map_cons, frzL, frz_f] at e
    split at e
    · rename_i m' hm
      injection e with e; subst e
      rw [frzL_f n hm]
    · cases e
theorem lcall_sound (hP : ProgOk X prog) (hC : CodeOk X R) {f : FuncId} {args : List SV} {l : List (SV × List SObj)} (h : lcallR prog R f args H = some l) (hR : Rel X M φ H w) {vals : Array Value} (hl : vals.size = args.length)
    (hv : ∀ i v, args[i]? = some v → SVR M φ H v (vals.getD i undef)) : Good X M φ H w (callFunc f vals) l := by
  unfold lcallR at h
  split at h
  · cases h
  · rename_i d hf
    split at h
    · rename_i e he
      simp only [Option.map_eq_some_iff] at h
      obtain ⟨r, hr, rfl⟩ := h
      obtain ⟨fn, hfn, ⟨_, _, _, _, he', _⟩ | ⟨_, e', he', hx⟩⟩ := hP.fn f d hf
      · rw [he] at he'; cases he'
      · rw [he] at he'; injection he' with he'; subst he'
        exact .one (hx hr hR hl hv)
    · rename_i he
      split at h
      · -- live
        simp only [Option.map_eq_some_iff] at h
        obtain ⟨l0, hl0, rfl⟩ := h
        obtain ⟨as, ha, hm⟩ := bind_mem hl0
        obtain ⟨fn, hfn, ⟨c, hb, hname, hres, _, hd1, hd2, hd3⟩ | ⟨_, e', he', _⟩⟩ := hP.fn f d hf
        · obtain ⟨x, hx, r0, s, y, w', M', φ', q1, q2, q3, q4, q5⟩ := body_sound hC hfn hb hres hd1 hd2 hd3 ha hR hl hv (fun x hx => by
            obtain ⟨m, hk, _⟩ := hm x hx
            intro hn; rw [hn] at hk; cases hk)
          obtain ⟨m, hk, hsub⟩ := hm x hx
          rw [q1] at hk
          injection hk with hk; subst hk
          obtain ⟨t1, t2, t3⟩ := trim_sound q3 (L := H.length) q4.len [r0]
          exact ⟨_, dedup_mem _ _ (hsub _ (List.mem_singleton.2 rfl)), y, w', M', φ', runs_of (callFunc_run hfn hb hname) q5, t3 _ _ (List.mem_singleton.2 rfl) q2, t1, q4.trans t2⟩
        · rw [he] at he'; cases he'
      · split at h
        · cases h
        · rename_i fargs hfr
          split at h
          · cases h
          · rename_i r hr
            split at h
            · rename_i hflat
              injection h with h; subst h
              refine .one ?_
              unfold frzAll at hfr
              obtain ⟨z1, z2⟩ := frzL_get hfr
              by_cases hfl : flatV r = true
              · obtain ⟨y, w', M', φ', q1, q2, q3, q4, q5⟩ := pcall_sound hP hC hf he hr (ice_rel hR) (by rw [z1]; exact hl) fun i v hi => by
                  obtain ⟨s, hs, hg⟩ := z2 i v hi
                  exact frz_sound hR 100 hg (hv i s hs)
                have hk := foot_nil q3
                refine ⟨y, w', M, φ, runs_of q4 q5, .f _ _ (flatV_any hfl q1), hR.grow hk, ?_⟩
                exact ⟨Mem.le_refl _, Nat.le_refl _, fun b _ => Same.refl _ _ b, q3.os, q3.tape, q3.output, q3.size, fun k hk' _ => hk k hk', fun b hb => .inl ⟨b, hb, rfl⟩, fun k h => .inl h⟩
              · have hall : (allF args).isSome = true := by
                  cases hq : flatV r with
                  | true => exact absurd hq hfl
                  | false => rw [hq] at hflat; simpa using hflat
                obtain ⟨la, rfl⟩ := allF_of hall
                have := frzL_f 100 hfr; subst this
                obtain ⟨y, w', M', φ', q1, q2, q3, q4, q5⟩ := pcall_sound hP hC hf he hr hR.bare (by simpa using hl) fun i v hi => (hv i (.f v) (by simp [hi])).toF
                obtain ⟨b1, b2⟩ := hR.behind q2 q3
                exact ⟨y, w', M', φ, runs_of q4 q5, .f _ _ q1, b1, b2⟩
            · cases h
end Go.Det

/- Calls of values: closures, and the bodies of loops over functions. -/
set_option linter.unusedVariables false
set_option linter.unusedSimpArgs false
namespace Go.Det
variable {X : Fix} {prog : FuncId → Option DFunc} {R : Run} {M : Mem} {φ : Place} {H : List SObj} {w : World}

theorem func_shape {fn : Fn} {caps : List SV} {v : SV} {x : Value} (h : SVR M φ H v x) (hv : (∃ l, v = .f (.func fn l) ∧ caps = l.map SV.f) ∨ v = .func fn caps) :
    ∃ arr : Array Value, x = .func fn #[] arr ∧ arr.size = caps.length ∧ ∀ i c, caps[i]? = some c → SVR M φ H c (arr.getD i undef) := by
  rcases hv with ⟨l, rfl, rfl⟩ | rfl
  · have h := h.toF
    cases h with
    | func _ _ arr hl hv =>
      refine ⟨arr, rfl, by simpa using hl, fun i c hc => ?_⟩
      simp only [List.getElem?_map, Option.map_eq_some_iff] at hc
      obtain ⟨f, hf, rfl⟩ := hc
      exact .f _ _ (hv i f hf)
  · cases h with
    | func _ _ arr hl hv => exact ⟨arr, rfl, hl, hv⟩
theorem clo_sound (hP : ProgOk X prog) (hC : CodeOk X R) {g : FuncId} {caps args : List SV} {v : SV} {x : Value} {l : List (SV × List SObj)} (h : lcallR prog R g (args ++ caps) H = some l) (hR : Rel X M φ H w)
    (hx : SVR M φ H v x) (hs : (∃ l, v = .f (.func (.func g) l) ∧ caps = l.map SV.f) ∨ v = .func (.func g) caps) {vals : Array Value} (hl : vals.size = args.length) (hv : ∀ i v, args[i]? = some v → SVR M φ H v (vals.getD i undef)) :
    Good X M φ H w (do let d ← Deferred.ofValue x vals; invoke d.target d.args) l := by
  obtain ⟨arr, rfl, ha, hc⟩ := func_shape hx hs
  have := lcall_sound hP hC h hR (vals := vals ++ arr) (by simp [hl, ha]) fun i c hi => by
    rw [Array.getD_eq_getD_getElem?, Array.getElem?_append]
    by_cases hlt : i < args.length
    · rw [List.getElem?_append_left hlt] at hi
      rw [if_pos (by omega), ← Array.getD_eq_getD_getElem?]; exact hv i c hi
    · rw [List.getElem?_append_right (by omega)] at hi
      rw [if_neg (by omega), ← Array.getD_eq_getD_getElem?, hl]; exact hc _ c hi
  have e : (do let d ← Deferred.ofValue (.func (.func g) #[] arr) vals; invoke d.target d.args : Sem Next) = callFunc g (vals ++ arr) := by
    show callFunc g ((#[] ++ vals) ++ arr) = _
    simp
  rw [e]; exact this
end Go.Det

/- Rounds of loops over functions. -/
set_option linter.unusedVariables false
set_option linter.unusedSimpArgs false
namespace Go.Det
variable {P : Program}

theorem m_beginRound {b : Frame} {t : Array Value} {d : List Deferred} {k : List Item} {cs : List Frame} {w w' : World} {l : Nat} (hb : b.roundOf = some l) (h : (Instr.beginRound l).run P w = .ok () w') :
    step P (lone (fat b t d (.beginRound :: k)) cs w) = .next (lone (fat b t d k) cs w') := by
  refine step_lone_go ?_
  have hs : ((Instr.beginRound l >>= fun _ => pure Next.skip : Sem Next)).run P w = .ok .skip w' := by simp [h]
  have hT : ((Instr.beginRound l >>= fun _ => pure Next.skip : Sem Next).runT P w #[]).1 = .ok .skip w' := by rw [Sem.runT_fst]; exact hs
  simp only [stepG, stepG.exec, fat, hb, Option.elim, stepG.apply, if_true]
  generalize (Instr.beginRound l >>= fun _ => pure Next.skip : Sem Next).runT P w #[] = q at hT ⊢
  obtain ⟨a, es⟩ := q
  simp only at hT
  subst hT
  simp [GStep.after, Frame.finish]

/-- The end of a round: it answers whether the loop goes on. -/
theorem m_endRound {b : Frame} {t : Array Value} {d : List Deferred} {todo : List Item} {c : Frame} {cs : List Frame} {w w' : World} {l : Nat} {v : Value} {j : Ex} (hb : b.roundOf = some l) (hk : b.kind = .normal)
    (ht : (j = .normal ∧ todo = []) ∨ (∃ kk, j = .ret ∧ todo = .code .ret :: kk) ∨ ∃ id kk, j = .exit id ∧ exitTo id kk = none ∧ todo = .code (.exit id) :: kk) (h : (Instr.endRound l (exCode j)).run P w = .ok v w') :
    step P (lone (fat b t d todo) (c :: cs) w) = .next (lone (c.finish v) cs w') := by
  refine step_lone_go ?_
  have hT : ((Instr.endRound l (exCode j)).runT P w #[]).1 = .ok v w' := by rw [Sem.runT_fst]; exact h
  rcases ht with ⟨rfl, rfl⟩ | ⟨kk, rfl, rfl⟩ | ⟨id, kk, rfl, hn, rfl⟩
  all_goals
    simp only [exCode] at hT
    simp only [stepG, stepG.exec, fat, hb, hk]
    generalize (Instr.endRound l _).runT P w #[] = q at hT ⊢
    obtain ⟨a, es⟩ := q
    simp only at hT
    subst hT
    first
      | (simp [GStep.after, doReturn, hk]; done)
      | simp [GStep.after, doReturn, hk, hn]
end Go.Det

/- Yields. -/
set_option linter.unusedVariables false
set_option linter.unusedSimpArgs false
namespace Go.Det
variable {X : Fix} {prog : FuncId → Option DFunc} {R : Run} {M : Mem} {φ : Place} {H : List SObj} {w : World}

theorem run_getLoop {P : Program} {k : Nat} {l : Loop} (h : w.heap[k]? = some (.loop l)) : (Instr.getLoop k).run P w = .ok l w := by
  have : (getObj k).run P w = .ok (.loop l) w := by simp [getObj, Sem.run, h]
  simp only [Instr.getLoop, Sem.run_bind, this, Result.andThen_ok, Sem.run_pure]
theorem run_beginRound {P : Program} {k : Nat} {l : Loop} (h : w.heap[k]? = some (.loop l)) (hs : l.state = .ready) {w' : World} (hw : (setObj k (.loop { l with state := .busy })).run P w = .ok () w') : (Instr.beginRound k).run P w = .ok () w' := by
  simp only [Instr.beginRound, Sem.run_bind, run_getLoop h, Result.andThen_ok, hw, hs, Sem.run_pure]
theorem run_endRound {P : Program} {k : Nat} {l : Loop} (h : w.heap[k]? = some (.loop l)) (j : Option Code) {w' : World} (hw : (setObj k (.loop { l with state := if j.isNone then .ready else .done, pending := j })).run P w = .ok () w') : (Instr.endRound k j).run P w = .ok (.bool j.isNone) w' := by
  simp only [Instr.endRound, Sem.run_bind, run_getLoop h, Result.andThen_ok, hw, Sem.run_pure]

theorem fold_put : ∀ (ps : List Nat) (args : List SV) (vals : List Value) {env : List SV} {t : Array Value}, EnvR M φ H env t → args.length = vals.length → (∀ i v, args[i]? = some v → SVR M φ H v (vals.getD i undef)) →
    EnvR M φ H ((ps.zip args).foldl (fun e (p, a) => e.set p a) env) ((ps.zip vals).foldl (fun t (p, a) => t.setIfInBounds p a) t)
  | [], _, _, env, t, hE, _, _ => by simpa using hE
  | _ :: _, [], [], env, t, hE, _, _ => by simpa using hE
  | _ :: _, [], _ :: _, env, t, hE, h, _ => by simp at h
  | _ :: _, _ :: _, [], env, t, hE, h, _ => by simp at h
  | p :: ps, a :: args, x :: vals, env, t, hE, h, hv => by
    simp only [List.zip_cons_cons, List.foldl_cons]
    have h0 := hv 0 a rfl
    simp only [List.getD_cons_zero] at h0
    exact fold_put ps args vals (hE.put h0 (some p)) (by simpa using h) fun i v hi => by simpa using hv (i + 1) v (by simpa using hi)
end Go.Det

/- What a yield comes to. -/
set_option linter.unusedVariables false
set_option linter.unusedSimpArgs false
namespace Go.Det
variable {X : Fix} {prog : FuncId → Option DFunc} {R : Run} {M : Mem} {φ : Place} {H : List SObj} {w : World}

/-- The loop object, turned. -/
theorem loop_turn (hR : Rel X M φ H w) {b : Nat} {e : List SV} {p : List Nat} {a bd : DCode} {st : LState} {j : Ex} (hb : H[b]? = some (.loop e p a bd st j)) (st' : LState) (j' : Ex) :
    ∃ l : Loop, w.heap[(φ b).1]? = some (.loop l) ∧ l.state = lst st ∧ l.pending = exCode j ∧ ∃ w', (setObj (φ b).1 (.loop { l with state := lst st', pending := exCode j' })).run X.c.p w = .ok () w' ∧ Rel X M φ (H.set b (.loop e p a bd st' j')) w' ∧ Trans H.length M φ H w M φ (H.set b (.loop e p a bd st' j')) w' ∧
      ∀ v y, SVR M φ H v y → SVR M φ (H.set b (.loop e p a bd st' j')) v y := by
  obtain ⟨l, q1, q2, q3, q4, q5, q6, q7, q8⟩ := hR.ob _ _ hb
  obtain ⟨w', h1, h2, h3, h4⟩ := obj_turn (x' := .loop e p a bd st' j') (o' := .loop { l with state := lst st', pending := exCode j' }) hR hb (fun h => nomatch h) q1 (by intro _ _ _ h; cases h) (set_loop_same hb)
    (fun w' hw' hS => ⟨_, hw', rfl, rfl, q4, q5, q6, q7, fun i v hv => hS _ _ (q8 i v hv)⟩) X.c.p
  exact ⟨l, q1, q2, q3, w', h1, h2, h3, h4⟩

theorem yield_sound (hC : CodeOk X R) {b : Nat} {args : List SV} {outs : List (SV × List SObj)} (h : callV prog R (.yield b) args H = some outs) (hR : Rel X M φ H w) {x : Value} (hx : SVR M φ H (.yield b) x) {vals : Array Value} (hl : vals.size = args.length)
    (hv : ∀ i v, args[i]? = some v → SVR M φ H v (vals.getD i undef)) : Good X M φ H w (do let d ← Deferred.ofValue x vals; invoke d.target d.args) outs := by
  simp only [callV] at h
  split at h
  · rename_i env params assign bd j0 hb
    split at h
    · rename_i hg
      obtain ⟨g1, g2, g3⟩ := hg
      obtain ⟨lp, q1, q2, q3, q4, q5, q6, q7, q8⟩ := hR.ob _ _ hb
      have hbl : b < H.length := (List.getElem?_eq_some_iff.1 hb).1
      cases hx with
      | yield _ k _ hk =>
        have := hk _ _ _ _ _ _ hb; subst this
        have hE0 : EnvR M φ H env lp.tmps := ⟨q7, q8⟩
        have hE := fold_put params args vals.toList hE0 (by simp [hl]) fun i v hi => by
          have := hv i v hi
          rwa [Array.getD_eq_getD_getElem?, ← Array.getElem?_toList, ← List.getD_eq_getElem?_getD] at this
        have htm : (lp.params.zip vals).foldl (fun tmps (t, a) => tmps.setIfInBounds t a) lp.tmps = (params.zip vals.toList).foldl (fun t (p, a) => t.setIfInBounds p a) lp.tmps := by
          rw [q4, ← Array.foldl_toList]; simp
        rw [← htm] at hE
        generalize htm' : (lp.params.zip vals).foldl (fun tmps (t, a) => tmps.setIfInBounds t a) lp.tmps = tm at hE
        have hrun : (do let d ← Deferred.ofValue (.func (.yield (φ b).1) #[] #[]) vals; invoke d.target d.args : Sem Next).run X.c.p w = .ok (.round (φ b).1 lp.fn tm lp.assign lp.body) w := by
          have e : (do let d ← Deferred.ofValue (.func (.yield (φ b).1) #[] #[]) vals; invoke d.target d.args : Sem Next) = Instr.yield (φ b).1 vals := by
            show Instr.yield (φ b).1 (#[] ++ vals) = _
            simp
          rw [e]
          have hsz : ¬ vals.size ≠ lp.params.size := by rw [q4, hl, g1]; simp
          simp only [Instr.yield, Sem.run_bind, run_getLoop q1, Result.andThen_ok, if_neg hsz, htm', Sem.run_pure]
        obtain ⟨as, ha, hm⟩ := bind_mem h
        rw [q5] at ha g2
        obtain ⟨e1, s1, m1, t1, w1, M1, φ1, rs1, G1, K1, N1, A1⟩ := hC.code (rs := []) ha hR hE ⟨fun r hr => (nomatch hr), List.nodup_nil⟩
        have hr1 := N1.1 g2; subst hr1
        obtain ⟨m, hk1, hsub⟩ := hm _ m1
        simp only at hk1
        split at hk1
        · rename_i he1
          subst he1
          split at hk1
          · rename_i e' p' a' bd' j' hb1
            have hφ1 : φ1 b = φ b := ((G1.tr.ext b hbl).loop _ _ _ _ _ _ hb1).2
            obtain ⟨l1, u1, u2, u3, w2, u4, R2, T2, S2⟩ := loop_turn G1.rel hb1 .busy j'
            obtain ⟨as2, ha2, hm2⟩ := bind_mem hk1
            rw [q6] at ha2 g3
            have hE2 : EnvR M1 φ1 (s1.h.set b (.loop e' p' a' bd' .busy j')) s1.env t1 := ⟨G1.env.1, fun i v hi => S2 _ _ (G1.env.2 i v hi)⟩
            obtain ⟨e2, s2, m2, t2, w3, M3, φ3, rs3, G3, K3, N3, A3⟩ := hC.code (rs := []) ha2 R2 hE2 ⟨fun r hr => (nomatch hr), List.nodup_nil⟩
            have hr3 := N3.1 g3; subst hr3
            obtain ⟨mm, hk2, hsub2⟩ := hm2 _ m2
            simp only at hk2
            split at hk2
            · rename_i e3 p3 a3 bd3 st3 j3 hb3
              injection hk2 with hk2; subst hk2
              have hb1l : b < s1.h.length := (List.getElem?_eq_some_iff.1 hb1).1
              have hφ3 : φ3 b = φ1 b := ((G3.tr.ext b (by simpa using hb1l)).loop _ _ _ _ _ _ hb3).2
              obtain ⟨l3, v1, v2, v3, w4, v4, R4, T4, S4⟩ := loop_turn G3.rel hb3 (if e2 == .normal then .ready else .done) e2
              refine ⟨_, hsub _ (hsub2 _ (List.mem_singleton.2 rfl)), .bool (exCode e2).isNone, w4, M3, φ3, ?_, ?_, R4, ?_⟩
              · refine .round _ _ _ _ _ _ hrun fun c cs => ?_
                let bf : Frame := Frame.round (φ b).1 lp.fn tm lp.assign lp.body .normal
                have hst : Frame.round (φ b).1 lp.fn tm lp.assign lp.body .normal = fat bf tm [] [.code lp.assign, .beginRound, .code lp.body] := rfl
                rw [hst]
                have s1' := A1 bf [.beginRound, .code lp.body] (c :: cs) rfl (.inr g2)
                have hbr : (Instr.beginRound (φ b).1).run X.c.p w1 = .ok () w2 := by
                  rw [← hφ1]
                  refine run_beginRound u1 u2 ?_
                  rw [← u3] at u4; exact u4
                have s2' := m_beginRound (P := X.c.p) (b := bf) (t := t1) (d := []) (k := [.code lp.body]) (cs := c :: cs) rfl hbr
                have A3' := A3 bf [] (c :: cs) rfl (.inr g3)
                have her : (Instr.endRound (φ b).1 (exCode e2)).run X.c.p w3 = .ok (.bool (exCode e2).isNone) w4 := by
                  rw [← hφ1, ← hφ3]
                  refine run_endRound v1 (exCode e2) ?_
                  have : (if (exCode e2).isNone = true then LoopState.ready else LoopState.done) = lst (if e2 == .normal then .ready else .done) := by cases e2 <;> rfl
                  rw [this]; exact v4
                refine Steps.trans s1' (.head s2' ?_)
                cases e2 with
                | normal => exact Steps.trans A3' (.one (m_endRound (j := .normal) rfl rfl (.inl ⟨rfl, rfl⟩) her))
                | ret =>
                  obtain ⟨kk, hs⟩ := A3'
                  exact hs.trans (.one (m_endRound (j := .ret) rfl rfl (.inr (.inl ⟨kk, rfl, rfl⟩)) her))
                | exit id =>
                  obtain ⟨kk, hn, hs⟩ := A3'.2 rfl
                  exact hs.trans (.one (m_endRound (j := .exit id) rfl rfl (.inr (.inr ⟨id, kk, rfl, hn, rfl⟩)) her))
              · have : (e2 == Ex.normal) = (exCode e2).isNone := by cases e2 <;> rfl
                rw [this]; exact .mkbool _
              · have hlen : H.length ≤ (s1.h.set b (.loop e' p' a' bd' .busy j')).length := by simpa using G1.tr.len
                exact G1.tr.trans ((T2.trans (G3.tr.trans (T4.weaken G3.tr.len) |>.weaken (by simp))).weaken G1.tr.len)
            · cases hk2
          · cases hk1
        · cases hk1
    · cases h
  · cases h
end Go.Det

/- All calls. -/
set_option linter.unusedVariables false
set_option linter.unusedSimpArgs false
namespace Go.Det
variable {X : Fix} {prog : FuncId → Option DFunc} {R : Run} {M : Mem} {φ : Place} {H : List SObj} {w : World}

theorem calls_ok (hP : ProgOk X prog) (hC : CodeOk X R) : CallsOk X prog R where
  fn h _ _ _ _ hR hl hv := lcall_sound hP hC h hR hl hv
  val := by
    intro f args H l h M φ w x vals hR hx hl hv
    unfold callV at h
    split at h
    · rename_i g caps
      exact clo_sound hP hC h hR hx (.inl ⟨caps, rfl, rfl⟩) hl hv
    · rename_i g caps
      exact clo_sound hP hC h hR hx (.inr rfl) hl hv
    · rename_i b
      exact yield_sound hC (prog := prog) (by simpa only [callV] using h) hR hx hl hv
    · cases h
end Go.Det
