/- The abstract machine: functions are sound, and the table of all of them. -/
import Derived.Test.YtpmlioigoiipaaaAmRun
import Derived.Tactics
set_option linter.unusedVariables false
set_option linter.unusedSimpArgs false
namespace Go.Am

theorem cRes_spec : ∀ {rs : List ResultVar} {l : List Nat}, cRes rs = some l → rs = l.map .tmp
  | [], l, h => by simp [cRes, allSome] at h; subst h; rfl
  | .tmp t :: r, l, h => by
    simp only [cRes, List.map_cons, allSome] at h
    split at h
    · rename_i l' h'
      simp only [Option.some.injEq] at h
      subst h
      rw [cRes_spec (rs := r) (l := l') h']
      rfl
    · cases h
  | .cell a t :: r, l, h => by simp [cRes, allSome] at h

theorem results_run {fn : Func} {res : List Nat} (h : fn.results.toList = res.map .tmp) (tmps : Array Value) (P : Program) (w : World) :
    (results fn tmps).run P w = .ok (match res.map (fun t => tmps.getD t undef) with | [v] => v | vs => .tuple vs.toArray) w := by
  have h' : fn.results = (res.map ResultVar.tmp).toArray := by
    rw [← h]
  simp only [results, h']
  have e : ∀ (f : ResultVar → Sem Value), (∀ t, f (.tmp t) = pure (tmps.getD t undef)) → ∀ (l : List Nat), (l.map ResultVar.tmp).mapM f = pure (l.map fun t => tmps.getD t undef) := by
    intro f hf l
    induction l with
    | nil => rfl
    | cons t r ih =>
      simp only [List.map_cons, List.mapM_cons, hf, ih, pure_bind]
  rw [List.mapM_toArray, e _ (fun _ => rfl)]
  cases res with
  | nil => simp
  | cons t r => cases r <;> simp

theorem collect_front {ρ : Look} : ∀ (ids : List Id) {n : Nat} {rest done res : List Id}, collect ρ n (ids ++ rest) done = some res → ids.Nodup → (∀ i ∈ ids, i ∉ done) → ∃ l, res = done ++ ids ++ l
  | [], n, rest, done, res, h, hn, hd => by
    have : ∀ {n : Nat} {todo done : List Id}, collect ρ n todo done = some res → ∃ l, res = done ++ l := by
      intro n
      induction n with
      | zero => intro todo done h; simp [collect] at h
      | succ n ih =>
        intro todo done h
        cases todo with
        | nil => simp only [collect, Option.some.injEq] at h; exact ⟨[], by simp [h]⟩
        | cons i r =>
          simp only [collect] at h
          split at h
          · exact ih h
          · split at h
            · cases h
            · obtain ⟨l, hl⟩ := ih h
              exact ⟨i :: l, by simp [hl]⟩
    simpa using this h
  | i :: r, 0, rest, done, res, h, hn, hd => by simp [collect] at h
  | i :: r, n + 1, rest, done, res, h, hn, hd => by
    simp only [List.cons_append, collect] at h
    rw [if_neg (hd i (by simp))] at h
    split at h
    · cases h
    · rename_i o ho
      rw [List.append_assoc] at h
      rw [List.nodup_cons] at hn
      obtain ⟨l, hl⟩ := collect_front r h hn.2 (fun j hj hm => by
        rcases List.mem_append.1 hm with hm | hm
        · exact hd j (by simp [hj]) hm
        · simp at hm; subst hm; exact hn.1 hj)
      exact ⟨l, by simp [hl]⟩

section
variable {P : Program} {B : Base} {C0 : Ctx} {K : Orc} {n : Nat}

theorem resE_rep {C C1 : Ctx} (hg : Grow C C1) {v : AVal} {keep : Bool} {u : AVal} {fs : List Id} {val : Value}
    (hfz : ∀ id ∈ fs, ∀ sz ver fz es, C.ρ id = some (.arr sz ver fz es) → RowD C1.F es (C.μ id).b (C.μ id).o sz) (h : resE C.ρ keep v = some (u, fs)) (hr : RepA C v val) : RepA C1 u val := by
  have dec' : ∀ {d : Dat}, dec C.ρ v = some (d, fs) → RepA C1 (.dat d) val := by
    intro d hd
    simp only [RepA]
    exact dec_rep hg.F hfz hd hr
  have gen : (match dec C.ρ v with | some (d, f) => some (AVal.dat d, f) | none => none) = some (u, fs) → RepA C1 u val := by
    intro h
    cases hd : dec C.ρ v with
    | none => rw [hd] at h; cases h
    | some p =>
      obtain ⟨d, f⟩ := p
      rw [hd] at h
      simp only [Option.some.injEq, Prod.mk.injEq] at h
      obtain ⟨rfl, rfl⟩ := h
      exact dec' hd
  cases v with
  | ref id off => simp only [resE, Option.some.injEq, Prod.mk.injEq] at h; rw [← h.1]; exact hr.grow hg
  | nilp => simp only [resE, Option.some.injEq, Prod.mk.injEq] at h; rw [← h.1]; exact hr.grow hg
  | rsl id ver sz off len =>
    simp only [resE] at h
    cases keep with
    | true => simp only [if_true, Option.some.injEq, Prod.mk.injEq] at h; rw [← h.1]; exact hr.grow hg
    | false =>
      simp only [Bool.false_eq_true, if_false] at h
      cases hd : decLeaf C.ρ (.rsl id ver sz off len) with
      | none => rw [hd] at h; cases h
      | some p =>
        rw [hd] at h
        simp only [Option.map_some, Option.some.injEq, Prod.mk.injEq] at h
        obtain ⟨rfl, rfl⟩ := h
        exact dec' (by simpa only [dec] using hd)
  | _ => exact gen h

theorem ressE_rep {C C1 : Ctx} (hg : Grow C C1) {keep : Bool} : ∀ {l : List AVal} {us : List AVal} {fs : List Id} {vals : List Value},
    (∀ id ∈ fs, ∀ sz ver fz es, C.ρ id = some (.arr sz ver fz es) → RowD C1.F es (C.μ id).b (C.μ id).o sz) → ressE C.ρ keep l = some (us, fs) → RepL C l vals → RepL C1 us vals
  | [], us, fs, vals, hfz, h, hr => by
    simp [ressE] at h
    rw [h.1]
    simpa [RepL] using hr
  | v :: r, us, fs, vals, hfz, h, hr => by
    simp only [ressE] at h
    split at h
    · rename_i d f ds fs' h1 h2
      simp only [Option.some.injEq, Prod.mk.injEq] at h
      obtain ⟨rfl, rfl⟩ := h
      simp only [RepL] at hr ⊢
      obtain ⟨c, cs, rfl, h3, h4⟩ := hr
      exact ⟨c, cs, rfl, resE_rep hg (fun id hid => hfz id (by simp [hid])) h1 h3, ressE_rep hg (fun id hid => hfz id (by simp [hid])) h2 h4⟩
    · cases h

theorem zipIdx_gE : ∀ (args : List AVal) (i t : Nat), gE ((args.zipIdx i).map fun p => (p.2, p.1)) (i + t) = (args[t]?).getD .undef
  | [], i, t => rfl
  | v :: r, i, 0 => by simp [gE]
  | v :: r, i, t + 1 => by
    simp only [List.zipIdx_cons, List.map_cons, gE]
    rw [if_neg (by omega), show i + (t + 1) = i + 1 + t by omega, zipIdx_gE r (i + 1) t]
    simp

theorem zipIdx_gO : ∀ (os : List Obj) (i : Nat) (id : Id), gO ((os.zipIdx i).map fun p => (((0, p.2) : Id), p.1)) id = if id.1 = 0 ∧ i ≤ id.2 then os[id.2 - i]? else none
  | [], i, id => by simp [gO]
  | o :: r, i, id => by
    simp only [List.zipIdx_cons, List.map_cons, gO]
    obtain ⟨a, b⟩ := id
    by_cases e : (0, i) = (a, b)
    · cases e; simp
    · rw [if_neg e, zipIdx_gO r (i + 1) (a, b)]
      simp only
      by_cases h0 : a = 0
      · subst h0
        have hne : i ≠ b := fun h => e (by rw [h])
        by_cases hle : i + 1 ≤ b
        · rw [if_pos ⟨rfl, hle⟩, if_pos ⟨rfl, by omega⟩, show b - i = b - (i + 1) + 1 by omega]
          simp
        · rw [if_neg (fun h => hle h.2), if_neg (fun h => by omega)]
      · rw [if_neg (fun h => h0 h.1), if_neg (fun h => h0 h.1)]

/-- what is handed back -/
theorem ret_sound {C : Ctx} {s : St} {a : Act} (hG : Good ⟨C0.w, C0.F, OwnSet C0⟩ C0 C n s a) {fn : AFun} {m : Nat} {v : AVal} {os' : List Obj} (h : retE fn m s = some (v, os')) :
    ∃ C', C'.w = C.w ∧ C'.ρ = posLook os' ∧ Inv ⟨C0.w, C0.F, OwnSet C0⟩ C' ∧
      RepA C' v (match fn.res.map (fun t => a.tmps.getD t undef) with | [v] => v | vs => .tuple vs.toArray) ∧ Ext (fun i => i) (fun id => id.1 = 0 ∧ id.2 < m) C0 C' := by
  unfold retE at h
  split at h
  · cases h
  · rename_i vs fs hvs
    rw [← hG.ρ] at hvs
    obtain ⟨C1, k1, k2, k3, k4, k5, k6⟩ := hG.inv.freeze fs
    have hrl : RepL C (fn.res.map (gE s.env)) (fn.res.map fun t => a.tmps.getD t undef) := by
      generalize fn.res = res
      induction res with
      | nil => simp [RepL]
      | cons t r ih => simp only [List.map_cons, RepL]; exact ⟨_, _, rfl, hG.env t, ih⟩
    have hvr := ressE_rep k5 k6 hvs hrl
    have hρ1 : gO (pOs s.objs (frz (gO s.objs) fs)) = C1.ρ := by rw [gO_pOs, k3, hG.ρ]
    simp only [hρ1] at h
    split at h
    · cases h
    · rename_i order hcol
      obtain ⟨r1, r2, r3, r4, _⟩ := collect_spec C1.ρ 64 _ [] order hcol (by simp) (by simp)
      have hnd : ((List.range m).map (fun j => ((0, j) : Id))).Nodup := by
        rw [List.nodup_iff_pairwise_ne, List.pairwise_iff_getElem]
        intro i j hi hj hlt h
        simp at h
        omega
      obtain ⟨l, hl⟩ := collect_front _ hcol hnd (by simp)
      simp only [List.nil_append] at hl
      split at h
      · cases h
      · rename_i os hos
        simp only [Option.some.injEq, Prod.mk.injEq] at h
        obtain ⟨hv, rfl⟩ := h
        obtain ⟨g1, g2⟩ := gather_spec hos
        obtain ⟨hext, hinv⟩ := callee_inv k4 r1 r4 g1 g2
        have hpos : ∀ j, j < m → (0, j) ∈ order ∧ toPos order (0, j) = (0, j) := by
          intro j hj
          have ho : order[j]? = some (0, j) := by
            rw [hl, List.getElem?_append_left (by simpa using hj)]
            simp [hj]
          refine ⟨List.mem_of_getElem? ho, ?_⟩
          simp only [toPos, indexIn_of r1 ho]
        have back : ∀ id o, (calleeCtx C1 order (os.map (Obj.ren (toPos order)))).ρ id = some o → ∃ i o1, C1.ρ i = some o1 ∧ o.own = o1.own ∧ (calleeCtx C1 order (os.map (Obj.ren (toPos order)))).μ id = C1.μ i := by
          intro id o ho
          simp only [calleeCtx, posLook] at ho
          split at ho
          · rw [List.getElem?_map] at ho
            cases ho1 : os[id.2]? with
            | none => rw [ho1] at ho; cases ho
            | some o1 =>
              rw [ho1] at ho
              simp only [Option.map_some, Option.some.injEq] at ho
              have hlt : id.2 < order.length := by rw [← g1]; exact (List.getElem?_eq_some_iff.1 ho1).1
              have hi : order[id.2]? = some order[id.2] := by simp [hlt]
              refine ⟨order[id.2], o1, by rw [← g2 _ _ hi]; exact ho1, by rw [← ho, own_ren], ?_⟩
              simp only [calleeCtx, hi, Option.getD_some]
          · cases ho
        refine ⟨calleeCtx C1 order (os.map (Obj.ren (toPos order))), k1, rfl, ?_, ?_, ?_⟩
        · refine ⟨hinv.objs, hinv.disj, fun id o ho hw => ?_, ?_, k4.Fw, k4.Fsub, k4.Fnew⟩
          · obtain ⟨i, o1, b1, b2, b3⟩ := back id o ho
            rw [b3]
            exact k4.own i o1 b1 (by rw [← b2]; exact hw)
          · exact k4.kept
        · have hrep := RepL.ext hext vs _ (fun i hi => r3 i (List.mem_append.2 (.inr hi))) hvr
          subst hv
          have hlen := hrep.length
          generalize AVal.renL (toPos order) vs = us at hrep hlen
          generalize fn.res.map (fun t => a.tmps.getD t undef) = vals at hrep hlen
          match us, vals, hrep, hlen with
          | [], [], hrep, _ => simp only [RepA]; exact ⟨_, rfl, by simpa using hrep⟩
          | [u], [val], hrep, _ =>
            simp only [RepL] at hrep
            obtain ⟨c, cs, e, h1, h2⟩ := hrep
            simp only [List.cons.injEq] at e
            rw [e.1]
            exact h1
          | u :: u' :: us, val :: val' :: vals, hrep, _ =>
            simp only [RepA]
            exact ⟨_, rfl, by simpa using hrep⟩
          | [], _ :: _, _, hlen => simp at hlen
          | [_], [], _, hlen => simp at hlen
          | [_], _ :: _ :: _, _, hlen => simp at hlen
          | _ :: _ :: _, [], _, hlen => simp at hlen
          | _ :: _ :: _, [_], _, hlen => simp at hlen
        · have h1 := hG.ext.thenGrow k5
          refine ⟨fun b o v hv => hext.F _ _ _ (h1.F _ _ _ hv), fun id L hid hb => ?_, fun id A hid ha => ?_⟩
          · obtain ⟨i0, j⟩ := id
            obtain ⟨rfl, hj⟩ := hid
            have := hext.box (0, j) L (hpos j hj).1 (h1.box (0, j) L rfl hb)
            rwa [(hpos j hj).2] at this
          · obtain ⟨i0, j⟩ := id
            obtain ⟨rfl, hj⟩ := hid
            obtain ⟨A', a1, a2, a3⟩ := h1.arr (0, j) A rfl ha
            obtain ⟨A'', b1, b2, b3⟩ := hext.arr (0, j) A' (hpos j hj).1 a1
            rw [(hpos j hj).2] at b1
            refine ⟨A'', b1, Nat.le_trans a2 b2, fun e => ?_⟩
            obtain ⟨c1, c2, c3⟩ := a3 (by omega)
            obtain ⟨d1, d2, d3⟩ := b3 (by omega)
            exact ⟨by rw [d1, c1], by rw [d2, c2], by omega⟩

/-- A FUNCTION. -/
theorem fun_sound (hS : SoundK P K) {an : Ann} {keep : Bool} {f : FuncId} {fn : AFun} (hc : cFun P an keep f = some fn) {args : List AVal} {os : List Obj} {v : AVal} {os' : List Obj} (h : runFun K fn args os = some (v, os')) :
    CallOK P f args os v os' := by
  unfold cFun at hc
  split at hc
  · rename_i F hF
    split at hc
    · rename_i c hb
      split at hc
      · rename_i ac res hac hres
        split at hc
        · rename_i hchk
          simp only [Bool.and_eq_true, decide_eq_true_eq] at hchk
          simp only [Option.some.injEq] at hc
          subst hc
          intro C vals hρ hI hr
          unfold runFun at h
          simp only at h
          split at h
          · rename_i hlen
            have hsz : vals.size = F.params.size := by
              have := hr.length
              simp only [Array.length_toList] at this
              omega
            have hG0 : Good ⟨C.w, C.F, OwnSet C⟩ C C F.ntmps (enter args os) { tmps := vals ++ Array.replicate (F.ntmps - vals.size) undef, defers := [] } := by
              refine ⟨?_, hI, fun t => ?_, by simp; omega, ?_, rfl⟩
              · rw [hρ]
                funext id
                simp only [enter, zipIdx_gO os 0 id, posLook, Nat.zero_le, and_true, Nat.sub_zero]
              · have e := zipIdx_gE args 0 t
                simp only [Nat.zero_add] at e
                simp only [enter, e]
                cases ht : args[t]? with
                | none => simp [RepA]
                | some x =>
                  obtain ⟨c, hc1, hc2⟩ := hr.get ht
                  simp only [Option.getD_some]
                  have hlt : t < vals.size := by
                    have := (List.getElem?_eq_some_iff.1 hc1).1
                    simpa using this
                  have : (vals ++ Array.replicate (F.ntmps - vals.size) undef).getD t undef = c := by
                    rw [Array.getD_eq_getD_getElem?, Array.getElem?_append_left hlt]
                    simp only [Array.getElem?_toList] at hc1
                    rw [hc1]
                    rfl
                  rw [this]
                  exact hc2
              · have := Grow.refl C
                exact ⟨this.F, fun id L _ hb => this.box id L trivial hb, fun id A _ ha => this.arr id A trivial ha⟩
            have fin : ∀ {x : AEx} {s : St}, exec K ac (enter args os) = some (x, s) → (x = .normal ∨ x = .ret) → retE ⟨F.params.size, res, keep, ac, none⟩ os.length s = some (v, os') →
                Calls P f vals C.w fun e w' => ∃ val C', e = .returned val ∧ C'.w = w' ∧ C'.ρ = posLook os' ∧ Inv ⟨C.w, C.F, OwnSet C⟩ C' ∧ RepA C' v val ∧ Ext (fun i => i) (fun id => id.1 = 0 ∧ id.2 < os.length) C C' := by
              intro x s hex hx hret
              refine calls_of_wp hF hb (code_sound hS hac hex hG0 fun a' C' hG' => ?_)
              obtain ⟨C'', e1, e2, e3, e4, e5⟩ := ret_sound hG' hret
              have hrun := results_run (cRes_spec hres) a'.tmps P C'.w
              rcases hx with rfl | rfl
              · exact ⟨hG'.defers, _, hrun, _, C'', rfl, e1, e2, e3, e4, e5⟩
              · exact ⟨hG'.defers, _, hrun, _, C'', rfl, e1, e2, e3, e4, e5⟩
            split at h
            · rename_i s hex
              exact fin hex (.inl rfl) h
            · rename_i s hex
              exact fin hex (.inr rfl) h
            · cases h
          · cases h
        · cases hc
      · cases hc
    · cases hc
  · cases hc

/-- a table of functions, each as its compiler has given it -/
def TblOK (P : Program) (tbl : FuncId → Option AFun) : Prop := ∀ f fn, tbl f = some fn → ∃ an keep g, cFun P an keep f = some g ∧ fn = { g with split := fn.split }

theorem RepL.set {C : Ctx} {x : AVal} : ∀ {l : List AVal} {cs : List Value} {i : Nat} {c : Value}, RepL C l cs → cs[i]? = some c → RepA C x c → RepL C (l.set i x) cs
  | [], cs, i, c, h, hi, hx => by simp only [RepL] at h; subst h; simp at hi
  | a :: r, cs, 0, c, h, hi, hx => by
    simp only [RepL] at h
    obtain ⟨c', cs', rfl, h1, h2⟩ := h
    simp at hi
    subst hi
    exact ⟨_, _, rfl, hx, h2⟩
  | a :: r, cs, i + 1, c, h, hi, hx => by
    simp only [RepL] at h
    obtain ⟨c', cs', rfl, h1, h2⟩ := h
    simp at hi
    exact ⟨_, _, rfl, h1, RepL.set h2 hi hx⟩

theorem split_sound (hS : SoundK P K) {an : Ann} {keep : Bool} {f : FuncId} {g fn : AFun} (hc : cFun P an keep f = some g) (he : fn = { g with split := fn.split }) {args : List AVal} {os : List Obj} {v : AVal} {os' : List Obj} (h : runS K fn args os = some (v, os')) :
    CallOK P f args os v os' := by
  have one : ∀ {args : List AVal}, runFun K fn args os = some (v, os') → CallOK P f args os v os' := by
    intro args h
    refine fun_sound hS hc ?_
    rw [he] at h
    exact h
  unfold runS at h
  split at h
  · exact one h
  · rename_i i hs
    split at h
    · rename_i hi
      split at h
      · rename_i r r' h1 h2
        split at h
        · rename_i e
          subst e
          simp only [Option.some.injEq] at h
          subst h
          intro C vals hρ hI hr
          obtain ⟨c, hc1, hc2⟩ := hr.get hi
          simp only [RepA] at hc2
          have hsl := hc2.cell rfl
          simp only [RepD] at hsl
          obtain ⟨a, cap, e1, _, _⟩ := hsl
          simp only [List.cons.injEq, and_true] at e1
          have hset : ∀ t, a.isNone = t → RepL C (args.set i (.emp t)) vals.toList := fun t ht => hr.set hc1 (by
            simp only [RepA]
            exact ⟨a, cap, by rw [e1]; rfl, ht⟩)
          cases ht : a.isNone with
          | true => exact one h1 C vals hρ hI (hset true ht)
          | false => exact one h2 C vals hρ hI (hset false ht)
        · cases h
      · cases h
    · exact one h

theorem kn_sound {tbl : FuncId → Option AFun} (ht : TblOK P tbl) : ∀ n, SoundK P (Kn tbl n)
  | 0 => fun f args os v os' h => by simp [Kn] at h
  | n + 1 => fun f args os v os' h => by
    simp only [Kn] at h
    split at h
    · rename_i fn hfn
      obtain ⟨an, keep, g, hc, he⟩ := ht f fn hfn
      exact split_sound (kn_sound ht n) hc he h
    · cases h

theorem callT_sound {tbl : FuncId → Option AFun} (ht : TblOK P tbl) : SoundK P (callT tbl) := by
  intro f args os v os' h
  unfold callT at h
  split at h
  · rename_i hex
    have := Classical.choose_spec hex
    simp only [Option.some.injEq] at h
    rw [h] at this
    obtain ⟨n, hn⟩ := this
    exact kn_sound ht n f args os v os' hn
  · cases h

end
end Go.Am
