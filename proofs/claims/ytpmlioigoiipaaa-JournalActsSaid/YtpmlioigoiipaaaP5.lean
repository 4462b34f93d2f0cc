/- Parts of the proofs of the journal's statements, joined: AmRun AmFun AmLim AmEval AmTop AmWalk JTbl JMath JW1 JW2 JW3 JW4 JW5 JW6 JR1 JR2 JR3 JR4 JR5 JW7 JW8 JW9 JW10. -/
import Derived.Test.YtpmlioigoiipaaaP4
import Derived.LoopN
import Derived.Scope
import Derived.Tactics
import Derived.RowKit3

/- The abstract machine: code is sound. -/
set_option linter.unusedVariables false
set_option linter.unusedSimpArgs false
namespace Go.Am

theorem gE_restrict (live : List Nat) (env : Env) (t : Nat) : gE (restrict live env) t = if t ∈ live then gE env t else .undef := by
  induction live with
  | nil => simp [restrict, gE]
  | cons x r ih =>
    simp only [restrict, List.map_cons, gE] at ih ⊢
    by_cases e : x = t
    · subst e; simp
    · have e' : ¬ t = x := fun h => e h.symm
      simp only [e, if_false, List.mem_cons, e', false_or]
      exact ih

theorem gO_zip : ∀ {ids : List Id} {os : List Obj}, ids.length = os.length → ∀ (i : Id), gO (ids.zip os) i = if i ∈ ids then os[indexIn ids i]? else none
  | [], os, h, i => by simp [gO]
  | j :: r, [], h, i => by simp at h
  | j :: r, o :: os, h, i => by
    simp only [List.zip_cons_cons, gO, indexIn]
    by_cases e : j = i
    · subst e; simp
    · have e' : ¬ i = j := fun x => e x.symm
      rw [if_neg e, gO_zip (by simpa using h) i]
      simp only [List.mem_cons, e', false_or, e, if_false, List.getElem?_cons_succ]

theorem gE_map (f : AVal → AVal) (hf : f .undef = .undef) : ∀ (env : Env) (t : Nat), gE (env.map fun p => (p.1, f p.2)) t = f (gE env t)
  | [], t => hf.symm
  | (x, v) :: r, t => by
    simp only [List.map_cons, gE]
    split
    · rfl
    · exact gE_map f hf r t

theorem gE_mem : ∀ {env : Env} {t : Nat}, gE env t = .undef ∨ ∃ p ∈ env, p.2 = gE env t
  | [], t => .inl rfl
  | (x, v) :: r, t => by
    simp only [gE]
    split
    · exact .inr ⟨(x, v), by simp, rfl⟩
    · rcases gE_mem (env := r) (t := t) with h | ⟨p, h1, h2⟩
      · exact .inl h
      · exact .inr ⟨p, by simp [h1], h2⟩

theorem gO_mem : ∀ {s : Store} {i : Id} {o : Obj}, gO s i = some o → (i, o) ∈ s
  | [], i, o, h => by simp [gO] at h
  | (j, o') :: r, i, o, h => by
    simp only [gO] at h
    split at h
    · rename_i e
      cases h
      subst e
      simp
    · simp [gO_mem h]

theorem obj_ren_id (o : Obj) : o.ren (fun i => i) = o := by
  cases o <;> simp [Obj.ren, renL_id]

section
variable {P : Program} {B : Base} {C0 : Ctx} {K : Orc} {n : Nat}

theorem Good.restrict {C : Ctx} {s : St} {a : Act} (h : Good B C0 C n s a) (live : List Nat) : Good B C0 C n ⟨Am.restrict live s.env, s.objs⟩ a := by
  refine ⟨h.ρ, h.inv, fun t => ?_, h.size, h.ext, h.defers⟩
  simp only [gE_restrict]
  split
  · exact h.env t
  · simp [RepA]

theorem Good.moved {C : Ctx} {s : St} {a : Act} (h : Good B C0 C n s a) {order : List Id} {os : List Obj} {f : Id → Id} (hos : gather (gO s.objs) order = some os) (hnd : (order.map f).Nodup) (hfix : order.all (fun i => i.1 != 0 || f i == i) = true)
    (r3a : ∀ i ∈ s.objs.map (·.1), i.1 = 0 → i ∈ order) (r3b : ∀ i ∈ AVal.idsL (s.env.map (·.2)), i ∈ order) (r4 : ∀ i ∈ order, ∃ o, C.ρ i = some o ∧ ∀ j ∈ o.ids, j ∈ order) :
    ∃ C', C'.w = C.w ∧ Good B C0 C' n ⟨s.env.map fun p => (p.1, p.2.ren f), (order.map f).zip (os.map (Obj.ren f))⟩ a := by
  rw [← h.ρ] at hos
  obtain ⟨g1, g2⟩ := gather_spec hos
  have hlen : (order.map f).length = (os.map (Obj.ren f)).length := by simp [g1]
  have hgo := gO_zip hlen
  have hidx : ∀ {n : Nat} {i : Id}, order[n]? = some i → indexIn (order.map f) (f i) = n := by
    intro n i hi
    exact indexIn_of hnd (by simp [hi])
  let C' : Ctx := { C with μ := fun j => C.μ ((order[indexIn (order.map f) j]?).getD (0, 0)), ρ := gO ((order.map f).zip (os.map (Obj.ren f))) }
  have fwd : ∀ i, i ∈ order → C'.ρ (f i) = (C.ρ i).map (Obj.ren f) ∧ C'.μ (f i) = C.μ i := by
    intro i hi
    obtain ⟨n, hn⟩ := List.getElem?_of_mem hi
    refine ⟨?_, ?_⟩
    · simp only [C', hgo, List.mem_map_of_mem hi, if_true, hidx hn, List.getElem?_map, g2 n i hn]
    · simp only [C', hidx hn, hn, Option.getD_some]
  have back : ∀ j o, C'.ρ j = some o → ∃ i o1, i ∈ order ∧ f i = j ∧ C.ρ i = some o1 ∧ o = o1.ren f ∧ C'.μ j = C.μ i := by
    intro j o ho
    have ho' := ho
    simp only [C', hgo] at ho
    split at ho
    · rename_i hj
      obtain ⟨i, hi, rfl⟩ := List.mem_map.1 hj
      obtain ⟨q1, q2⟩ := fwd i hi
      rw [q1] at ho'
      obtain ⟨o1, h1, h2⟩ := Option.map_eq_some_iff.1 ho'
      exact ⟨i, o1, hi, rfl, h1, h2.symm, q2⟩
    · cases ho
  have hext : Ext f (fun i => i ∈ order) C C' := by
    refine ⟨fun _ _ _ h => h, fun id L hid hb => ?_, fun id A hid ha => ?_⟩
    · obtain ⟨q1, q2⟩ := fwd id hid
      unfold boxAt at hb ⊢
      rw [q1, q2]
      cases e : C.ρ id with
      | none => simp [e] at hb
      | some ob => cases ob <;> simp [e] at hb; simpa [Obj.ren] using hb
    · obtain ⟨q1, q2⟩ := fwd id hid
      refine ⟨A, ?_, Nat.le_refl _, fun _ => ⟨rfl, rfl, Nat.le_refl _⟩⟩
      unfold arrAt at ha ⊢
      rw [q1, q2]
      cases e : C.ρ id with
      | none => simp [e] at ha
      | some ob =>
        cases ob with
        | box cs => simp [e] at ha
        | arr sz ver fz es => simpa [e, Obj.ren] using ha
        | rarr ver es => simpa [e, Obj.ren, (renL_props _ es).1] using ha
  refine ⟨C', rfl, rfl, ?_, fun t => ?_, h.size, ?_, h.defers⟩
  · refine ⟨fun j o ho => ?_, fun j j' o o' ho ho' hw hw' hne => ?_, fun j o ho hw => ?_, h.inv.kept, h.inv.Fw, h.inv.Fsub, h.inv.Fnew⟩
    · obtain ⟨i, o1, b1, b2, b3, b4, b5⟩ := back j o ho
      rw [b4, b5]
      obtain ⟨o1', e1, e2⟩ := r4 i b1
      rw [b3] at e1
      cases e1
      exact (h.inv.objs i o1 b3).ren hext rfl rfl e2
    · obtain ⟨i, o1, b1, b2, b3, b4, b5⟩ := back j o ho
      obtain ⟨i', o1', b1', b2', b3', b4', b5'⟩ := back j' o' ho'
      rw [b5, b5']
      rw [b4, own_ren] at hw
      rw [b4', own_ren] at hw'
      exact h.inv.disj i i' o1 o1' b3 b3' hw hw' (fun e => hne (by rw [← b2, ← b2', e]))
    · obtain ⟨i, o1, b1, b2, b3, b4, b5⟩ := back j o ho
      rw [b5]
      rw [b4, own_ren] at hw
      exact h.inv.own i o1 b3 hw
  · have hm : ∀ i ∈ (gE s.env t).ids, i ∈ order := by
      intro i hi
      refine r3b i ?_
      rcases gE_mem (env := s.env) (t := t) with e | ⟨p, h1, h2⟩
      · rw [e] at hi; simp [AVal.ids] at hi
      · obtain ⟨k, hk⟩ := List.getElem?_of_mem (List.mem_map_of_mem (f := fun x : Nat × AVal => x.2) h1)
        exact idsL_get hk i (by rw [h2]; exact hi)
    have := RepA.ext hext (gE s.env t) _ hm (h.env t)
    have e := gE_map (AVal.ren f) rfl s.env t
    simp only [e]
    exact this
  · have hin : ∀ id o, id.1 = 0 → C.ρ id = some o → id ∈ order ∧ f id = id := by
      intro id o h0 ho
      have hmem : id ∈ order := by
        refine r3a id ?_ h0
        rw [h.ρ] at ho
        exact List.mem_map_of_mem (f := fun x : Id × Obj => x.1) (gO_mem ho)
      refine ⟨hmem, ?_⟩
      have := List.all_eq_true.1 hfix id hmem
      simpa [h0] using this
    refine ⟨h.ext.F, fun id L hid hb => ?_, fun id A hid ha => ?_⟩
    · have h1 := h.ext.box id L hid hb
      have hex : ∃ o, C.ρ id = some o := by
        unfold boxAt at h1
        cases e : C.ρ id with
        | none => simp [e] at h1
        | some o => exact ⟨o, rfl⟩
      obtain ⟨o, ho⟩ := hex
      obtain ⟨q1, q2⟩ := hin id o hid ho
      have := hext.box id L q1 h1
      rwa [q2] at this
    · obtain ⟨A', h1, h2, h3⟩ := h.ext.arr id A hid ha
      have hex : ∃ o, C.ρ id = some o := by
        unfold arrAt at h1
        cases e : C.ρ id with
        | none => simp [e] at h1
        | some o => exact ⟨o, rfl⟩
      obtain ⟨o, ho⟩ := hex
      obtain ⟨q1, q2⟩ := hin id o hid ho
      obtain ⟨A'', h4, h5, h6⟩ := hext.arr id A' q1 h1
      rw [q2] at h4
      refine ⟨A'', h4, Nat.le_trans h2 h5, fun e => ?_⟩
      obtain ⟨a1, a2, a3⟩ := h3 (by omega)
      obtain ⟨b1, b2, b3⟩ := h6 (by omega)
      exact ⟨by rw [b1, a1], by rw [b2, a2], by omega⟩

theorem closedB_spec {ρ : Look} {ks : List Id} {env : Env} {order : List Id} (h : closedB ρ ks env order = true) :
    (∀ i ∈ ks, i.1 = 0 → i ∈ order) ∧ (∀ i ∈ AVal.idsL (env.map (·.2)), i ∈ order) ∧ ∀ i ∈ order, ∃ o, ρ i = some o ∧ ∀ j ∈ o.ids, j ∈ order := by
  simp only [closedB, Bool.and_eq_true, List.all_eq_true] at h
  obtain ⟨⟨h1, h2⟩, h3⟩ := h
  refine ⟨fun i hi h0 => ?_, fun i hi => by simpa using h2 i hi, fun i hi => ?_⟩
  · have := h1 i hi
    simpa [h0] using this
  · have := h3 i hi
    split at this
    · cases this
    · rename_i o ho
      exact ⟨o, ho, fun j hj => by simpa using List.all_eq_true.1 this j hj⟩

theorem Good.drop {C : Ctx} {s s' : St} {a : Act} (h : Good B C0 C n s a) {drop : List Nat} (hd : dropE drop s = some s') : ∃ C', C'.w = C.w ∧ Good B C0 C' n s' a := by
  unfold dropE at hd
  split at hd
  · simp only [Option.some.injEq] at hd; subst hd; exact ⟨C, rfl, h⟩
  · split at hd
    · unfold renE at hd
      split at hd
      · split at hd
        · cases hd
        · split at hd
          · simp only at hd
            split at hd
            · cases hd
            · rename_i os hos
              split at hd
              · rename_i hchk
                obtain ⟨hnd, hfix, hcl⟩ := hchk
                simp only [Option.some.injEq] at hd
                subst hd
                obtain ⟨c1, c2, c3⟩ := closedB_spec hcl
                exact h.moved hos hnd hfix c1 c2 (by rw [h.ρ]; exact c3)
              · cases hd
          · cases hd
      · cases hd
    · split at hd
      · cases hd
      · rename_i nm hnm
        split at hd
        · cases hd
        · rename_i order hcol
          split at hd
          · cases hd
          · rename_i os hos
            split at hd
            · rename_i hchk
              obtain ⟨hnd, hfix⟩ := hchk
              simp only [Option.some.injEq] at hd
              subst hd
              obtain ⟨r1, r2, r3, r4, _⟩ := collect_spec _ 64 _ [] order hcol (by simp) (by simp)
              exact h.moved hos hnd hfix (fun i hi h0 => r3 i (List.mem_append.2 (.inl (by rw [List.mem_filter]; exact ⟨hi, by simpa using h0⟩)))) (fun i hi => r3 i (List.mem_append.2 (.inr hi))) (by rw [h.ρ]; exact r4)
            · cases hd

/-- A REGION. -/
theorem reg_sound (hS : SoundK P K) {an : Ann} {id : Nat} {ops : Array Oper} {draw : Bool} {r : AReg} (hc : cReg P n an id ops draw = some r) {s s' : St} (h : runReg K r s = some s') {C : Ctx} {a : Act} (hG : Good B C0 C n s a)
    {Q : Exit → Act → World → Prop} (hQ : ∀ a' C', Good B C0 C' n s' a' → Q .normal a' C'.w) : (Code.region id ops draw).wp P Q a C.w := by
  unfold cReg at hc
  split at hc
  · rename_i ra l hra hl
    unfold runReg at h
    split at h
    · cases h
    · rename_i s1 hdr
      split at h
      · cases h
      · rename_i s2 lg hrun
        split at h
        · rename_i hpairs
          simp only [Option.some.injEq] at h
          subst h
          have hG1 : ∃ C', C'.w = C.w ∧ Good B C0 C' n s1 a := by
            exact (hG.restrict r.live).drop hdr
          obtain ⟨C1, hw1, hG1⟩ := hG1
          rw [← hw1]
          cases draw with
          | false =>
            simp only [Bool.false_eq_true, if_false, Option.some.injEq] at hc
            subst hc
            refine wp_region ?_
            rw [List.range_eq_range']
            exact seq_sound hS hl ops.size 0 s1 [] s2 lg C1 a (by omega) (by simpa using hrun) hG1.f fun a' C' hG' => hQ a' C' hG'.good
          | true =>
            simp only [if_true] at hc
            split at hc
            · rename_i hchk
              simp only [Bool.and_eq_true, Bool.not_eq_true'] at hchk
              obtain ⟨⟨hm, he⟩, hcl⟩ := hchk
              simp only [Option.some.injEq] at hc
              subst hc
              generalize hps : pairsOf ops.toList (l.map (·.1)) (befs ops.toList []) ops.size = ps at hcl hrun hpairs
              obtain ⟨hlen, hget⟩ := cOpers_get hl
              obtain ⟨alen, aget⟩ := aosOf_get (ps := ps) (i := 0) hlen
              obtain ⟨outs, lgs, r1, r2, r3, r4, r5, r6⟩ := runOps_spec _ _ _ _ _ _ hrun
              simp only [List.nil_append] at r2
              subst r2
              have aoAt : ∀ i o, ops[i]? = some o → ∃ k gd, l[i]? = some (k, gd) ∧ (aosOf ps 0 ops.toList l)[i]? = some (⟨o.dst, k, gd, ps.any fun p => p.1 == i || p.2 == i⟩ : AO) ∧ cOper P n ((annOf an id).elim [] (·.marks)) ops.toList i o = some (k, gd) := by
                intro i o ho
                have ho' : ops.toList[i]? = some o := by simpa using ho
                obtain ⟨k, gd, h1, h2⟩ := hget i o ho'
                have := aget i o k gd ho' h1
                rw [Nat.zero_add] at this h2
                exact ⟨k, gd, h1, this, h2⟩
              have H : Drawn K P n ((annOf an id).elim [] (·.marks)) ops (aosOf ps 0 ops.toList l) outs (gE s1.env) (gO s1.objs) := by
                refine ⟨by rw [alen]; simp, fun i o ho => ?_, fun j o ho => (r4 j o ho).1, fun i o ho e hee => ?_, fun i j hij hj => clashes_spec hcl i j hij hj, fun i j hij hj => ?_⟩
                · obtain ⟨k, gd, _, h2, h3⟩ := aoAt i o ho
                  exact ⟨k, gd, _, h2, h3⟩
                · have := edgesOk_spec he i o (by simpa using ho) e hee
                  omega
                · have hio : ops[i]? = some (ops[i]'(by omega)) := by simp
                  have hjo : ops[j]? = some ops[j] := by simp [hj]
                  obtain ⟨k1, g1, a1, a2, a3⟩ := aoAt i _ hio
                  obtain ⟨k2, g2, b1, b2, b3⟩ := aoAt j _ hjo
                  rcases pairsOf_spec (ops := ops.toList) (ks := l.map (·.1)) (bs := befs ops.toList []) i j hij hj with h | h | h
                  · exact .inl h
                  · right
                    rw [hps] at h
                    intro a b ha hb
                    right
                    have hpo := (List.all_eq_true.1 hpairs) (i, j) h
                    have la := (r4 i a ha).2 (by
                      rw [a2] at ha
                      cases ha
                      exact List.any_eq_true.2 ⟨(i, j), h, by simp⟩)
                    have lb := (r4 j b hb).2 (by
                      rw [b2] at hb
                      cases hb
                      exact List.any_eq_true.2 ⟨(i, j), h, by simp⟩)
                    rw [Nat.zero_add] at la lb
                    simp only [pairOk, la, lb, Bool.and_eq_true, Bool.not_eq_true'] at hpo
                    obtain ⟨⟨p1, p2⟩, p3⟩ := hpo
                    refine ⟨fun x hx hxk => ?_, fun x hx hxk => ?_⟩
                    · rcases hx with hx | hx
                      · rw [meets_mem hx hxk] at p3; cases p3
                      · rw [meets_mem hx hxk] at p2; cases p2
                    · rcases hx with hx | hx
                      · rw [meets_mem hxk hx] at p1; cases p1
                      · rw [meets_mem hxk hx] at p2; cases p2
                  · right
                    intro a b ha hb
                    left
                    rw [a2] at ha
                    rw [b2] at hb
                    cases ha
                    cases hb
                    exact h k1 k2 (by simp [a1]) (by simp [b1])
              refine wp_region_any hm ?_
              have hG2 : GoodF B C0 { C1 with w := C1.w.drew } n (gE s1.env) (gO s1.objs) a := by
                obtain ⟨hi, hg⟩ := hG1.inv.drew
                exact ⟨hG1.ρ, hi, fun t => (hG1.env t).grow hg, hG1.size, hG1.ext.thenGrow hg, hG1.defers⟩
              have e0 : ∀ N, gM (aosOf ps 0 ops.toList l) outs (fun i => (Array.replicate ops.size false).getD i false) (gE s1.env) N = gE s1.env := by
                intro N
                induction N with
                | zero => rfl
                | succ N ih =>
                  funext t
                  have hf : (Array.replicate ops.size false).getD N false = false := by
                    simp only [Array.getD_eq_getD_getElem?, Array.getElem?_replicate]
                    split <;> rfl
                  simp only [gM, hf, Bool.false_eq_true, false_and, if_false, ih]
              have e1 : ∀ N, rM outs (fun i => (Array.replicate ops.size false).getD i false) (gO s1.objs) N = gO s1.objs := by
                intro N
                induction N with
                | zero => rfl
                | succ N ih =>
                  have hf : (Array.replicate ops.size false).getD N false = false := by
                    simp only [Array.getD_eq_getD_getElem?, Array.getElem?_replicate]
                    split <;> rfl
                  simp only [rM, hf, Bool.false_eq_true, if_false, ih]
              have ea : (aosOf ps 0 ops.toList l).length = ops.size := by rw [alen]; simp
              refine any_sound hS H (Q := Q) (fun a' C' hG' => hQ a' C' ?_) ops.size (Array.replicate ops.size false) a { C1 with w := C1.w.drew } (by simp) ?_ (by rw [e0, e1]; exact hG2) (Nat.le_trans List.countP_le_length (by simp))
              · rw [ea] at r5 r6
                rw [← r5, ← r6] at hG'
                exact hG'.good
              · intro i o ho hf
                exfalso
                simp only [Array.getD_eq_getD_getElem?, Array.getElem?_replicate] at hf
                split at hf <;> cases hf
            · cases hc
        · cases h
  · cases hc

def toExit : AEx → Exit
  | .normal => .normal
  | .exit id => .exit id
  | .ret => .ret

/-- CODE. -/
theorem code_sound (hS : SoundK P K) {an : Ann} : ∀ {c : Code} {ac : AC}, cCode P n an c = some ac → ∀ {s s' : St} {x : AEx}, exec K ac s = some (x, s') → ∀ {C : Ctx} {a : Act}, Good B C0 C n s a →
    ∀ {Q : Exit → Act → World → Prop}, (∀ a' C', Good B C0 C' n s' a' → Q (toExit x) a' C'.w) → c.wp P Q a C.w := by
  intro c
  induction c with
  | skip =>
    intro ac hc s s' x h C a hG Q hQ
    simp only [cCode, Option.some.injEq] at hc
    subst hc
    simp only [exec, Option.some.injEq, Prod.mk.injEq] at h
    obtain ⟨rfl, rfl⟩ := h
    exact wp_skip (hQ a C hG)
  | region id ops draw =>
    intro ac hc s s' x h C a hG Q hQ
    simp only [cCode] at hc
    cases hr : cReg P n an id ops draw with
    | none => rw [hr] at hc; cases hc
    | some r =>
      rw [hr] at hc
      simp only [Option.map_some, Option.some.injEq] at hc
      subst hc
      simp only [exec] at h
      split at h
      · rename_i s1 h1
        simp only [Option.some.injEq, Prod.mk.injEq] at h
        obtain ⟨rfl, rfl⟩ := h
        exact reg_sound hS hr h1 hG hQ
      · cases h
  | seq c1 c2 ih1 ih2 =>
    intro ac hc s s' x h C a hG Q hQ
    simp only [cCode] at hc
    split at hc
    · rename_i a1 a2 h1 h2
      simp only [Option.some.injEq] at hc
      subst hc
      simp only [exec] at h
      refine wp_seq ?_
      split at h
      · rename_i s1 hs1
        refine ih1 h1 hs1 hG fun a' C' hG' => ?_
        exact ih2 h2 h hG' hQ
      · rename_i hne
        refine ih1 h1 h hG fun a' C' hG' => ?_
        cases x with
        | normal => exact absurd h (hne s')
        | exit id => exact hQ a' C' hG'
        | ret => exact hQ a' C' hG'
    · cases hc
  | cond cx c1 c2 ih1 ih2 =>
    intro ac hc s s' x h C a hG Q hQ
    simp only [cCode] at hc
    split at hc
    · rename_i ax a1 a2 hx h1 h2
      simp only [Option.some.injEq] at hc
      subst hc
      simp only [exec] at h
      split at h
      · rename_i t ht
        have hr := cX_rep hG.env hx
        rw [ht] at hr
        refine wp_cond (rep_bool hr) ?_
        cases t with
        | true => exact ih1 h1 h hG hQ
        | false => exact ih2 h2 h hG hQ
      · cases h
    · cases hc
  | block id c ih =>
    intro ac hc s s' x h C a hG Q hQ
    simp only [cCode] at hc
    cases hr : cCode P n an c with
    | none => rw [hr] at hc; cases hc
    | some r =>
      rw [hr] at hc
      simp only [Option.map_some, Option.some.injEq] at hc
      subst hc
      simp only [exec] at h
      refine wp_block ?_
      split at h
      · rename_i id' s1 h1
        refine ih hr h1 hG fun a' C' hG' => ?_
        simp only [toExit, Exit.inBlock]
        split at h
        · rename_i e
          simp only [Option.some.injEq, Prod.mk.injEq] at h
          obtain ⟨rfl, rfl⟩ := h
          rw [if_pos e]
          exact hQ a' C' hG'
        · rename_i e
          simp only [Option.some.injEq, Prod.mk.injEq] at h
          obtain ⟨rfl, rfl⟩ := h
          rw [if_neg e]
          exact hQ a' C' hG'
      · rename_i hne
        refine ih hr h hG fun a' C' hG' => ?_
        cases x with
        | normal => exact hQ a' C' hG'
        | exit id' => exact absurd h (hne id' s')
        | ret => exact hQ a' C' hG'
  | loop c ih =>
    intro ac hc s s' x h C a hG Q hQ
    simp only [cCode] at hc
    cases hr : cCode P n an c with
    | none => rw [hr] at hc; cases hc
    | some r =>
      rw [hr] at hc
      simp only [Option.map_some, Option.some.injEq] at hc
      subst hc
      simp only [exec, loopLim] at h
      split at h
      · rename_i hex
        simp only [Option.some.injEq] at h
        have hN := Classical.choose_spec hex
        rw [h] at hN
        obtain ⟨N, hN⟩ := hN
        refine wp_loop_rounds N ?_
        clear hex h
        induction N generalizing s C a with
        | zero => simp [iter] at hN
        | succ N ihN =>
          rw [rounds_succ]
          simp only [iter] at hN
          split at hN
          · cases hN
          · rename_i s1 h1
            refine ih hr h1 hG fun a' C' hG' => ?_
            exact ihN hG' hN
          · rename_i p hne h1
            simp only [Option.some.injEq] at hN
            subst hN
            refine ih hr h1 hG fun a' C' hG' => ?_
            cases x with
            | normal => exact (hne s' rfl).elim
            | exit id => exact hQ a' C' hG'
            | ret => exact hQ a' C' hG'
      · cases h
  | exit id =>
    intro ac hc s s' x h C a hG Q hQ
    simp only [cCode, Option.some.injEq] at hc
    subst hc
    simp only [exec, Option.some.injEq, Prod.mk.injEq] at h
    obtain ⟨rfl, rfl⟩ := h
    exact wp_exit (hQ a C hG)
  | ret =>
    intro ac hc s s' x h C a hG Q hQ
    simp only [cCode, Option.some.injEq] at hc
    subst hc
    simp only [exec, Option.some.injEq, Prod.mk.injEq] at h
    obtain ⟨rfl, rfl⟩ := h
    exact wp_ret (hQ a C hG)
  | label l =>
    intro ac hc s s' x h C a hG Q hQ
    simp only [cCode, Option.some.injEq] at hc
    subst hc
    simp only [exec, Option.some.injEq, Prod.mk.injEq] at h
    obtain ⟨rfl, rfl⟩ := h
    exact wp_label (hQ a C hG)
  | scope c ih =>
    intro ac hc s s' x h C a hG Q hQ
    simp only [cCode] at hc
    refine wp_scope_straight (ih hc h hG fun a' C' hG' => ?_)
    cases x <;> exact hQ a' C' hG'
  | _ => intro ac hc; simp [cCode] at hc

end
end Go.Am

/- The abstract machine: functions are sound, and the table of all of them. -/
set_option linter.unusedVariables false
set_option linter.unusedSimpArgs false
namespace Go.Am

theorem cRes_spec : ∀ {rs : List ResultVar} {l : List Nat}, cRes rs = some l → rs = l.map .tmp
  | [], l, h => by simp [cRes, allSome] at h; subst h; rfl
  | .tmp t :: r, l, h => by
    simp only [cRes, List.map_cons, allSome] at h
    split at h
    · rename_i l' h'
      simp only [Option.some.injEq] at h
      subst h
      rw [cRes_spec (rs := r) (l := l') h']
      rfl
    · cases h
  | .cell a t :: r, l, h => by simp [cRes, allSome] at h

theorem results_run {fn : Func} {res : List Nat} (h : fn.results.toList = res.map .tmp) (tmps : Array Value) (P : Program) (w : World) :
    (results fn tmps).run P w = .ok (match res.map (fun t => tmps.getD t undef) with | [v] => v | vs => .tuple vs.toArray) w := by
  have h' : fn.results = (res.map ResultVar.tmp).toArray := by
    rw [← h]
  simp only [results, h']
  have e : ∀ (f : ResultVar → Sem Value), (∀ t, f (.tmp t) = pure (tmps.getD t undef)) → ∀ (l : List Nat), (l.map ResultVar.tmp).mapM f = pure (l.map fun t => tmps.getD t undef) := by
    intro f hf l
    induction l with
    | nil => rfl
    | cons t r ih =>
      simp only [List.map_cons, List.mapM_cons, hf, ih, pure_bind]
  rw [List.mapM_toArray, e _ (fun _ => rfl)]
  cases res with
  | nil => simp
  | cons t r => cases r <;> simp

theorem collect_front {ρ : Look} : ∀ (ids : List Id) {n : Nat} {rest done res : List Id}, collect ρ n (ids ++ rest) done = some res → ids.Nodup → (∀ i ∈ ids, i ∉ done) → ∃ l, res = done ++ ids ++ l
  | [], n, rest, done, res, h, hn, hd => by
    have : ∀ {n : Nat} {todo done : List Id}, collect ρ n todo done = some res → ∃ l, res = done ++ l := by
      intro n
      induction n with
      | zero => intro todo done h; simp [collect] at h
      | succ n ih =>
        intro todo done h
        cases todo with
        | nil => simp only [collect, Option.some.injEq] at h; exact ⟨[], by simp [h]⟩
        | cons i r =>
          simp only [collect] at h
          split at h
          · exact ih h
          · split at h
            · cases h
            · obtain ⟨l, hl⟩ := ih h
              exact ⟨i :: l, by simp [hl]⟩
    simpa using this h
  | i :: r, 0, rest, done, res, h, hn, hd => by simp [collect] at h
  | i :: r, n + 1, rest, done, res, h, hn, hd => by
    simp only [List.cons_append, collect] at h
    rw [if_neg (hd i (by simp))] at h
    split at h
    · cases h
    · rename_i o ho
      rw [List.append_assoc] at h
      rw [List.nodup_cons] at hn
      obtain ⟨l, hl⟩ := collect_front r h hn.2 (fun j hj hm => by
        rcases List.mem_append.1 hm with hm | hm
        · exact hd j (by simp [hj]) hm
        · simp at hm; subst hm; exact hn.1 hj)
      exact ⟨l, by simp [hl]⟩

section
variable {P : Program} {B : Base} {C0 : Ctx} {K : Orc} {n : Nat}

theorem resE_rep {C C1 : Ctx} (hg : Grow C C1) {v : AVal} {keep : Bool} {u : AVal} {fs : List Id} {val : Value}
    (hfz : ∀ id ∈ fs, ∀ sz ver fz es, C.ρ id = some (.arr sz ver fz es) → RowD C1.F es (C.μ id).b (C.μ id).o sz) (h : resE C.ρ keep v = some (u, fs)) (hr : RepA C v val) : RepA C1 u val := by
  have dec' : ∀ {d : Dat}, dec C.ρ v = some (d, fs) → RepA C1 (.dat d) val := by
    intro d hd
    simp only [RepA]
    exact dec_rep hg.F hfz hd hr
  have gen : (match dec C.ρ v with | some (d, f) => some (AVal.dat d, f) | none => none) = some (u, fs) → RepA C1 u val := by
    intro h
    cases hd : dec C.ρ v with
    | none => rw [hd] at h; cases h
    | some p =>
      obtain ⟨d, f⟩ := p
      rw [hd] at h
      simp only [Option.some.injEq, Prod.mk.injEq] at h
      obtain ⟨rfl, rfl⟩ := h
      exact dec' hd
  cases v with
  | ref id off => simp only [resE, Option.some.injEq, Prod.mk.injEq] at h; rw [← h.1]; exact hr.grow hg
  | nilp => simp only [resE, Option.some.injEq, Prod.mk.injEq] at h; rw [← h.1]; exact hr.grow hg
  | rsl id ver sz off len =>
    simp only [resE] at h
    cases keep with
    | true => simp only [if_true, Option.some.injEq, Prod.mk.injEq] at h; rw [← h.1]; exact hr.grow hg
    | false =>
      simp only [Bool.false_eq_true, if_false] at h
      cases hd : decLeaf C.ρ (.rsl id ver sz off len) with
      | none => rw [hd] at h; cases h
      | some p =>
        rw [hd] at h
        simp only [Option.map_some, Option.some.injEq, Prod.mk.injEq] at h
        obtain ⟨rfl, rfl⟩ := h
        exact dec' (by simpa only [dec] using hd)
  | _ => exact gen h

theorem ressE_rep {C C1 : Ctx} (hg : Grow C C1) {keep : Bool} : ∀ {l : List AVal} {us : List AVal} {fs : List Id} {vals : List Value},
    (∀ id ∈ fs, ∀ sz ver fz es, C.ρ id = some (.arr sz ver fz es) → RowD C1.F es (C.μ id).b (C.μ id).o sz) → ressE C.ρ keep l = some (us, fs) → RepL C l vals → RepL C1 us vals
  | [], us, fs, vals, hfz, h, hr => by
    simp [ressE] at h
    rw [h.1]
    simpa [RepL] using hr
  | v :: r, us, fs, vals, hfz, h, hr => by
    simp only [ressE] at h
    split at h
    · rename_i d f ds fs' h1 h2
      simp only [Option.some.injEq, Prod.mk.injEq] at h
      obtain ⟨rfl, rfl⟩ := h
      simp only [RepL] at hr ⊢
      obtain ⟨c, cs, rfl, h3, h4⟩ := hr
      exact ⟨c, cs, rfl, resE_rep hg (fun id hid => hfz id (by simp [hid])) h1 h3, ressE_rep hg (fun id hid => hfz id (by simp [hid])) h2 h4⟩
    · cases h

theorem zipIdx_gE : ∀ (args : List AVal) (i t : Nat), gE ((args.zipIdx i).map fun p => (p.2, p.1)) (i + t) = (args[t]?).getD .undef
  | [], i, t => rfl
  | v :: r, i, 0 => by simp [gE]
  | v :: r, i, t + 1 => by
    simp only [List.zipIdx_cons, List.map_cons, gE]
    rw [if_neg (by omega), show i + (t + 1) = i + 1 + t by omega, zipIdx_gE r (i + 1) t]
    simp

theorem zipIdx_gO : ∀ (os : List Obj) (i : Nat) (id : Id), gO ((os.zipIdx i).map fun p => (((0, p.2) : Id), p.1)) id = if id.1 = 0 ∧ i ≤ id.2 then os[id.2 - i]? else none
  | [], i, id => by simp [gO]
  | o :: r, i, id => by
    simp only [List.zipIdx_cons, List.map_cons, gO]
    obtain ⟨a, b⟩ := id
    by_cases e : (0, i) = (a, b)
    · cases e; simp
    · rw [if_neg e, zipIdx_gO r (i + 1) (a, b)]
      simp only
      by_cases h0 : a = 0
      · subst h0
        have hne : i ≠ b := fun h => e (by rw [h])
        by_cases hle : i + 1 ≤ b
        · rw [if_pos ⟨rfl, hle⟩, if_pos ⟨rfl, by omega⟩, show b - i = b - (i + 1) + 1 by omega]
          simp
        · rw [if_neg (fun h => hle h.2), if_neg (fun h => by omega)]
      · rw [if_neg (fun h => h0 h.1), if_neg (fun h => h0 h.1)]

/-- what is handed back -/
theorem ret_sound {C : Ctx} {s : St} {a : Act} (hG : Good ⟨C0.w, C0.F, OwnSet C0⟩ C0 C n s a) {fn : AFun} {m : Nat} {v : AVal} {os' : List Obj} (h : retE fn m s = some (v, os')) :
    ∃ C', C'.w = C.w ∧ C'.ρ = posLook os' ∧ Inv ⟨C0.w, C0.F, OwnSet C0⟩ C' ∧
      RepA C' v (match fn.res.map (fun t => a.tmps.getD t undef) with | [v] => v | vs => .tuple vs.toArray) ∧ Ext (fun i => i) (fun id => id.1 = 0 ∧ id.2 < m) C0 C' := by
  unfold retE at h
  split at h
  · cases h
  · rename_i vs fs hvs
    rw [← hG.ρ] at hvs
    obtain ⟨C1, k1, k2, k3, k4, k5, k6⟩ := hG.inv.freeze fs
    have hrl : RepL C (fn.res.map (gE s.env)) (fn.res.map fun t => a.tmps.getD t undef) := by
      generalize fn.res = res
      induction res with
      | nil => simp [RepL]
      | cons t r ih => simp only [List.map_cons, RepL]; exact ⟨_, _, rfl, hG.env t, ih⟩
    have hvr := ressE_rep k5 k6 hvs hrl
    have hρ1 : gO (pOs s.objs (frz (gO s.objs) fs)) = C1.ρ := by rw [gO_pOs, k3, hG.ρ]
    simp only [hρ1] at h
    split at h
    · cases h
    · rename_i order hcol
      obtain ⟨r1, r2, r3, r4, _⟩ := collect_spec C1.ρ 64 _ [] order hcol (by simp) (by simp)
      have hnd : ((List.range m).map (fun j => ((0, j) : Id))).Nodup := by
        rw [List.nodup_iff_pairwise_ne, List.pairwise_iff_getElem]
        intro i j hi hj hlt h
        simp at h
        omega
      obtain ⟨l, hl⟩ := collect_front _ hcol hnd (by simp)
      simp only [List.nil_append] at hl
      split at h
      · cases h
      · rename_i os hos
        simp only [Option.some.injEq, Prod.mk.injEq] at h
        obtain ⟨hv, rfl⟩ := h
        obtain ⟨g1, g2⟩ := gather_spec hos
        obtain ⟨hext, hinv⟩ := callee_inv k4 r1 r4 g1 g2
        have hpos : ∀ j, j < m → (0, j) ∈ order ∧ toPos order (0, j) = (0, j) := by
          intro j hj
          have ho : order[j]? = some (0, j) := by
            rw [hl, List.getElem?_append_left (by simpa using hj)]
            simp [hj]
          refine ⟨List.mem_of_getElem? ho, ?_⟩
          simp only [toPos, indexIn_of r1 ho]
        have back : ∀ id o, (calleeCtx C1 order (os.map (Obj.ren (toPos order)))).ρ id = some o → ∃ i o1, C1.ρ i = some o1 ∧ o.own = o1.own ∧ (calleeCtx C1 order (os.map (Obj.ren (toPos order)))).μ id = C1.μ i := by
          intro id o ho
          simp only [calleeCtx, posLook] at ho
          split at ho
          · rw [List.getElem?_map] at ho
            cases ho1 : os[id.2]? with
            | none => rw [ho1] at ho; cases ho
            | some o1 =>
              rw [ho1] at ho
              simp only [Option.map_some, Option.some.injEq] at ho
              have hlt : id.2 < order.length := by rw [← g1]; exact (List.getElem?_eq_some_iff.1 ho1).1
              have hi : order[id.2]? = some order[id.2] := by simp [hlt]
              refine ⟨order[id.2], o1, by rw [← g2 _ _ hi]; exact ho1, by rw [← ho, own_ren], ?_⟩
              simp only [calleeCtx, hi, Option.getD_some]
          · cases ho
        refine ⟨calleeCtx C1 order (os.map (Obj.ren (toPos order))), k1, rfl, ?_, ?_, ?_⟩
        · refine ⟨hinv.objs, hinv.disj, fun id o ho hw => ?_, ?_, k4.Fw, k4.Fsub, k4.Fnew⟩
          · obtain ⟨i, o1, b1, b2, b3⟩ := back id o ho
            rw [b3]
            exact k4.own i o1 b1 (by rw [← b2]; exact hw)
          · exact k4.kept
        · have hrep := RepL.ext hext vs _ (fun i hi => r3 i (List.mem_append.2 (.inr hi))) hvr
          subst hv
          have hlen := hrep.length
          generalize AVal.renL (toPos order) vs = us at hrep hlen
          generalize fn.res.map (fun t => a.tmps.getD t undef) = vals at hrep hlen
          match us, vals, hrep, hlen with
          | [], [], hrep, _ => simp only [RepA]; exact ⟨_, rfl, by simpa using hrep⟩
          | [u], [val], hrep, _ =>
            simp only [RepL] at hrep
            obtain ⟨c, cs, e, h1, h2⟩ := hrep
            simp only [List.cons.injEq] at e
            rw [e.1]
            exact h1
          | u :: u' :: us, val :: val' :: vals, hrep, _ =>
            simp only [RepA]
            exact ⟨_, rfl, by simpa using hrep⟩
          | [], _ :: _, _, hlen => simp at hlen
          | [_], [], _, hlen => simp at hlen
          | [_], _ :: _ :: _, _, hlen => simp at hlen
          | _ :: _ :: _, [], _, hlen => simp at hlen
          | _ :: _ :: _, [_], _, hlen => simp at hlen
        · have h1 := hG.ext.thenGrow k5
          refine ⟨fun b o v hv => hext.F _ _ _ (h1.F _ _ _ hv), fun id L hid hb => ?_, fun id A hid ha => ?_⟩
          · obtain ⟨i0, j⟩ := id
            obtain ⟨rfl, hj⟩ := hid
            have := hext.box (0, j) L (hpos j hj).1 (h1.box (0, j) L rfl hb)
            rwa [(hpos j hj).2] at this
          · obtain ⟨i0, j⟩ := id
            obtain ⟨rfl, hj⟩ := hid
            obtain ⟨A', a1, a2, a3⟩ := h1.arr (0, j) A rfl ha
            obtain ⟨A'', b1, b2, b3⟩ := hext.arr (0, j) A' (hpos j hj).1 a1
            rw [(hpos j hj).2] at b1
            refine ⟨A'', b1, Nat.le_trans a2 b2, fun e => ?_⟩
            obtain ⟨c1, c2, c3⟩ := a3 (by omega)
            obtain ⟨d1, d2, d3⟩ := b3 (by omega)
            exact ⟨by rw [d1, c1], by rw [d2, c2], by omega⟩

/-- A FUNCTION. -/
theorem fun_sound (hS : SoundK P K) {an : Ann} {keep : Bool} {f : FuncId} {fn : AFun} (hc : cFun P an keep f = some fn) {args : List AVal} {os : List Obj} {v : AVal} {os' : List Obj} (h : runFun K fn args os = some (v, os')) :
    CallOK P f args os v os' := by
  unfold cFun at hc
  split at hc
  · rename_i F hF
    split at hc
    · rename_i c hb
      split at hc
      · rename_i ac res hac hres
        split at hc
        · rename_i hchk
          simp only [Bool.and_eq_true, decide_eq_true_eq] at hchk
          simp only [Option.some.injEq] at hc
          subst hc
          intro C vals hρ hI hr
          unfold runFun at h
          simp only at h
          split at h
          · rename_i hlen
            have hsz : vals.size = F.params.size := by
              have := hr.length
              simp only [Array.length_toList] at this
              omega
            have hG0 : Good ⟨C.w, C.F, OwnSet C⟩ C C F.ntmps (enter args os) { tmps := vals ++ Array.replicate (F.ntmps - vals.size) undef, defers := [] } := by
              refine ⟨?_, hI, fun t => ?_, by simp; omega, ?_, rfl⟩
              · rw [hρ]
                funext id
                simp only [enter, zipIdx_gO os 0 id, posLook, Nat.zero_le, and_true, Nat.sub_zero]
              · have e := zipIdx_gE args 0 t
                simp only [Nat.zero_add] at e
                simp only [enter, e]
                cases ht : args[t]? with
                | none => simp [RepA]
                | some x =>
                  obtain ⟨c, hc1, hc2⟩ := hr.get ht
                  simp only [Option.getD_some]
                  have hlt : t < vals.size := by
                    have := (List.getElem?_eq_some_iff.1 hc1).1
                    simpa using this
                  have : (vals ++ Array.replicate (F.ntmps - vals.size) undef).getD t undef = c := by
                    rw [Array.getD_eq_getD_getElem?, Array.getElem?_append_left hlt]
                    simp only [Array.getElem?_toList] at hc1
                    rw [hc1]
                    rfl
                  rw [this]
                  exact hc2
              · have := Grow.refl C
                exact ⟨this.F, fun id L _ hb => this.box id L trivial hb, fun id A _ ha => this.arr id A trivial ha⟩
            have fin : ∀ {x : AEx} {s : St}, exec K ac (enter args os) = some (x, s) → (x = .normal ∨ x = .ret) → retE ⟨F.params.size, res, keep, ac, none⟩ os.length s = some (v, os') →
                Calls P f vals C.w fun e w' => ∃ val C', e = .returned val ∧ C'.w = w' ∧ C'.ρ = posLook os' ∧ Inv ⟨C.w, C.F, OwnSet C⟩ C' ∧ RepA C' v val ∧ Ext (fun i => i) (fun id => id.1 = 0 ∧ id.2 < os.length) C C' := by
              intro x s hex hx hret
              refine calls_of_wp hF hb (code_sound hS hac hex hG0 fun a' C' hG' => ?_)
              obtain ⟨C'', e1, e2, e3, e4, e5⟩ := ret_sound hG' hret
              have hrun := results_run (cRes_spec hres) a'.tmps P C'.w
              rcases hx with rfl | rfl
              · exact ⟨hG'.defers, _, hrun, _, C'', rfl, e1, e2, e3, e4, e5⟩
              · exact ⟨hG'.defers, _, hrun, _, C'', rfl, e1, e2, e3, e4, e5⟩
            split at h
            · rename_i s hex
              exact fin hex (.inl rfl) h
            · rename_i s hex
              exact fin hex (.inr rfl) h
            · cases h
          · cases h
        · cases hc
      · cases hc
    · cases hc
  · cases hc

/-- a table of functions, each as its compiler has given it -/
def TblOK (P : Program) (tbl : FuncId → Option AFun) : Prop := ∀ f fn, tbl f = some fn → ∃ an keep g, cFun P an keep f = some g ∧ fn = { g with split := fn.split }

theorem RepL.set {C : Ctx} {x : AVal} : ∀ {l : List AVal} {cs : List Value} {i : Nat} {c : Value}, RepL C l cs → cs[i]? = some c → RepA C x c → RepL C (l.set i x) cs
  | [], cs, i, c, h, hi, hx => by simp only [RepL] at h; subst h; simp at hi
  | a :: r, cs, 0, c, h, hi, hx => by
    simp only [RepL] at h
    obtain ⟨c', cs', rfl, h1, h2⟩ := h
    simp at hi
    subst hi
    exact ⟨_, _, rfl, hx, h2⟩
  | a :: r, cs, i + 1, c, h, hi, hx => by
    simp only [RepL] at h
    obtain ⟨c', cs', rfl, h1, h2⟩ := h
    simp at hi
    exact ⟨_, _, rfl, h1, RepL.set h2 hi hx⟩

theorem split_sound (hS : SoundK P K) {an : Ann} {keep : Bool} {f : FuncId} {g fn : AFun} (hc : cFun P an keep f = some g) (he : fn = { g with split := fn.split }) {args : List AVal} {os : List Obj} {v : AVal} {os' : List Obj} (h : runS K fn args os = some (v, os')) :
    CallOK P f args os v os' := by
  have one : ∀ {args : List AVal}, runFun K fn args os = some (v, os') → CallOK P f args os v os' := by
    intro args h
    refine fun_sound hS hc ?_
    rw [he] at h
    exact h
  unfold runS at h
  split at h
  · exact one h
  · rename_i i hs
    split at h
    · rename_i hi
      split at h
      · rename_i r r' h1 h2
        split at h
        · rename_i e
          subst e
          simp only [Option.some.injEq] at h
          subst h
          intro C vals hρ hI hr
          obtain ⟨c, hc1, hc2⟩ := hr.get hi
          simp only [RepA] at hc2
          have hsl := hc2.cell rfl
          simp only [RepD] at hsl
          obtain ⟨a, cap, e1, _, _⟩ := hsl
          simp only [List.cons.injEq, and_true] at e1
          have hset : ∀ t, a.isNone = t → RepL C (args.set i (.emp t)) vals.toList := fun t ht => hr.set hc1 (by
            simp only [RepA]
            exact ⟨a, cap, by rw [e1]; rfl, ht⟩)
          cases ht : a.isNone with
          | true => exact one h1 C vals hρ hI (hset true ht)
          | false => exact one h2 C vals hρ hI (hset false ht)
        · cases h
      · cases h
    · exact one h

theorem kn_sound {tbl : FuncId → Option AFun} (ht : TblOK P tbl) : ∀ n, SoundK P (Kn tbl n)
  | 0 => fun f args os v os' h => by simp [Kn] at h
  | n + 1 => fun f args os v os' h => by
    simp only [Kn] at h
    split at h
    · rename_i fn hfn
      obtain ⟨an, keep, g, hc, he⟩ := ht f fn hfn
      exact split_sound (kn_sound ht n) hc he h
    · cases h

theorem callT_sound {tbl : FuncId → Option AFun} (ht : TblOK P tbl) : SoundK P (callT tbl) := by
  intro f args os v os' h
  unfold callT at h
  split at h
  · rename_i hex
    have := Classical.choose_spec hex
    simp only [Option.some.injEq] at h
    rw [h] at this
    obtain ⟨n, hn⟩ := this
    exact kn_sound ht n f args os v os' hn
  · cases h

end
end Go.Am

/- The abstract machine: a call is what the body says, once the calls in it are. -/
set_option linter.unusedVariables false
set_option linter.unusedSimpArgs false
namespace Go.Am

/-- what K answers, K' answers too -/
def OrcLe (K K' : Orc) : Prop := ∀ f args os r, K f args os = some r → K' f args os = some r

/-- an operation asks at most once -/
theorem opE_orc {K : Orc} {site : Nat} {k : AK} {g : Nat → AVal} {ρ : Look} {out : Out} (h : opE K site k g ρ = some out) :
    (∀ K', opE K' site k g ρ = some out) ∨ ∃ f args os r, K f args os = some r ∧ ∀ K' : Orc, K' f args os = some r → opE K' site k g ρ = some out := by
  cases k with
  | call f args scalar =>
    right
    have h0 := h
    simp only [opE] at h
    split at h
    · cases h
    · rename_i vs fs hvs
      split at h
      · cases h
      · rename_i order hcol
        split at h
        · cases h
        · rename_i os hos
          split at h
          · cases h
          · rename_i hany
            split at h
            · cases h
            · rename_i v os' hK
              refine ⟨f, _, _, (v, os'), hK, fun K' hK' => ?_⟩
              simp only [opE, hvs, hcol, hos]
              rw [if_neg hany, hK']
              exact h
  | _ => exact .inl fun K' => h

/-- a growing row of oracles, and its limit -/
structure Row (R : Nat → Orc) (K : Orc) : Prop where
  mono : ∀ n m, n ≤ m → OrcLe (R n) (R m)
  lim : ∀ f args os r, K f args os = some r → ∃ n, R n f args os = some r

theorem aoE_mono {K K' : Orc} (hk : OrcLe K K') {o : AO} {g : Nat → AVal} {ρ : Look} {out : Out} (h : aoE K o g ρ = some out) : aoE K' o g ρ = some out := by
  have hop : ∀ {site k}, opE K site k g ρ = some out → opE K' site k g ρ = some out := by
    intro site k h
    rcases opE_orc h with h' | ⟨f, args, os, r, h1, h2⟩
    · exact h' K'
    · exact h2 K' (hk _ _ _ _ h1)
  unfold aoE at h ⊢
  split at h
  · exact hop h
  · split at h
    · split at h
      · rename_i hb
        rw [if_pos hb]
        exact hop h
      · rename_i hb
        rw [if_neg hb]
        exact h
    · exact h
    · cases h

theorem aoE_lim {R : Nat → Orc} {K : Orc} (hR : Row R K) {o : AO} {g : Nat → AVal} {ρ : Look} {out : Out} (h : aoE K o g ρ = some out) : ∃ n, aoE (R n) o g ρ = some out := by
  have hop : ∀ {site k}, opE K site k g ρ = some out → ∃ n, opE (R n) site k g ρ = some out := by
    intro site k h
    rcases opE_orc h with h' | ⟨f, args, os, r, h1, h2⟩
    · exact ⟨0, h' _⟩
    · obtain ⟨n, hn⟩ := hR.lim _ _ _ _ h1
      exact ⟨n, h2 _ hn⟩
  unfold aoE at h ⊢
  split at h
  · exact hop h
  · split at h
    · split at h
      · rename_i hb
        simp only [if_pos hb]
        exact hop h
      · rename_i hb
        simp only [if_neg hb]
        exact ⟨0, h⟩
    · exact ⟨0, h⟩
    · cases h

theorem runOps_mono {K K' : Orc} (hk : OrcLe K K') : ∀ {l : List AO} {i : Nat} {s : St} {lg : Log} {r : St × Log}, runOps K i l s lg = some r → runOps K' i l s lg = some r
  | [], i, s, lg, r, h => h
  | o :: l, i, s, lg, r, h => by
    simp only [runOps] at h ⊢
    split at h
    · cases h
    · rename_i out ho
      rw [aoE_mono hk ho]
      exact runOps_mono hk h

theorem runOps_lim {R : Nat → Orc} {K : Orc} (hR : Row R K) : ∀ {l : List AO} {i : Nat} {s : St} {lg : Log} {r : St × Log}, runOps K i l s lg = some r → ∃ n, runOps (R n) i l s lg = some r
  | [], i, s, lg, r, h => ⟨0, h⟩
  | o :: l, i, s, lg, r, h => by
    simp only [runOps] at h ⊢
    split at h
    · cases h
    · rename_i out ho
      obtain ⟨n1, h1⟩ := aoE_lim hR ho
      obtain ⟨n2, h2⟩ := runOps_lim hR h
      refine ⟨max n1 n2, ?_⟩
      rw [aoE_mono (hR.mono n1 (max n1 n2) (Nat.le_max_left _ _)) h1]
      exact runOps_mono (hR.mono n2 (max n1 n2) (Nat.le_max_right _ _)) h2

theorem runReg_mono {K K' : Orc} (hk : OrcLe K K') {r : AReg} {s s' : St} (h : runReg K r s = some s') : runReg K' r s = some s' := by
  unfold runReg at h ⊢
  split at h
  · cases h
  · split at h
    · cases h
    · rename_i s1 lg hr
      rw [runOps_mono hk hr]
      exact h

theorem runReg_lim {R : Nat → Orc} {K : Orc} (hR : Row R K) {r : AReg} {s s' : St} (h : runReg K r s = some s') : ∃ n, runReg (R n) r s = some s' := by
  unfold runReg at h ⊢
  split at h
  · cases h
  · split at h
    · cases h
    · rename_i s1 lg hr
      obtain ⟨n, hn⟩ := runOps_lim hR hr
      exact ⟨n, by simp only [hn]; exact h⟩

theorem iter_succ {body : St → Option (AEx × St)} : ∀ {n : Nat} {s : St} {r : AEx × St}, iter body n s = some r → iter body (n + 1) s = some r
  | 0, s, r, h => by simp [iter] at h
  | n + 1, s, r, h => by
    rw [iter] at h ⊢
    split at h
    · cases h
    · exact iter_succ h
    · exact h

theorem iter_le {body : St → Option (AEx × St)} {n m : Nat} (h : n ≤ m) {s : St} {r : AEx × St} (hr : iter body n s = some r) : iter body m s = some r := by
  induction h with
  | refl => exact hr
  | step _ ih => exact iter_succ ih

theorem loopLim_iff {body : St → Option (AEx × St)} {s : St} {r : AEx × St} : loopLim body s = some r ↔ ∃ n, iter body n s = some r := by
  constructor
  · intro h
    unfold loopLim at h
    split at h
    · rename_i hex
      have := Classical.choose_spec hex
      simp only [Option.some.injEq] at h
      rw [h] at this
      exact this
    · cases h
  · rintro ⟨n, hn⟩
    unfold loopLim
    have hex : ∃ r, ∃ n, iter body n s = some r := ⟨r, n, hn⟩
    rw [dif_pos hex]
    obtain ⟨m, hm⟩ := Classical.choose_spec hex
    have h1 := iter_le (Nat.le_max_left n m) hn
    have h2 := iter_le (Nat.le_max_right n m) hm
    rw [h1] at h2
    exact h2.symm

theorem iter_mono {b b' : St → Option (AEx × St)} (hb : ∀ s r, b s = some r → b' s = some r) : ∀ {n : Nat} {s : St} {r : AEx × St}, iter b n s = some r → iter b' n s = some r
  | 0, s, r, h => by simp [iter] at h
  | n + 1, s, r, h => by
    simp only [iter] at h ⊢
    split at h
    · cases h
    · rename_i s' h1
      rw [hb _ _ h1]
      exact iter_mono hb h
    · rename_i p hne h1
      rw [hb _ _ h1]
      simp only [Option.some.injEq] at h
      rw [← h]
      obtain ⟨x, s'⟩ := p
      cases x with
      | normal => exact (hne s' rfl).elim
      | exit id => rfl
      | ret => rfl

theorem exec_mono {K K' : Orc} (hk : OrcLe K K') : ∀ {c : AC} {s : St} {r : AEx × St}, exec K c s = some r → exec K' c s = some r := by
  intro c
  induction c with
  | skip => intro s r h; exact h
  | reg rg =>
    intro s r h
    simp only [exec] at h ⊢
    split at h
    · rename_i s1 h1
      rw [runReg_mono hk h1]
      exact h
    · cases h
  | seq a b iha ihb =>
    intro s r h
    simp only [exec] at h ⊢
    split at h
    · rename_i s1 h1
      rw [iha h1]
      exact ihb h
    · rename_i hne
      rw [iha h]
      obtain ⟨x, s'⟩ := r
      cases x with
      | normal => exact absurd h (hne s')
      | exit id => rfl
      | ret => rfl
  | cond x a b iha ihb =>
    intro s r h
    simp only [exec] at h ⊢
    split at h
    · rename_i t ht
      cases t with
      | true => exact iha h
      | false => exact ihb h
    · cases h
  | block id c ih =>
    intro s r h
    simp only [exec] at h ⊢
    split at h
    · rename_i id' s1 h1
      rw [ih h1]
      exact h
    · rename_i hne
      rw [ih h]
      obtain ⟨x, s'⟩ := r
      cases x with
      | normal => rfl
      | exit id' => exact absurd h (hne id' s')
      | ret => rfl
  | loop c ih =>
    intro s r h
    simp only [exec] at h ⊢
    rw [loopLim_iff] at h ⊢
    obtain ⟨n, hn⟩ := h
    exact ⟨n, iter_mono (fun s r h => ih h) hn⟩
  | exit id => intro s r h; exact h
  | ret => intro s r h; exact h

theorem exec_lim {R : Nat → Orc} {K : Orc} (hR : Row R K) : ∀ {c : AC} {s : St} {r : AEx × St}, exec K c s = some r → ∃ n, exec (R n) c s = some r := by
  intro c
  induction c with
  | skip => intro s r h; exact ⟨0, h⟩
  | reg rg =>
    intro s r h
    simp only [exec] at h ⊢
    split at h
    · rename_i s1 h1
      obtain ⟨n, hn⟩ := runReg_lim hR h1
      exact ⟨n, by rw [hn]; exact h⟩
    · cases h
  | seq a b iha ihb =>
    intro s r h
    simp only [exec] at h ⊢
    split at h
    · rename_i s1 h1
      obtain ⟨n1, e1⟩ := iha h1
      obtain ⟨n2, e2⟩ := ihb h
      refine ⟨max n1 n2, ?_⟩
      rw [exec_mono (hR.mono n1 (max n1 n2) (Nat.le_max_left _ _)) e1]
      exact exec_mono (hR.mono n2 (max n1 n2) (Nat.le_max_right _ _)) e2
    · rename_i hne
      obtain ⟨n1, e1⟩ := iha h
      refine ⟨n1, ?_⟩
      rw [e1]
      obtain ⟨x, s'⟩ := r
      cases x with
      | normal => exact absurd h (hne s')
      | exit id => rfl
      | ret => rfl
  | cond x a b iha ihb =>
    intro s r h
    simp only [exec] at h ⊢
    split at h
    · rename_i t ht
      cases t with
      | true => exact iha h
      | false => exact ihb h
    · cases h
  | block id c ih =>
    intro s r h
    simp only [exec] at h ⊢
    split at h
    · rename_i id' s1 h1
      obtain ⟨n1, e1⟩ := ih h1
      exact ⟨n1, by rw [e1]; exact h⟩
    · rename_i hne
      obtain ⟨n1, e1⟩ := ih h
      refine ⟨n1, ?_⟩
      rw [e1]
      obtain ⟨x, s'⟩ := r
      cases x with
      | normal => rfl
      | exit id' => exact absurd h (hne id' s')
      | ret => rfl
  | loop c ih =>
    intro s r h
    simp only [exec] at h
    rw [loopLim_iff] at h
    obtain ⟨n, hn⟩ := h
    have : ∃ m, iter (exec (R m) c) n s = some r := by
      induction n generalizing s r with
      | zero => simp [iter] at hn
      | succ n ihn =>
        simp only [iter] at hn ⊢
        split at hn
        · cases hn
        · rename_i s' h1
          obtain ⟨m1, e1⟩ := ih h1
          obtain ⟨m2, e2⟩ := ihn hn
          refine ⟨max m1 m2, ?_⟩
          rw [exec_mono (hR.mono m1 (max m1 m2) (Nat.le_max_left _ _)) e1]
          exact iter_mono (fun s r h => exec_mono (hR.mono m2 (max m1 m2) (Nat.le_max_right _ _)) h) e2
        · rename_i p hne h1
          obtain ⟨m1, e1⟩ := ih h1
          refine ⟨m1, ?_⟩
          rw [e1]
          simp only [Option.some.injEq] at hn
          rw [← hn]
          obtain ⟨x, s'⟩ := p
          cases x with
          | normal => exact (hne s' rfl).elim
          | exit id => rfl
          | ret => rfl
    obtain ⟨m, hm⟩ := this
    exact ⟨m, by simp only [exec]; exact loopLim_iff.2 ⟨n, hm⟩⟩
  | exit id => intro s r h; exact ⟨0, h⟩
  | ret => intro s r h; exact ⟨0, h⟩

theorem runFun_mono {K K' : Orc} (hk : OrcLe K K') {fn : AFun} {args : List AVal} {os : List Obj} {r : AVal × List Obj} (h : runFun K fn args os = some r) : runFun K' fn args os = some r := by
  unfold runFun at h ⊢
  split at h
  · rename_i hl
    rw [if_pos hl]
    split at h
    · rename_i s hs
      rw [exec_mono hk hs]
      exact h
    · rename_i s hs
      rw [exec_mono hk hs]
      exact h
    · cases h
  · cases h

theorem runFun_lim {R : Nat → Orc} {K : Orc} (hR : Row R K) {fn : AFun} {args : List AVal} {os : List Obj} {r : AVal × List Obj} (h : runFun K fn args os = some r) : ∃ n, runFun (R n) fn args os = some r := by
  unfold runFun at h ⊢
  split at h
  · rename_i hl
    simp only [if_pos hl]
    split at h
    · rename_i s hs
      obtain ⟨n, hn⟩ := exec_lim hR hs
      exact ⟨n, by rw [hn]; exact h⟩
    · rename_i s hs
      obtain ⟨n, hn⟩ := exec_lim hR hs
      exact ⟨n, by rw [hn]; exact h⟩
    · cases h
  · cases h

theorem runS_mono {K K' : Orc} (hk : OrcLe K K') {fn : AFun} {args : List AVal} {os : List Obj} {r : AVal × List Obj} (h : runS K fn args os = some r) : runS K' fn args os = some r := by
  unfold runS at h ⊢
  split at h
  · exact runFun_mono hk h
  · split at h
    · split at h
      · rename_i r1 r2 h1 h2
        rw [runFun_mono hk h1, runFun_mono hk h2]
        exact h
      · cases h
    · exact runFun_mono hk h

theorem runS_lim {R : Nat → Orc} {K : Orc} (hR : Row R K) {fn : AFun} {args : List AVal} {os : List Obj} {r : AVal × List Obj} (h : runS K fn args os = some r) : ∃ n, runS (R n) fn args os = some r := by
  unfold runS at h ⊢
  split at h
  · exact runFun_lim hR h
  · split at h
    · split at h
      · rename_i r1 r2 h1 h2
        obtain ⟨n1, e1⟩ := runFun_lim hR h1
        obtain ⟨n2, e2⟩ := runFun_lim hR h2
        refine ⟨max n1 n2, ?_⟩
        rw [runFun_mono (hR.mono n1 (max n1 n2) (Nat.le_max_left _ _)) e1, runFun_mono (hR.mono n2 (max n1 n2) (Nat.le_max_right _ _)) e2]
        exact h
      · cases h
    · exact runFun_lim hR h

section
variable {tbl : FuncId → Option AFun}

theorem kn_succ : ∀ n, OrcLe (Kn tbl n) (Kn tbl (n + 1))
  | 0 => fun f args os r h => by simp [Kn] at h
  | n + 1 => fun f args os r h => by
    rw [Kn] at h ⊢
    simp only at h ⊢
    split at h
    · exact runS_mono (kn_succ n) h
    · cases h

theorem kn_le {n m : Nat} (h : n ≤ m) : OrcLe (Kn tbl n) (Kn tbl m) := by
  induction h with
  | refl => exact fun _ _ _ _ h => h
  | step _ ih => exact fun f args os r h => kn_succ _ f args os r (ih f args os r h)

theorem callT_iff {f : FuncId} {args : List AVal} {os : List Obj} {r : AVal × List Obj} : callT tbl f args os = some r ↔ ∃ n, Kn tbl n f args os = some r := by
  constructor
  · intro h
    unfold callT at h
    split at h
    · rename_i hex
      have := Classical.choose_spec hex
      simp only [Option.some.injEq] at h
      rw [h] at this
      exact this
    · cases h
  · rintro ⟨n, hn⟩
    unfold callT
    have hex : ∃ r, ∃ n, Kn tbl n f args os = some r := ⟨r, n, hn⟩
    rw [dif_pos hex]
    obtain ⟨m, hm⟩ := Classical.choose_spec hex
    have h1 := kn_le (Nat.le_max_left n m) _ _ _ _ hn
    have h2 := kn_le (Nat.le_max_right n m) _ _ _ _ hm
    rw [h1] at h2
    exact h2.symm

theorem row_kn : Row (Kn tbl) (callT tbl) := ⟨fun _ _ h => kn_le h, fun _ _ _ _ h => callT_iff.1 h⟩

/-- A CALL IS WHAT THE BODY SAYS. -/
theorem callT_of {f : FuncId} {fn : AFun} (hf : tbl f = some fn) {args : List AVal} {os : List Obj} {r : AVal × List Obj} (h : runS (callT tbl) fn args os = some r) : callT tbl f args os = some r := by
  obtain ⟨n, hn⟩ := runS_lim row_kn h
  exact callT_iff.2 ⟨n + 1, by rw [Kn]; simp only [hf]; exact hn⟩

/-- A LOOP: an invariant that is kept while the measure falls, and what holds at the way out. -/
theorem loop_of {body : St → Option (AEx × St)} {α : Type} (st : α → St) (next : α → Option α) (out : α → AEx × St) (μ : α → Nat) (I : α → Prop)
    (step : ∀ x y, I x → next x = some y → body (st x) = some (.normal, st y) ∧ I y ∧ μ y < μ x) (stop : ∀ x, I x → next x = none → body (st x) = some (out x) ∧ (out x).1 ≠ .normal)
    {fin : α → α} (hfin : ∀ x, fin x = match next x with | some y => fin y | none => x) :
    ∀ x, I x → loopLim body (st x) = some (out (fin x)) := by
  have key : ∀ n x, μ x = n → I x → ∃ m, iter body m (st x) = some (out (fin x)) := by
    intro n
    induction n using Nat.strongRecOn with
    | _ n ih =>
      intro x hn hI
      rw [hfin x]
      cases hx : next x with
      | none =>
        obtain ⟨h1, h2⟩ := stop x hI hx
        refine ⟨1, ?_⟩
        simp only [iter, h1]
        generalize ho : out x = o at h2
        obtain ⟨e, s⟩ := o
        cases e with
        | normal => exact absurd rfl h2
        | exit id => rfl
        | ret => rfl
      | some y =>
        obtain ⟨h1, h2, h3⟩ := step x y hI hx
        obtain ⟨m, hm⟩ := ih (μ y) (by omega) y rfl h2
        exact ⟨m + 1, by simp only [iter, h1]; exact hm⟩
  intro x hI
  obtain ⟨m, hm⟩ := key _ x rfl hI
  exact loopLim_iff.2 ⟨m, hm⟩

/-- a round of a loop, and its end -/
theorem loop_next {body : St → Option (AEx × St)} {s s' : St} {r : AEx × St} (h : body s = some (.normal, s')) (hr : loopLim body s' = some r) : loopLim body s = some r := by
  rw [loopLim_iff] at hr ⊢
  obtain ⟨n, hn⟩ := hr
  exact ⟨n + 1, by simp only [iter, h]; exact hn⟩

theorem loop_done {body : St → Option (AEx × St)} {s s' : St} {x : AEx} (h : body s = some (x, s')) (hx : x ≠ .normal) : loopLim body s = some (x, s') := by
  rw [loopLim_iff]
  refine ⟨1, ?_⟩
  simp only [iter, h]
  cases x with
  | normal => exact absurd rfl hx
  | exit id => rfl
  | ret => rfl

end
end Go.Am

/- The abstract machine: a computable evaluator with fuel, for calls whose arguments are all known. -/
set_option linter.unusedVariables false
namespace Go.Am

def execF (K : Orc) (m : Nat) : AC → St → Option (AEx × St)
  | .skip, s => some (.normal, s)
  | .reg r, s => match runReg K r s with
    | some s => some (.normal, s)
    | none => none
  | .seq a b, s =>
    match execF K m a s with
    | some (.normal, s') => execF K m b s'
    | r => r
  | .cond x a b, s =>
    match evX (gE s.env) x with
    | .dat (.bool t) => if t then execF K m a s else execF K m b s
    | _ => none
  | .block id c, s =>
    match execF K m c s with
    | some (.exit id', s') => if id' = id then some (.normal, s') else some (.exit id', s')
    | r => r
  | .loop c, s => iter (execF K m c) m s
  | .exit id, s => some (.exit id, s)
  | .ret, s => some (.ret, s)

theorem execF_exec {K : Orc} {m : Nat} : ∀ {c : AC} {s : St} {r : AEx × St}, execF K m c s = some r → exec K c s = some r := by
  intro c
  induction c with
  | skip => intro s r h; exact h
  | reg _ => intro s r h; exact h
  | seq a b iha ihb =>
    intro s r h
    simp only [execF] at h
    simp only [exec]
    cases ha : execF K m a s with
    | none => rw [ha] at h; cases h
    | some p =>
      rw [ha] at h
      rw [iha ha]
      obtain ⟨x, s'⟩ := p
      cases x with
      | normal => exact ihb h
      | exit id => exact h
      | ret => exact h
  | cond x a b iha ihb =>
    intro s r h
    simp only [execF] at h
    simp only [exec]
    split at h
    · rename_i t ht
      simp only [ht]
      cases t with
      | true => exact iha h
      | false => exact ihb h
    · cases h
  | block id c ih =>
    intro s r h
    simp only [execF] at h
    simp only [exec]
    cases ha : execF K m c s with
    | none => rw [ha] at h; cases h
    | some p =>
      rw [ha] at h
      rw [ih ha]
      exact h
  | loop c ih =>
    intro s r h
    simp only [execF] at h
    simp only [exec]
    exact loopLim_iff.2 ⟨m, iter_mono (fun s r h => ih h) h⟩
  | exit _ => intro s r h; exact h
  | ret => intro s r h; exact h

def runF (K : Orc) (m : Nat) (fn : AFun) (args : List AVal) (os : List Obj) : Option (AVal × List Obj) :=
  if args.length = fn.np then
    match execF K m fn.code (enter args os) with
    | some (.normal, s) => retE fn os.length s
    | some (.ret, s) => retE fn os.length s
    | _ => none
  else none

theorem runF_run {K : Orc} {m : Nat} {fn : AFun} {args : List AVal} {os : List Obj} {r : AVal × List Obj} (h : runF K m fn args os = some r) : runFun K fn args os = some r := by
  simp only [runF] at h
  simp only [runFun]
  split at h
  · rename_i hl
    rw [if_pos hl]
    cases he : execF K m fn.code (enter args os) with
    | none => rw [he] at h; cases h
    | some p =>
      rw [he] at h
      rw [execF_exec he]
      exact h
  · cases h

def isEmp : Option AVal → Bool
  | some (.dat (.sl [])) => true
  | _ => false

mutual
def Dat.same : Dat → Dat → Bool
  | .int k a, .int k' b => k == k' && a == b
  | .bool a, .bool b => a == b
  | .str a, .str b => a == b
  | .sl a, .sl b => Dat.sameL a b
  | .agg a, .agg b => Dat.sameL a b
  | _, _ => false
def Dat.sameL : List Dat → List Dat → Bool
  | [], [] => true
  | a :: r, b :: s => Dat.same a b && Dat.sameL r s
  | _, _ => false
end

mutual
theorem Dat.same_eq : ∀ {a b : Dat}, Dat.same a b = true → a = b
  | .int k a, .int k' b, h => by simp [Dat.same] at h; rw [h.1, h.2]
  | .bool a, .bool b, h => by simp [Dat.same] at h; rw [h]
  | .str a, .str b, h => by simp [Dat.same] at h; rw [h]
  | .sl a, .sl b, h => by simp only [Dat.same] at h; rw [Dat.sameL_eq h]
  | .agg a, .agg b, h => by simp only [Dat.same] at h; rw [Dat.sameL_eq h]
  | .int _ _, .bool _, h => by simp [Dat.same] at h
  | .int _ _, .str _, h => by simp [Dat.same] at h
  | .int _ _, .sl _, h => by simp [Dat.same] at h
  | .int _ _, .agg _, h => by simp [Dat.same] at h
  | .bool _, .int _ _, h => by simp [Dat.same] at h
  | .bool _, .str _, h => by simp [Dat.same] at h
  | .bool _, .sl _, h => by simp [Dat.same] at h
  | .bool _, .agg _, h => by simp [Dat.same] at h
  | .str _, .int _ _, h => by simp [Dat.same] at h
  | .str _, .bool _, h => by simp [Dat.same] at h
  | .str _, .sl _, h => by simp [Dat.same] at h
  | .str _, .agg _, h => by simp [Dat.same] at h
  | .sl _, .int _ _, h => by simp [Dat.same] at h
  | .sl _, .bool _, h => by simp [Dat.same] at h
  | .sl _, .str _, h => by simp [Dat.same] at h
  | .sl _, .agg _, h => by simp [Dat.same] at h
  | .agg _, .int _ _, h => by simp [Dat.same] at h
  | .agg _, .bool _, h => by simp [Dat.same] at h
  | .agg _, .str _, h => by simp [Dat.same] at h
  | .agg _, .sl _, h => by simp [Dat.same] at h
theorem Dat.sameL_eq : ∀ {a b : List Dat}, Dat.sameL a b = true → a = b
  | [], [], _ => rfl
  | a :: r, b :: s, h => by simp only [Dat.sameL, Bool.and_eq_true] at h; rw [Dat.same_eq h.1, Dat.sameL_eq h.2]
  | [], _ :: _, h => by simp [Dat.sameL] at h
  | _ :: _, [], h => by simp [Dat.sameL] at h
end

/-- both answers are the same datum -/
def sameR : Option (AVal × List Obj) → Option (AVal × List Obj) → Option (AVal × List Obj)
  | some (.dat a, []), some (.dat b, []) => if Dat.same a b then some (.dat a, []) else none
  | _, _ => none

def runSF (K : Orc) (m : Nat) (fn : AFun) (args : List AVal) (os : List Obj) : Option (AVal × List Obj) :=
  match fn.split with
  | none => runF K m fn args os
  | some i => if isEmp args[i]? then sameR (runF K m fn (args.set i (.emp true)) os) (runF K m fn (args.set i (.emp false)) os) else runF K m fn args os

theorem sameR_eq {x y : Option (AVal × List Obj)} {r : AVal × List Obj} (h : sameR x y = some r) : x = some r ∧ y = some r := by
  unfold sameR at h
  split at h
  · split at h
    · rename_i hs
      cases h
      rw [Dat.same_eq hs]
      exact ⟨rfl, rfl⟩
    · cases h
  · cases h

theorem runSF_run {K : Orc} {m : Nat} {fn : AFun} {args : List AVal} {os : List Obj} {r : AVal × List Obj} (h : runSF K m fn args os = some r) : runS K fn args os = some r := by
  simp only [runSF] at h
  simp only [runS]
  split at h
  · rename_i hi
    rw [hi]
    exact runF_run h
  · rename_i i hi
    rw [hi]
    dsimp only
    by_cases he : isEmp args[i]? = true
    · rw [if_pos he] at h
      obtain ⟨h1, h2⟩ := sameR_eq h
      have : args[i]? = some (.dat (.sl [])) := by
        revert he
        cases args[i]? with
        | none => simp [isEmp]
        | some v => cases v with
          | dat d => cases d with
            | sl l => cases l <;> simp [isEmp]
            | _ => simp [isEmp]
          | _ => simp [isEmp]
      rw [this]
      simp only [runF_run h1, runF_run h2, if_true]
    · rw [if_neg he] at h
      have hr := runF_run h
      revert he
      cases args[i]? with
      | none => intro _; exact hr
      | some v => cases v with
        | dat d => cases d with
          | sl l => cases l with
            | nil => intro he; simp [isEmp] at he
            | cons _ _ => intro _; exact hr
          | _ => intro _; exact hr
        | _ => intro _; exact hr

def Kf (tbl : FuncId → Option AFun) (m : Nat) : Nat → Orc
  | 0 => fun _ _ _ => none
  | n + 1 => fun f args os => match tbl f with
    | some fn => runSF (Kf tbl m n) m fn args os
    | none => none

theorem Kf_kn {tbl : FuncId → Option AFun} {m : Nat} : ∀ n, OrcLe (Kf tbl m n) (Kn tbl n)
  | 0 => fun _ _ _ _ h => by cases h
  | n + 1 => fun f args os r h => by
    simp only [Kf] at h
    simp only [Kn]
    cases hf : tbl f with
    | none => rw [hf] at h; cases h
    | some fn => rw [hf] at h; exact runS_mono (Kf_kn n) (runSF_run h)

theorem callT_kf {tbl : FuncId → Option AFun} {m n : Nat} {f : FuncId} {args : List AVal} {os : List Obj} {r : AVal × List Obj} (h : Kf tbl m n f args os = some r) : callT tbl f args os = some r :=
  callT_iff.2 ⟨n, Kf_kn n _ _ _ _ h⟩

end Go.Am

/- The abstract machine: a law's call over the world that it is handed. -/
set_option linter.unusedVariables false
namespace Go.Am
open Go.RowKit

/-- all the cells of a world, as they are -/
def allF (W : World) : Froz := fun b o => W.cell? ⟨b, o, none⟩

/-- the context over a world in which nothing is owned -/
def ctx0 (W : World) : Ctx := { w := W, F := allF W, μ := fun _ => ⟨0, 0, 0⟩, ρ := fun _ => none }

theorem ctx0_inv (W : World) : Inv ⟨(ctx0 W).w, (ctx0 W).F, OwnSet (ctx0 W)⟩ (ctx0 W) := by
  refine ⟨fun id o h => ?_, fun id id' o o' h => ?_, fun id o h => ?_, Kept.refl _ _, fun b o v h => h, fun _ _ _ h => h, fun _ _ _ h => .inl h⟩ <;> cases h

/-- WHAT THE ABSTRACT MACHINE ANSWERS, THE LAW ANSWERS; and the world has only grown. -/
theorem top_calls {P : Program} {tbl : FuncId → Option AFun} (ht : TblOK P tbl) {f : FuncId} {args : List AVal} {t : Bool} {os' : List Obj} (h : callT tbl f args [] = some (.dat (.bool t), os')) {W : World} {vals : Array Value}
    (hr : RepL (ctx0 W) args vals.toList) : Calls P f vals W fun e W' => e = .returned (.bool t) ∧ Grown W W' := by
  have hc := callT_sound ht f args [] _ _ h (ctx0 W) vals (by funext id; simp [ctx0, posLook]) (ctx0_inv W) hr
  refine hc.mono fun e W' ⟨val, C', h1, h2, _, h4, h5, _⟩ => ?_
  have hk := h4.kept
  have hno : ∀ b x, ¬ OwnSet (ctx0 W) b x := by
    rintro b x ⟨id, ob, q, _⟩
    cases q
  refine ⟨by rw [h1, rep_bool h5], ?_⟩
  rw [← h2]
  refine ⟨World.keptBut_mono (fun p hp => ?_) hk.but, hk.frozen, hk.size⟩
  obtain ⟨b, o, _, hT⟩ := hp
  exact hno b o hT

end Go.Am

/- The abstract machine: lemmas by which simp evaluates code, one step after the other. -/
set_option linter.unusedVariables false
namespace Go.Am

def bnd {α β : Type} (x : Option α) (f : α → Option β) : Option β := match x with
  | some a => f a
  | none => none

@[congr] theorem bnd_congr {α β : Type} {x x' : Option α} {f : α → Option β} (h : x = x') : bnd x f = bnd x' f := by rw [h]
theorem bnd_some {α β : Type} (a : α) (f : α → Option β) : bnd (some a) f = f a := rfl
theorem bnd_none {α β : Type} (f : α → Option β) : bnd none f = none := rfl

section
variable (K : Orc)

@[congr] theorem exec_congr {K : Orc} {c : AC} {s s' : St} (h : s = s') : exec K c s = exec K c s' := by rw [h]
@[congr] theorem runOps_congr {K : Orc} {i i' : Nat} {l : List AO} {s s' : St} {lg lg' : Log} (hi : i = i') (h : s = s') (hl : lg = lg') : runOps K i l s lg = runOps K i' l s' lg' := by rw [hi, h, hl]

noncomputable def seqK (b : AC) : AEx × St → Option (AEx × St)
  | (.normal, s) => exec K b s
  | (.exit id, s) => some (.exit id, s)
  | (.ret, s) => some (.ret, s)

def blkK (id : Nat) : AEx × St → Option (AEx × St)
  | (.normal, s) => some (.normal, s)
  | (.exit id', s) => if id' = id then some (.normal, s) else some (.exit id', s)
  | (.ret, s) => some (.ret, s)

noncomputable def condK (a b : AC) (s : St) : AVal → Option (AEx × St)
  | .dat (.bool t) => match t with
    | true => exec K a s
    | false => exec K b s
  | _ => none

@[congr] theorem condK_congr {K : Orc} {a b : AC} {s s' : St} {v v' : AVal} (hs : s = s') (h : v = v') : condK K a b s v = condK K a b s' v' := by rw [hs, h]

theorem seqK_n (b : AC) (s : St) : seqK K b (.normal, s) = exec K b s := rfl
theorem seqK_e (b : AC) (s : St) (id : Nat) : seqK K b (.exit id, s) = some (.exit id, s) := rfl
theorem seqK_r (b : AC) (s : St) : seqK K b (.ret, s) = some (.ret, s) := rfl
theorem blkK_n (id : Nat) (s : St) : blkK id (.normal, s) = some (.normal, s) := rfl
theorem blkK_e (id id' : Nat) (s : St) : blkK id (.exit id', s) = if id' = id then some (.normal, s) else some (.exit id', s) := rfl
theorem blkK_r (id : Nat) (s : St) : blkK id (.ret, s) = some (.ret, s) := rfl
theorem condK_t (a b : AC) (s : St) : condK K a b s (.dat (.bool true)) = exec K a s := rfl
theorem condK_f (a b : AC) (s : St) : condK K a b s (.dat (.bool false)) = exec K b s := rfl

theorem exec_skip (s : St) : exec K .skip s = some (.normal, s) := rfl
theorem exec_exit (id : Nat) (s : St) : exec K (.exit id) s = some (.exit id, s) := rfl
theorem exec_ret (s : St) : exec K .ret s = some (.ret, s) := rfl
theorem exec_reg (r : AReg) (s : St) : exec K (.reg r) s = bnd (runReg K r s) fun s => some (.normal, s) := by
  simp only [exec, bnd]; split <;> simp_all
theorem exec_seq (a b : AC) (s : St) : exec K (.seq a b) s = bnd (exec K a s) (seqK K b) := by
  simp only [exec, bnd]
  cases exec K a s with
  | none => rfl
  | some r => obtain ⟨x, s'⟩ := r; cases x <;> rfl
theorem exec_block (id : Nat) (c : AC) (s : St) : exec K (.block id c) s = bnd (exec K c s) (blkK id) := by
  simp only [exec, bnd]
  cases exec K c s with
  | none => rfl
  | some r => obtain ⟨x, s'⟩ := r; cases x <;> rfl
theorem exec_cond (x : AX) (a b : AC) (s : St) : exec K (.cond x a b) s = condK K a b s (evX (gE s.env) x) := by
  simp only [exec]
  generalize evX (gE s.env) x = v
  cases v with
  | dat d =>
    cases d with
    | bool t => cases t <;> rfl
    | _ => rfl
  | _ => rfl
theorem exec_loop (c : AC) (s : St) : exec K (.loop c) s = loopLim (exec K c) s := rfl

def opsK (i : Nat) (o : AO) (r : List AO) (s : St) (lg : Log) (out : Out) : Option (St × Log) :=
  runOps K (i + 1) r ⟨putE s.env o.dst out.1, pOs s.objs out.2⟩ (lg ++ logOf o i (gE s.env) (gO s.objs) out)

theorem runOps_nil (i : Nat) (s : St) (lg : Log) : runOps K i [] s lg = some (s, lg) := rfl
theorem runOps_cons (i : Nat) (o : AO) (r : List AO) (s : St) (lg : Log) : runOps K i (o :: r) s lg = bnd (aoE K o (gE s.env) (gO s.objs)) (opsK K i o r s lg) := by
  simp only [runOps, bnd]; split <;> simp_all [opsK]
theorem opsK_eq (i : Nat) (d : Option Nat) (k : AK) (g : Option (Nat × Bool)) (lgd : Bool) (r : List AO) (env : Env) (objs : Store) (lg : Log) (v : AVal) (upd : List (Id × Obj)) :
    opsK K i ⟨d, k, g, lgd⟩ r ⟨env, objs⟩ lg (v, upd) = runOps K (i + 1) r ⟨putE env d v, pOs objs upd⟩ (lg ++ logOf ⟨d, k, g, lgd⟩ i (gE env) (gO objs) (v, upd)) := rfl
theorem logOf_f (d : Option Nat) (k : AK) (g : Option (Nat × Bool)) (i : Nat) (e : Nat → AVal) (ρ : Look) (out : Out) : logOf ⟨d, k, g, false⟩ i e ρ out = [] := rfl
theorem logOf_t (d : Option Nat) (k : AK) (g : Option (Nat × Bool)) (i : Nat) (e : Nat → AVal) (ρ : Look) (out : Out) : logOf ⟨d, k, g, true⟩ i e ρ out = [(i, touch k e ρ, out.2.map (·.1))] := rfl

def pairsK (pairs : List (Nat × Nat)) (p : St × Log) : Option St := if pairs.all (pairOk p.2) then some p.1 else none
theorem pairsK_nil (s : St) (lg : Log) : pairsK [] (s, lg) = some s := rfl
def regK (r : AReg) (s : St) : Option St := bnd (runOps K 0 r.ops s []) (pairsK r.pairs)
theorem regK_eq (live drop : List Nat) (ops : List AO) (pairs : List (Nat × Nat)) (s : St) : regK K ⟨live, drop, ops, pairs⟩ s = bnd (runOps K 0 ops s []) (pairsK pairs) := rfl
theorem runReg_eq (live drop : List Nat) (ops : List AO) (pairs : List (Nat × Nat)) (env : Env) (objs : Store) : runReg K ⟨live, drop, ops, pairs⟩ ⟨env, objs⟩ = bnd (dropE drop ⟨restrict live env, objs⟩) (regK K ⟨live, drop, ops, pairs⟩) := by
  simp only [runReg, bnd, regK, pairsK]
  cases dropE drop ⟨restrict live env, objs⟩ with
  | none => rfl
  | some s =>
    simp only
    cases runOps K 0 ops s [] with
    | none => rfl
    | some p => rfl
/-- a region's start: what lives on, named anew -/
def hd (live drop : List Nat) (s : St) : Option St := dropE drop ⟨restrict live s.env, s.objs⟩
theorem hd_eq (live drop : List Nat) (env : Env) (objs : Store) : hd live drop ⟨env, objs⟩ = dropE drop ⟨restrict live env, objs⟩ := rfl
theorem runReg_hd (live drop : List Nat) (ops : List AO) (pairs : List (Nat × Nat)) (s : St) : runReg K ⟨live, drop, ops, pairs⟩ s = bnd (hd live drop s) (regK K ⟨live, drop, ops, pairs⟩) := runReg_eq K live drop ops pairs s.env s.objs
theorem dropE_nil (s : St) : dropE [] s = some s := rfl
theorem restrict_nil (env : Env) : restrict [] env = [] := rfl
theorem restrict_cons (t : Nat) (r : List Nat) (env : Env) : restrict (t :: r) env = (t, gE env t) :: restrict r env := rfl

theorem aoE_plain (d : Option Nat) (k : AK) (l : Bool) (g : Nat → AVal) (ρ : Look) : aoE K ⟨d, k, none, l⟩ g ρ = opE K (d.getD 0) k g ρ := rfl
def grdK (want : Bool) (x : Option Out) : AVal → Option Out
  | .dat (.bool b) => if b = want then x else some (.tup [], [])
  | .tup [] => some (.tup [], [])
  | _ => none
@[congr] theorem grdK_congr {want : Bool} {x : Option Out} {v v' : AVal} (h : v = v') : grdK want x v = grdK want x v' := by rw [h]
theorem aoE_guard (d : Option Nat) (k : AK) (t : Nat) (want l : Bool) (g : Nat → AVal) (ρ : Look) : aoE K ⟨d, k, some (t, want), l⟩ g ρ = grdK want (opE K (d.getD 0) k g ρ) (g t) := by
  simp only [aoE]
  generalize g t = v
  cases v with
  | dat d => cases d <;> rfl
  | tup l => cases l <;> rfl
  | _ => rfl
theorem grdK_b (want b : Bool) (x : Option Out) : grdK want x (.dat (.bool b)) = if b = want then x else some (.tup [], []) := rfl
theorem grdK_u (want : Bool) (x : Option Out) : grdK want x (.tup []) = some (.tup [], []) := rfl

theorem putE_some (env : Env) (d : Nat) (v : AVal) : putE env (some d) v = (d, v) :: env := rfl
theorem putE_none (env : Env) (v : AVal) : putE env none v = env := rfl

theorem gE_hit (env : Env) (t : Nat) (v : AVal) : gE ((t, v) :: env) t = v := by simp [gE]
theorem gE_miss (env : Env) (t t' : Nat) (v : AVal) : gE ((t', v) :: env) t = if t' = t then v else gE env t := rfl


/-! ### a function's result -/

def retK3 (vs : List AVal) (order : List Id) (os : List Obj) : Option (AVal × List Obj) :=
  some (match AVal.renL (toPos order) vs with | [v] => v | _ => .tup (AVal.renL (toPos order) vs), os.map (Obj.ren (toPos order)))
def retK2 (objs : Store) (vs : List AVal) (order : List Id) : Option (AVal × List Obj) := bnd (gather (gO objs) order) (retK3 vs order)
def retK1 (m : Nat) (objs : Store) (p : List AVal × List Id) : Option (AVal × List Obj) :=
  bnd (collect (gO (pOs objs (frz (gO objs) p.2))) 64 ((List.range m).map (fun j => ((0, j) : Id)) ++ AVal.idsL p.1) []) (retK2 (pOs objs (frz (gO objs) p.2)) p.1)
def retK (keep : Bool) (m : Nat) (objs : Store) (vs : List AVal) : Option (AVal × List Obj) := bnd (ressE (gO objs) keep vs) (retK1 m objs)

theorem retE_eq (np : Nat) (res : List Nat) (keep : Bool) (code : AC) (sp : Option Nat) (m : Nat) (env : Env) (objs : Store) : retE ⟨np, res, keep, code, sp⟩ m ⟨env, objs⟩ = retK keep m objs (res.map (gE env)) := by
  simp only [retE, retK, bnd]
  cases ressE (gO objs) keep (res.map (gE env)) with
  | none => rfl
  | some p =>
    obtain ⟨vs, fs⟩ := p
    simp only [retK1, bnd]
    cases collect (gO (pOs objs (frz (gO objs) fs))) 64 ((List.range m).map (fun j => ((0, j) : Id)) ++ AVal.idsL vs) [] with
    | none => rfl
    | some order =>
      simp only [retK2, bnd]
      cases gather (gO (pOs objs (frz (gO objs) fs))) order <;> rfl

def endK (res : List Nat) (keep : Bool) (m : Nat) : AEx × St → Option (AVal × List Obj)
  | (.normal, s) => retK keep m s.objs (res.map (gE s.env))
  | (.ret, s) => retK keep m s.objs (res.map (gE s.env))
  | (.exit _, _) => none
theorem endK_n (res : List Nat) (keep : Bool) (m : Nat) (env : Env) (objs : Store) : endK res keep m (.normal, ⟨env, objs⟩) = retK keep m objs (res.map (gE env)) := rfl
theorem endK_r (res : List Nat) (keep : Bool) (m : Nat) (env : Env) (objs : Store) : endK res keep m (.ret, ⟨env, objs⟩) = retK keep m objs (res.map (gE env)) := rfl

theorem endK_hd {res : List Nat} {keep : Bool} {m : Nat} {s : St} {env : Env} {objs : Store} (h : hd res [] s = some ⟨env, objs⟩) : endK res keep m (.ret, s) = retK keep m objs (res.map (gE env)) := by
  have h : (⟨restrict res s.env, s.objs⟩ : St) = ⟨env, objs⟩ := Option.some.inj h
  injection h with h1 h2
  subst h1 h2
  simp only [endK]
  congr 1
  exact List.map_congr_left fun t ht => by rw [gE_restrict, if_pos ht]

theorem runFun_eq {np : Nat} {res : List Nat} {keep : Bool} {code : AC} {sp : Option Nat} {args : List AVal} {os : List Obj} (h : args.length = np) :
    runFun K ⟨np, res, keep, code, sp⟩ args os = bnd (exec K code (enter args os)) (endK res keep os.length) := by
  simp only [runFun, h, if_true, bnd]
  cases exec K code (enter args os) with
  | none => rfl
  | some r => obtain ⟨x, ⟨env, objs⟩⟩ := r; cases x <;> simp [retE_eq, endK]

theorem runS_none {fn : AFun} (h : fn.split = none) (args : List AVal) (os : List Obj) : runS K fn args os = runFun K fn args os := by
  simp only [runS, h]


theorem wrap_i64_all {n : Int} (h : -9223372036854775808 ≤ n) (h' : n < 9223372036854775808) : IntKind.wrap .i64 n = n := by
  have : IntKind.wrap .i64 n = if n % 2 ^ 64 ≥ 2 ^ 63 then n % 2 ^ 64 - 2 ^ 64 else n % 2 ^ 64 := by simp [IntKind.wrap, IntKind.bits, IntKind.signed]
  rw [this]
  omega
theorem wrap_i64 {n : Int} (h : -1000000000000000 < n) (h' : n < 1000000000000000) : IntKind.wrap .i64 n = n := by
  have : IntKind.wrap .i64 n = if n % 2 ^ 64 ≥ 2 ^ 63 then n % 2 ^ 64 - 2 ^ 64 else n % 2 ^ 64 := by simp [IntKind.wrap, IntKind.bits, IntKind.signed]
  rw [this]
  omega

/-! ### what an evaluation comes to -/

def Ev {α : Type} (x : Option α) (Q : α → Prop) : Prop := ∃ r, x = some r ∧ Q r
@[congr] theorem Ev_congr {α : Type} {x x' : Option α} {Q : α → Prop} (h : x = x') : Ev x Q = Ev x' Q := by rw [h]
theorem Ev_some {α : Type} (a : α) (Q : α → Prop) : Ev (some a) Q = Q a := by simp [Ev]
theorem Ev_none {α : Type} (Q : α → Prop) : Ev none Q = False := by simp [Ev]
theorem Ev.eq {α : Type} {x : Option α} {a : α} (h : Ev x (fun r => r = a)) : x = some a := by obtain ⟨r, h, rfl⟩ := h; exact h
theorem Ev.mono {α : Type} {x : Option α} {Q Q' : α → Prop} (h : Ev x Q) (hq : ∀ r, Q r → Q' r) : Ev x Q' := by obtain ⟨r, h, h'⟩ := h; exact ⟨r, h, hq r h'⟩
/-- what comes next, behind what has a lemma -/
theorem ev_bnd {α β : Type} {x : Option α} {f : α → Option β} {Q : β → Prop} (R : α → Prop) (h : Ev x R) (hf : ∀ a, R a → Ev (f a) Q) : Ev (bnd x f) Q := by
  obtain ⟨r, rfl, hr⟩ := h
  exact hf r hr
theorem ev_bnd_iff {α β : Type} (x : Option α) (f : α → Option β) (Q : β → Prop) : Ev (bnd x f) Q = Ev x fun a => Ev (f a) Q := by
  apply propext
  constructor
  · rintro ⟨r, h, hq⟩
    cases x with
    | none => cases h
    | some a => exact ⟨a, rfl, r, h, hq⟩
  · rintro ⟨a, rfl, r, h, hq⟩
    exact ⟨r, h, hq⟩
/-- one round of a loop, and what becomes of it -/
def loopQ (c : AC) (Q : AEx × St → Prop) : AEx × St → Prop
  | (.normal, s) => Ev (loopLim (exec K c) s) Q
  | (.exit id, s) => Q (.exit id, s)
  | (.ret, s) => Q (.ret, s)
theorem loopQ_n (c : AC) (Q : AEx × St → Prop) (s : St) : loopQ K c Q (.normal, s) = Ev (loopLim (exec K c) s) Q := rfl
theorem loopQ_e (c : AC) (Q : AEx × St → Prop) (id : Nat) (s : St) : loopQ K c Q (.exit id, s) = Q (.exit id, s) := rfl
theorem loopQ_r (c : AC) (Q : AEx × St → Prop) (s : St) : loopQ K c Q (.ret, s) = Q (.ret, s) := rfl
variable {K} in
theorem ev_loop {c : AC} {s : St} {Q : AEx × St → Prop} (h : Ev (exec K c s) (loopQ K c Q)) : Ev (loopLim (exec K c) s) Q := by
  obtain ⟨⟨x, s'⟩, h1, h2⟩ := h
  cases x with
  | normal =>
    obtain ⟨r, h3, h4⟩ := h2
    exact ⟨r, loop_next h1 h3, h4⟩
  | exit id => exact ⟨_, loop_done h1 (by simp), h2⟩
  | ret => exact ⟨_, loop_done h1 (by simp), h2⟩

theorem callT_ev {tbl : FuncId → Option AFun} {f : FuncId} {fn : AFun} (hf : tbl f = some fn) (hs : fn.split = none) {args : List AVal} {os : List Obj} {r : AVal × List Obj} (h : Ev (runFun (callT tbl) fn args os) (· = r)) : callT tbl f args os = some r :=
  callT_of hf (by rw [runS_none _ hs]; exact h.eq)

def asB : Dat → Option UInt8
  | .int .u8 n => some (UInt8.ofNat n.toNat)
  | _ => none
/-- a slice of bytes as a string -/
def b2sE (ρ : Look) (v : AVal) : Option Out := match elemsOf ρ 1 v with
  | some l => match allSome (l.map asB) with
    | some s => some (.dat (.str s), [])
    | none => none
  | none => none
theorem opE_b2s (site : Nat) (x : AX) (g : Nat → AVal) (ρ : Look) : opE K site (.b2s x) g ρ = b2sE ρ (evX g x) := by
  simp only [opE, b2sE]
  cases elemsOf ρ 1 (evX g x) with
  | none => rfl
  | some l => rfl
theorem take_all {α : Type} {l : List α} {n : Nat} (h : l.length ≤ n) : l.take n = l := List.take_of_length_le h

theorem intE_add (k : IntKind) (a b : Int) : intE .add k a b = some (.dat (.int k (k.wrap (a + b)))) := rfl
theorem intE_sub (k : IntKind) (a b : Int) : intE .sub k a b = some (.dat (.int k (k.wrap (a - b)))) := rfl
theorem intE_mul (k : IntKind) (a b : Int) : intE .mul k a b = some (.dat (.int k (k.wrap (a * b)))) := rfl
theorem intE_quo (k : IntKind) (a b : Int) : intE .quo k a b = if b = 0 then none else some (.dat (.int k (k.wrap (a.tdiv b)))) := rfl
theorem intE_rem (k : IntKind) (a b : Int) : intE .rem k a b = if b = 0 then none else some (.dat (.int k (a.tmod b))) := rfl
theorem intE_eql (k : IntKind) (a b : Int) : intE .eql k a b = some (.dat (.bool (decide (a = b)))) := rfl
theorem intE_neq (k : IntKind) (a b : Int) : intE .neq k a b = some (.dat (.bool (!decide (a = b)))) := rfl
theorem intE_lss (k : IntKind) (a b : Int) : intE .lss k a b = some (.dat (.bool (decide (a < b)))) := rfl
theorem intE_leq (k : IntKind) (a b : Int) : intE .leq k a b = some (.dat (.bool (decide (a ≤ b)))) := rfl
theorem intE_gtr (k : IntKind) (a b : Int) : intE .gtr k a b = some (.dat (.bool (decide (a > b)))) := rfl
theorem intE_geq (k : IntKind) (a b : Int) : intE .geq k a b = some (.dat (.bool (decide (a ≥ b)))) := rfl
theorem unE_neg (k : IntKind) (n : Int) : unE .neg (.dat (.int k n)) = some (.dat (.int k (k.wrap (0 - n)))) := rfl
theorem unE_not (b : Bool) : unE .not (.dat (.bool b)) = some (.dat (.bool (!b))) := rfl
/-- bits of numbers that are no negative ones -/
theorem intE_bits {k : IntKind} {a b : Nat} (hk : k.signed = false) (ha : a < 2 ^ k.bits) (hb : b < 2 ^ k.bits) :
    intE .and k a b = some (.dat (.int k ((a &&& b : Nat) : Int))) ∧ intE .or k a b = some (.dat (.int k ((a ||| b : Nat) : Int))) ∧ intE .xor k a b = some (.dat (.int k ((a ^^^ b : Nat) : Int))) := by
  have hw : ∀ n : Nat, n < 2 ^ k.bits → IntKind.wrap k (n : Int) = (n : Int) := by
    intro n hn
    have h2 : (n : Int) < 2 ^ k.bits := by exact_mod_cast hn
    have : IntKind.wrap k (n : Int) = (n : Int) % 2 ^ k.bits := by simp [IntKind.wrap, hk]
    rw [this]
    exact Int.emod_eq_of_lt (by omega) h2
  have e : ∀ n : Nat, BitVec.ofInt k.bits (n : Int) = BitVec.ofNat k.bits n := fun n => BitVec.ofInt_natCast ..
  simp only [intE, e, BitVec.toNat_and, BitVec.toNat_or, BitVec.toNat_xor, BitVec.toNat_ofNat, Nat.mod_eq_of_lt ha, Nat.mod_eq_of_lt hb]
  refine ⟨?_, ?_, ?_⟩
  · rw [hw _ (Nat.and_lt_two_pow a hb)]
  · rw [hw _ (Nat.or_lt_two_pow ha hb)]
  · rw [hw _ (Nat.xor_lt_two_pow ha hb)]
theorem bits_u8 : IntKind.bits .u8 = 8 := rfl
theorem bits_u16 : IntKind.bits .u16 = 16 := rfl
theorem bits_u32 : IntKind.bits .u32 = 32 := rfl
theorem bits_u64 : IntKind.bits .u64 = 64 := rfl
theorem bits_i64 : IntKind.bits .i64 = 64 := rfl
theorem wrap_u8 (n : Int) : IntKind.wrap .u8 n = n % 256 := by simp [IntKind.wrap, IntKind.bits, IntKind.signed]
theorem wrap_u16 (n : Int) : IntKind.wrap .u16 n = n % 65536 := by simp [IntKind.wrap, IntKind.bits, IntKind.signed]
theorem wrap_u32 (n : Int) : IntKind.wrap .u32 n = n % 4294967296 := by simp [IntKind.wrap, IntKind.bits, IntKind.signed]
theorem wrap_u64 (n : Int) : IntKind.wrap .u64 n = n % 18446744073709551616 := by simp [IntKind.wrap, IntKind.bits, IntKind.signed]
theorem fdiv_pos {a b : Int} (h : 0 ≤ b) : a.fdiv b = a / b := Int.fdiv_eq_ediv_of_nonneg a h
theorem tdiv_pos {a b : Int} (h : 0 ≤ a) : a.tdiv b = a / b := Int.tdiv_eq_ediv_of_nonneg h
theorem tmod_pos {a b : Int} (h : 0 ≤ a) : a.tmod b = a % b := Int.tmod_eq_emod_of_nonneg h

attribute [simp ↓ high] opE_b2s
attribute [simp] take_all bits_u8 bits_u16 bits_u32 bits_u64 bits_i64 wrap_u8 wrap_u16 wrap_u32 wrap_u64 wrap_i64 fdiv_pos tdiv_pos tmod_pos
attribute [simp] Ev_some Ev_none loopQ_n loopQ_e loopQ_r bnd_some bnd_none seqK_n seqK_e seqK_r blkK_n blkK_e blkK_r condK_t condK_f exec_skip exec_exit exec_ret exec_reg exec_seq exec_block exec_cond exec_loop runOps_nil runOps_cons opsK_eq logOf_f logOf_t pairsK pairOk logAt meets regK_eq runReg_hd hd_eq restrict_nil restrict_cons aoE_plain aoE_guard grdK_b grdK_u putE_some putE_none gE_miss pOs pO gO updL opE evX binE intE_add intE_sub intE_mul intE_quo intE_rem intE_eql intE_neq intE_lss intE_leq intE_gtr intE_geq shiftE List.getElem?_cons_zero intOf? nilPE nilSE cmpE boolE strE ptrAdd loadE unE_neg unE_not endK_n endK_r retK retK1 retK2 retK3 ressE resE dec decLeaf decLeaves decAll frz collect gather enter AVal.idsL AVal.ids Obj.ids AVal.renL AVal.ren Obj.ren toPos indexIn fromPos List.range_succ newVer
  Dat.width splice storeE elemsOf srcOf fillE lenE lenS iAddrE sliceE sliceS namesE nameL lookN dropE partE opE.argsE zeroDat touch scalV scalD mmE mmsE room

end
end Go.Am

namespace Go.Am
open Go.Proofs
def tblJ : FuncId → Option AFun
  | 3 => some fn3
  | 4 => some fn4
  | 5 => some fn5
  | 6 => some fn6
  | 7 => some fn7
  | 8 => some fn8
  | 9 => some fn9
  | 10 => some fn10
  | 11 => some fn11
  | 12 => some fn12
  | 13 => some fn13
  | 14 => some fn14
  | 15 => some fn15
  | 16 => some fn16
  | 17 => some fn17
  | 18 => some fn18
  | 19 => some fn19
  | 20 => some fn20
  | 21 => some fn21
  | 22 => some fn22
  | 23 => some fn23
  | 24 => some fn24
  | 25 => some fn25
  | 26 => some fn26
  | 27 => some fn27
  | 28 => some fn28
  | 29 => some fn29
  | 30 => some fn30
  | 31 => some fn31
  | 32 => some fn32
  | 33 => some fn33
  | 34 => some fn34
  | 35 => some fn35
  | 36 => some fn36
  | 37 => some fn37
  | 38 => some { fn38 with split := some 0 }
  | 39 => some fn39
  | 40 => some fn40
  | 41 => some fn41
  | 42 => some fn42
  | 43 => some fn43
  | 44 => some fn44
  | 45 => some fn45
  | 46 => some fn46
  | 47 => some fn47
  | 48 => some fn48
  | 49 => some fn49
  | 50 => some fn50
  | 51 => some fn51
  | 52 => some fn52
  | 53 => some fn53
  | 54 => some fn54
  | 55 => some fn55
  | 56 => some fn56
  | 57 => some fn57
  | 58 => some fn58
  | 59 => some fn59
  | 60 => some fn60
  | _ => none

theorem tblJ_ok : TblOK Try.prog tblJ := by
  intro f fn h
  unfold tblJ at h
  split at h
  · cases h; exact ⟨ann3, false, fn3, c3, rfl⟩
  · cases h; exact ⟨ann4, false, fn4, c4, rfl⟩
  · cases h; exact ⟨ann5, false, fn5, c5, rfl⟩
  · cases h; exact ⟨ann6, false, fn6, c6, rfl⟩
  · cases h; exact ⟨ann7, false, fn7, c7, rfl⟩
  · cases h; exact ⟨ann8, false, fn8, c8, rfl⟩
  · cases h; exact ⟨ann9, false, fn9, c9, rfl⟩
  · cases h; exact ⟨ann10, false, fn10, c10, rfl⟩
  · cases h; exact ⟨ann11, false, fn11, c11, rfl⟩
  · cases h; exact ⟨ann12, false, fn12, c12, rfl⟩
  · cases h; exact ⟨ann13, false, fn13, c13, rfl⟩
  · cases h; exact ⟨ann14, false, fn14, c14, rfl⟩
  · cases h; exact ⟨ann15, false, fn15, c15, rfl⟩
  · cases h; exact ⟨ann16, false, fn16, c16, rfl⟩
  · cases h; exact ⟨ann17, false, fn17, c17, rfl⟩
  · cases h; exact ⟨ann18, false, fn18, c18, rfl⟩
  · cases h; exact ⟨ann19, false, fn19, c19, rfl⟩
  · cases h; exact ⟨ann20, false, fn20, c20, rfl⟩
  · cases h; exact ⟨ann21, false, fn21, c21, rfl⟩
  · cases h; exact ⟨ann22, false, fn22, c22, rfl⟩
  · cases h; exact ⟨ann23, false, fn23, c23, rfl⟩
  · cases h; exact ⟨ann24, false, fn24, c24, rfl⟩
  · cases h; exact ⟨ann25, false, fn25, c25, rfl⟩
  · cases h; exact ⟨ann26, false, fn26, c26, rfl⟩
  · cases h; exact ⟨ann27, false, fn27, c27, rfl⟩
  · cases h; exact ⟨ann28, false, fn28, c28, rfl⟩
  · cases h; exact ⟨ann29, false, fn29, c29, rfl⟩
  · cases h; exact ⟨ann30, false, fn30, c30, rfl⟩
  · cases h; exact ⟨ann31, false, fn31, c31, rfl⟩
  · cases h; exact ⟨ann32, false, fn32, c32, rfl⟩
  · cases h; exact ⟨ann33, false, fn33, c33, rfl⟩
  · cases h; exact ⟨ann34, false, fn34, c34, rfl⟩
  · cases h; exact ⟨ann35, false, fn35, c35, rfl⟩
  · cases h; exact ⟨ann36, false, fn36, c36, rfl⟩
  · cases h; exact ⟨ann37, false, fn37, c37, rfl⟩
  · cases h; exact ⟨ann38, false, fn38, c38, rfl⟩
  · cases h; exact ⟨ann39, false, fn39, c39, rfl⟩
  · cases h; exact ⟨ann40, false, fn40, c40, rfl⟩
  · cases h; exact ⟨ann41, false, fn41, c41, rfl⟩
  · cases h; exact ⟨ann42, false, fn42, c42, rfl⟩
  · cases h; exact ⟨ann43, false, fn43, c43, rfl⟩
  · cases h; exact ⟨ann44, false, fn44, c44, rfl⟩
  · cases h; exact ⟨ann45, false, fn45, c45, rfl⟩
  · cases h; exact ⟨ann46, false, fn46, c46, rfl⟩
  · cases h; exact ⟨ann47, false, fn47, c47, rfl⟩
  · cases h; exact ⟨ann48, false, fn48, c48, rfl⟩
  · cases h; exact ⟨ann49, false, fn49, c49, rfl⟩
  · cases h; exact ⟨ann50, false, fn50, c50, rfl⟩
  · cases h; exact ⟨ann51, true, fn51, c51, rfl⟩
  · cases h; exact ⟨ann52, false, fn52, c52, rfl⟩
  · cases h; exact ⟨ann53, false, fn53, c53, rfl⟩
  · cases h; exact ⟨ann54, true, fn54, c54, rfl⟩
  · cases h; exact ⟨ann55, false, fn55, c55, rfl⟩
  · cases h; exact ⟨ann56, false, fn56, c56, rfl⟩
  · cases h; exact ⟨ann57, false, fn57, c57, rfl⟩
  · cases h; exact ⟨ann58, false, fn58, c58, rfl⟩
  · cases h; exact ⟨ann59, false, fn59, c59, rfl⟩
  · cases h; exact ⟨ann60, false, fn60, c60, rfl⟩
  · cases h
end Go.Am

/- Plain definitions and facts: bytes, numbers in bytes, frames. -/
set_option linter.unusedVariables false
namespace Go.Am

theorem ite_t {α : Type} {c : Prop} [Decidable c] {a b : α} (h : c) : ite c a b = a := if_pos h
theorem ite_f {α : Type} {c : Prop} [Decidable c] {a b : α} (h : ¬ c) : ite c a b = b := if_neg h
theorem dec_t {c : Prop} [Decidable c] (h : c) : decide c = true := by simp [h]
theorem dec_f {c : Prop} [Decidable c] (h : ¬ c) : decide c = false := by simp [h]

@[simp] theorem get_mid {α : Type} (l r : List α) (a : α) : (l ++ a :: r)[l.length]? = some a := by simp
@[simp] theorem get_mid_map {α β : Type} (f : β → α) (l : List β) (r : List α) (a : α) : (l.map f ++ a :: r)[l.length]? = some a := by
  rw [List.getElem?_append_right (by simp)]
  simp

@[simp] theorem lt_mid (a b : Nat) : ((a : Int) < a + (b + 1)) = True := by simp; omega
@[simp] theorem lt_mid1 (a : Nat) : ((a : Int) < a + 1) = True := by simp; omega
@[simp] theorem nn_succ (a : Nat) : (0 ≤ (a : Int) + 1) = True := by simp; omega
@[simp] theorem toNat_succ (a : Nat) : ((a : Int) + 1).toNat = a + 1 := by omega
theorem get_at {α : Type} (l : List α) {i : Nat} (h : i < l.length) : ∃ a, l[i]? = some a := ⟨l[i], by simp [h]⟩
theorem take_map {α β : Type} (f : α → β) (n : Nat) (l : List α) : (l.map f).take n = (l.take n).map f := List.map_take.symm
theorem drop_map {α β : Type} (f : α → β) (n : Nat) (l : List α) : (l.map f).drop n = (l.drop n).map f := List.map_drop.symm
theorem drop12 {α : Type} (a0 a1 a2 a3 a4 a5 a6 a7 a8 a9 a10 a11 : α) (T : List α) (c : Nat) : List.drop (12 + c) (a0 :: a1 :: a2 :: a3 :: a4 :: a5 :: a6 :: a7 :: a8 :: a9 :: a10 :: a11 :: T) = T.drop c := by rw [Nat.add_comm]; rfl
theorem take12 {α : Type} (a0 a1 a2 a3 a4 a5 a6 a7 a8 a9 a10 a11 : α) (T : List α) (c : Nat) : List.take (12 + c) (a0 :: a1 :: a2 :: a3 :: a4 :: a5 :: a6 :: a7 :: a8 :: a9 :: a10 :: a11 :: T) = a0 :: a1 :: a2 :: a3 :: a4 :: a5 :: a6 :: a7 :: a8 :: a9 :: a10 :: a11 :: T.take c := by rw [Nat.add_comm]; rfl
theorem drop_none {α : Type} {l : List α} {n : Nat} (h : l.length ≤ n) : l.drop n = [] := List.drop_of_length_le h
attribute [simp] Int.natCast_inj
theorem get_at' {α : Type} (l : List α) {i : Nat} (h : i < l.length) : ∃ a, l[i]? = some a ∧ ∀ h : i < l.length, l[i] = a := ⟨l[i], by simp [h], fun _ => rfl⟩
@[simp] theorem neg_cast (i : Nat) : ((i : Int) < 0) = False := by simp
/-- a position and the next one -/
def Ix (n : Nat) : Prop := n < 100000000000000
@[simp] theorem wrap_succ {n : Nat} (h : Ix n) : IntKind.wrap .i64 ((n : Int) + 1) = (n : Int) + 1 := by
  unfold Ix at h
  exact wrap_i64 (by omega) (by omega)

theorem bv_xor {a b : Nat} (ha : a < 4294967296) (hb : b < 4294967296) : (((BitVec.ofNat 32 a ^^^ BitVec.ofNat 32 b).toNat : Nat) : Int) % 4294967296 = ((a ^^^ b : Nat) : Int) := by
  have h : (BitVec.ofNat 32 a ^^^ BitVec.ofNat 32 b).toNat = a ^^^ b := by
    rw [BitVec.toNat_xor, BitVec.toNat_ofNat, BitVec.toNat_ofNat, Nat.mod_eq_of_lt ha, Nat.mod_eq_of_lt hb]
  have := Nat.xor_lt_two_pow (n := 32) ha hb
  omega
theorem bv_or {a b : Nat} (ha : a < 4294967296) (hb : b < 4294967296) : (((BitVec.ofNat 32 a ||| BitVec.ofNat 32 b).toNat : Nat) : Int) % 4294967296 = ((a ||| b : Nat) : Int) := by
  have h : (BitVec.ofNat 32 a ||| BitVec.ofNat 32 b).toNat = a ||| b := by
    rw [BitVec.toNat_or, BitVec.toNat_ofNat, BitVec.toNat_ofNat, Nat.mod_eq_of_lt ha, Nat.mod_eq_of_lt hb]
  have := Nat.or_lt_two_pow (n := 32) ha hb
  omega
theorem bv_and {a b : Nat} (ha : a < 4294967296) (hb : b < 4294967296) : (((BitVec.ofNat 32 a &&& BitVec.ofNat 32 b).toNat : Nat) : Int) % 4294967296 = ((a &&& b : Nat) : Int) := by
  have h : (BitVec.ofNat 32 a &&& BitVec.ofNat 32 b).toNat = a &&& b := by
    rw [BitVec.toNat_and, BitVec.toNat_ofNat, BitVec.toNat_ofNat, Nat.mod_eq_of_lt ha, Nat.mod_eq_of_lt hb]
  have := Nat.and_lt_two_pow (n := 32) a hb
  omega

/-- a byte as a datum -/
@[simp] def B (b : UInt8) : Dat := .int .u8 (b.toNat : Int)


theorem byte_lt (b : UInt8) : b.toNat < 256 := by have := b.toBitVec.isLt; simpa using this

def num4 (l : List UInt8) : Nat := (l.getD 0 0).toNat + 256 * (l.getD 1 0).toNat + 65536 * (l.getD 2 0).toNat + 16777216 * (l.getD 3 0).toNat

def uintB (n : Nat) : List UInt8 := if 128 ≤ n then UInt8.ofNat (n % 128 + 128) :: uintB (n / 128) else [UInt8.ofNat n]
  termination_by n

def crcBit (r : Nat) : Nat := if r % 2 = 1 then (r / 2) ^^^ 3988292384 else r / 2
def crcBits : Nat → Nat → Nat
  | 0, r => r
  | n + 1, r => crcBits n (crcBit r)
def crcL : List UInt8 → Nat → Nat
  | [], r => r
  | b :: l, r => crcL l (crcBits 8 (r ^^^ b.toNat))
def crcB (l : List UInt8) : Nat := crcL l 4294967295 ^^^ 4294967295

def sumB (c : Nat) : List UInt8 := [UInt8.ofNat c, UInt8.ofNat (c / 256), UInt8.ofNat (c / 65536), UInt8.ofNat (c / 16777216)]

def sealB (p : List UInt8) : List UInt8 := (uintB p.length ++ p) ++ sumB (crcB (uintB p.length ++ p))

theorem crcBit_lt {r : Nat} (h : r < 4294967296) : crcBit r < 4294967296 := by
  unfold crcBit
  split
  · exact Nat.xor_lt_two_pow (n := 32) (by omega) (by omega)
  · omega
theorem crcBits_lt : ∀ (n : Nat) {r : Nat}, r < 4294967296 → crcBits n r < 4294967296
  | 0, r, h => h
  | n + 1, r, h => crcBits_lt n (crcBit_lt h)
theorem crcL_lt : ∀ (l : List UInt8) {r : Nat}, r < 4294967296 → crcL l r < 4294967296
  | [], r, h => h
  | b :: l, r, h => crcL_lt l (crcBits_lt 8 (Nat.xor_lt_two_pow (n := 32) h (by have := byte_lt b; omega)))
theorem crcB_lt (l : List UInt8) : crcB l < 4294967296 := Nat.xor_lt_two_pow (n := 32) (crcL_lt l (by omega)) (by omega)

theorem b2s_map (l : List UInt8) : allSome ((l.map B).map asB) = some l := by
  induction l with
  | nil => rfl
  | cons b l ih =>
    simp only [List.map_cons, allSome, ih, B, asB, Int.toNat_natCast, UInt8.ofNat_toNat]

theorem b2sE_map (ρ : Look) (l : List UInt8) : b2sE ρ (.dat (.sl (l.map B))) = some (.dat (.str l), []) := by
  have h : (l.map B).all (fun d => d.width == 1) = true := by simp [Dat.width]
  simp only [b2sE, elemsOf, h, if_true, b2s_map]
attribute [simp] b2sE_map

theorem width_B (l : List UInt8) : ((l.map B).all fun d => d.width == 1) = true := by simp [Dat.width]

end Go.Am

/- Walks: bytes, numbers, checksums, frames. -/
set_option linter.unusedVariables false
set_option linter.unusedSimpArgs false
set_option maxRecDepth 10000
namespace Go.Am
open Go.Proofs

noncomputable abbrev KJ : Orc := callT tblJ

theorem equal_run (a b : List UInt8) : KJ 48 [.dat (.sl (a.map B)), .dat (.sl (b.map B))] [] = some (.dat (.bool (a == b)), []) :=
  callT_ev (fn := fn48) rfl rfl (by simp [runFun_eq])
theorem same_run (a b : List UInt8) : KJ 14 [.dat (.sl (a.map B)), .dat (.sl (b.map B))] [] = some (.dat (.bool (a == b)), []) :=
  callT_ev (fn := fn14) rfl rfl (by simp [runFun_eq])

theorem sumBytes_run (c : Nat) (h : c < 4294967296) : KJ 56 [.dat (.int .u32 c)] [] = some (.dat (.sl ((sumB c).map B)), []) :=
  callT_ev (fn := fn56) rfl rfl (by simp [runFun_eq, sumB])

theorem uint_loop : ∀ (n v : Nat) (s : St) (l : List UInt8), n < 1000000000000 → l.length + n < 100000000000 →
    hd [0, 3] [3] s = some ⟨[(0, .dat (.int .i64 n)), (3, .rsl (4, 0) v 1 0 l.length)], [((4, 0), .arr 1 v false (l.map B))]⟩ →
    Ev (loopLim (exec KJ l59_0) s) fun r => r.1 = .exit 0 ∧ ∃ v' k m, m < 128 ∧ uintB n = k ++ [UInt8.ofNat m] ∧ k.length ≤ n ∧
      hd [0, 3] [] r.2 = some ⟨[(0, .dat (.int .i64 (m : Nat))), (3, .rsl (4, 0) v' 1 0 (l ++ k).length)], [((4, 0), .arr 1 v' false ((l ++ k).map B))]⟩ := by
  intro n
  induction n using Nat.strongRecOn with
  | _ n ih =>
    intro v s l hn hl hs
    apply ev_loop
    by_cases h : 128 ≤ n
    · have h' : (128 : Int) ≤ n := by omega
      have h1 : (l.length + 1) * 2 ≤ 1099511627776 := by omega
      have h2 : -1000000000000000 < (n : Int) % 128 + 128 := by omega
      have h3 : (n : Int) % 128 + 128 < 1000000000000000 := by omega
      have h4 : -1000000000000000 < (n : Int) / 128 := by omega
      have h5 : (n : Int) / 128 < 1000000000000000 := by omega
      simp [hs, h', h1, h2, h3, h4, h5]
      refine (ih (n / 128) (by omega) (v + 1) _ (l ++ [UInt8.ofNat (n % 128 + 128)]) (by omega) (by simp; omega) (by simp)).mono ?_
      rintro r ⟨e1, v', k, m, e2, e3, e4, e5⟩
      refine ⟨e1, v', UInt8.ofNat (n % 128 + 128) :: k, m, e2, ?_, by simp; omega, by simpa using e5⟩
      rw [uintB, if_pos h, e3]; rfl
    · have h' : ¬ (128 : Int) ≤ n := by omega
      simp [hs, h', h]
      refine ⟨v, [], n, by omega, ?_, by simp, rfl, rfl, rfl⟩
      rw [uintB, if_neg h]; rfl

theorem uintBytes_run (n : Nat) (hn : n < 1000000000) : KJ 59 [.dat (.int .i64 n)] [] = some (.dat (.sl ((uintB n).map B)), []) := by
  refine callT_ev (fn := fn59) rfl rfl ?_
  simp [runFun_eq]
  simp only [ev_bnd_iff]
  refine (uint_loop n 0 _ [] (by omega) (by simp; omega) (by simp)).mono ?_
  rintro ⟨_, s⟩ ⟨rfl, v', k, m, hm, e, hk, hs⟩
  have h1 : (k.length + 1) * 2 ≤ 1099511627776 := by omega
  simp at hs
  simp [hs, e, h1]
end Go.Am

/- Walks: joins, checksums, seals. -/
set_option linter.unusedVariables false
set_option linter.unusedSimpArgs false
set_option maxRecDepth 10000
namespace Go.Am
open Go.Proofs

/-- a slice of bytes as a datum -/
@[simp] def Bs (l : List UInt8) : Dat := .sl (l.map B)

theorem join_loop : ∀ (rest pre : List (List UInt8)) (v : Nat) (s : St) (l : List UInt8), pre.length + rest.length < 1000000 → l.length + rest.flatten.length < 500000000000 → 
    hd [3, 6, 7, 8] [3, 6] s = some ⟨[(3, .rsl (4, 0) v 1 0 l.length), (6, .dat (.sl ((pre ++ rest).map Bs))), (7, .dat (.int .i64 (pre ++ rest).length)), (8, .dat (.int .i64 pre.length))], [((4, 0), .arr 1 v false (l.map B))]⟩ →
    Ev (loopLim (exec KJ l58_0) s) fun r => r.1 = .exit 0 ∧ ∃ v',
      hd [3] [] r.2 = some ⟨[(3, .rsl (4, 0) v' 1 0 (l ++ rest.flatten).length)], [((4, 0), .arr 1 v' false ((l ++ rest.flatten).map B))]⟩ := by
  intro rest
  induction rest with
  | nil =>
    intro pre v s l hi hl hs
    apply ev_loop
    simp [hs]
  | cons p rest ih =>
    intro pre v s l hi hl hs
    apply ev_loop
    rw [List.flatten_cons, List.length_append] at hl
    rw [List.length_cons] at hi
    have hx : Ix pre.length := by unfold Ix; omega
    have h1 : (l.length + p.length) * 2 ≤ 1099511627776 := by omega
    by_cases hpz : p = []
    · have h2 : l.length * 2 ≤ 1099511627776 := by omega
      simp [hs, hpz, hx, h2]
      refine Ev.mono (ih (pre ++ [p]) v _ l (by simp; omega) (by omega) (by simp [hpz])) ?_
      rintro r ⟨e, v', e2⟩
      exact ⟨e, v', by simpa using e2⟩
    · simp [hs, hpz, hx, h1]
      refine Ev.mono (ih (pre ++ [p]) (v + 1) _ (l ++ p) (by simp; omega) (by rw [List.length_append]; omega) (by simp)) ?_
      rintro r ⟨e, v', e2⟩
      exact ⟨e, v', by simpa [Nat.add_assoc] using e2⟩

theorem join_run (ps : List (List UInt8)) (h1 : ps.length < 1000000) (h2 : ps.flatten.length < 400000000000) : KJ 58 [.dat (.sl (ps.map Bs))] [] = some (.dat (.sl (ps.flatten.map B)), []) := by
  refine callT_ev (fn := fn58) rfl rfl ?_
  simp [runFun_eq]
  simp only [ev_bnd_iff]
  refine Ev.mono (join_loop ps [] 0 _ [] (by simpa using h1) (by rw [List.length_nil]; omega) (by simp)) ?_
  rintro ⟨_, s⟩ ⟨rfl, v', hs⟩
  simp [-List.length_flatten, -List.map_flatten] at hs
  simp only [← List.map_flatten] at *
  simp [hs, -List.length_flatten, -List.map_flatten]

theorem crc_inner (x y z : AVal) : ∀ (k i : Nat) (s : St) (r : Nat), i + k = 8 → r < 4294967296 →
    hd [3, 7, 8, 9, 17] [] s = some ⟨[(3, .dat (.int .u32 r)), (7, x), (8, y), (9, z), (17, .dat (.int .i64 i))], []⟩ →
    Ev (loopLim (exec KJ l57_0) s) fun q => q.1 = .exit 2 ∧ hd [3, 7, 8, 9] [] q.2 = some ⟨[(3, .dat (.int .u32 (crcBits k r))), (7, x), (8, y), (9, z)], []⟩ := by
  intro k
  induction k with
  | zero =>
    intro i s r hi hr hs
    apply ev_loop
    have : i = 8 := by omega
    subst this
    simp [hs, crcBits]
  | succ k ih =>
    intro i s r hi hr hs
    apply ev_loop
    have h1 : (i : Int) < 8 := by omega
    have h2 : (i : Int) + 1 < 1000000000000000 := by omega
    have h3 : -1000000000000000 < (i : Int) + 1 := by omega
    have hx : Ix i := by unfold Ix; omega
    have e1 : intE .and .u32 (r : Int) 1 = some (.dat (.int .u32 ((r % 2 : Nat) : Int))) := by
      have := bv_and hr (b := 1) (by omega)
      rw [Nat.and_one_is_mod] at this
      simp only [intE, bits_u32, wrap_u32]
      rw [← this]; rfl
    have e2 : intE .xor .u32 ((r : Int) / 2) 3988292384 = some (.dat (.int .u32 ((r / 2 ^^^ 3988292384 : Nat) : Int))) := by
      have := bv_xor (a := r / 2) (b := 3988292384) (by omega) (by omega)
      simp only [intE, bits_u32, wrap_u32]
      rw [← this, show ((r : Int) / 2) = ((r / 2 : Nat) : Int) from by omega]; rfl
    by_cases hb : r % 2 = 1
    · have h4 : (r : Int) % 2 = 1 := by omega
      have hc : crcBit r = r / 2 ^^^ 3988292384 := by simp [crcBit, hb]
      simp [hs, h1, hx, ↓e1, ↓e2, h4]
      refine Ev.mono (ih (i + 1) _ (crcBit r) (by omega) (crcBit_lt hr) (by simp [hc])) ?_
      exact fun _ h => h
    · have h4 : ¬ (r : Int) % 2 = 1 := by omega
      have hc : crcBit r = r / 2 := by simp [crcBit, hb]
      simp [hs, h1, hx, ↓e1, ↓e2, h4]
      refine Ev.mono (ih (i + 1) _ (crcBit r) (by omega) (crcBit_lt hr) (by simp [hc])) ?_
      exact fun _ h => h
end Go.Am

/- Walks: checksums, seals. -/
set_option linter.unusedVariables false
set_option linter.unusedSimpArgs false
set_option maxRecDepth 10000
namespace Go.Am
open Go.Proofs

theorem crc_loop : ∀ (rest pre : List UInt8) (s : St) (r : Nat), pre.length + rest.length < 1000000000000 → r < 4294967296 →
    hd [3, 7, 8, 9] [] s = some ⟨[(3, .dat (.int .u32 r)), (7, .dat (.sl ((pre ++ rest).map B))), (8, .dat (.int .i64 (pre ++ rest).length)), (9, .dat (.int .i64 pre.length))], []⟩ →
    Ev (loopLim (exec KJ l57_1) s) fun q => q.1 = .exit 0 ∧ hd [3] [] q.2 = some ⟨[(3, .dat (.int .u32 (crcL rest r)))], []⟩ := by
  intro rest
  induction rest with
  | nil =>
    intro pre s r hi hr hs
    apply ev_loop
    simp [hs, crcL]
  | cons b rest ih =>
    intro pre s r hi hr hs
    apply ev_loop
    rw [List.length_cons] at hi
    have hx : Ix pre.length := by unfold Ix; omega
    have hb := byte_lt b
    have e1 : intE .xor .u32 (r : Int) (b.toNat : Int) = some (.dat (.int .u32 ((r ^^^ b.toNat : Nat) : Int))) := by
      have := bv_xor hr (b := b.toNat) (by omega)
      simp only [intE, bits_u32, wrap_u32]
      rw [← this]; rfl
    have e2 : (b.toNat : Int) % 4294967296 = b.toNat := by omega
    simp [hs, hx, ↓e1, e2]
    simp only [ev_bnd_iff]
    have hr2 : r ^^^ b.toNat < 4294967296 := Nat.xor_lt_two_pow (n := 32) hr (by omega)
    refine Ev.mono (crc_inner _ _ _ 8 0 _ (r ^^^ b.toNat) (by omega) hr2 (by simp; exact ⟨rfl, rfl, rfl⟩)) ?_
    rintro ⟨_, s⟩ ⟨rfl, hs⟩
    simp [hs, hx]
    refine Ev.mono (ih (pre ++ [b]) _ _ (by simp; omega) (crcBits_lt 8 hr2) (by simp)) ?_
    exact fun _ h => h

theorem crc_run (l : List UInt8) (h : l.length < 1000000000000) : KJ 57 [.dat (.sl (l.map B))] [] = some (.dat (.int .u32 (crcB l)), []) := by
  refine callT_ev (fn := fn57) rfl rfl ?_
  simp [runFun_eq]
  simp only [ev_bnd_iff]
  refine Ev.mono (crc_loop l [] _ 4294967295 (by simpa using h) (by omega) (by simp)) ?_
  rintro ⟨_, s⟩ ⟨rfl, hs⟩
  have hl := crcL_lt l (r := 4294967295) (by omega)
  have e1 : unE .xor (.dat (.int .u32 (crcL l 4294967295 : Nat))) = some (.dat (.int .u32 (crcB l))) := by
    have := bv_xor (a := 4294967295) (b := crcL l 4294967295) (by omega) hl
    simp only [unE, bits_u32, wrap_u32, crcB]
    rw [Nat.xor_comm (crcL l 4294967295), ← this]; rfl
  simp [hs, ↓e1]

theorem uintB_le : ∀ n, (uintB n).length ≤ n + 1 := by
  intro n
  induction n using Nat.strongRecOn with
  | _ n ih =>
    rw [uintB]
    split
    · have := ih (n / 128) (by omega)
      simp only [List.length_cons]
      omega
    · simp

theorem seal_run (p : List UInt8) (h : p.length < 10000000) : KJ 49 [.dat (.sl (p.map B))] [] = some (.dat (.sl ((sealB p).map B)), []) := by
  refine callT_ev (fn := fn49) rfl rfl ?_
  have hu := uintB_le p.length
  have h1 := uintBytes_run p.length (by omega)
  have h2 := join_run [uintB p.length, p] (by simp) (by simp; omega)
  have h3 := crc_run (uintB p.length ++ p) (by simp; omega)
  have h4 := sumBytes_run (crcB (uintB p.length ++ p)) (crcB_lt _)
  have h5 := join_run [uintB p.length ++ p, sumB (crcB (uintB p.length ++ p))] (by simp) (by simp [sumB]; omega)
  simp at h1 h2 h3 h4 h5
  simp [runFun_eq, h1, h2, h3, h4, h5, sealB]
end Go.Am

/- Walks: numbers and frames, decoded. -/
set_option linter.unusedVariables false
set_option linter.unusedSimpArgs false
set_option maxRecDepth 10000
namespace Go.Am
open Go.Proofs

def lead : Nat → List UInt8 → Nat
  | 0, _ => 0
  | _ + 1, [] => 0
  | n + 1, b :: r => if 128 ≤ b.toNat then lead n r + 1 else 0

def low : Nat → List UInt8 → Nat
  | 0, _ => 0
  | _ + 1, [] => 0
  | n + 1, b :: r => b.toNat % 128 + 128 * low n r

def decB (l : List UInt8) : Nat × Nat × Nat :=
  if lead 9 l = 9 then (0, 0, 2) else
  if lead 9 l = l.length then (0, 0, 22) else
  if 0 < lead 9 l ∧ l.getD (lead 9 l) 0 = 0 then (0, 0, 3) else
  if 4611686018427387904 < low (lead 9 l + 1) l then (0, 0, 2) else (low (lead 9 l + 1) l, lead 9 l + 1, 0)

theorem low_lt : ∀ (n : Nat) (l : List UInt8), low n l < 128 ^ n
  | 0, l => by simp [low]
  | n + 1, [] => by simp only [low]; exact Nat.pow_pos (by omega)
  | n + 1, b :: r => by
    have := low_lt n r
    simp only [low, Nat.pow_succ]
    omega

theorem low_succ : ∀ (n : Nat) (l : List UInt8) (b : UInt8), l[n]? = some b → low (n + 1) l = low n l + 128 ^ n * (b.toNat % 128)
  | 0, [], b, h => by simp at h
  | 0, c :: r, b, h => by simp at h; subst h; simp [low]
  | n + 1, [], b, h => by simp at h
  | n + 1, c :: r, b, h => by
    simp at h
    rw [low, low_succ n r b h]
    simp only [low, Nat.pow_succ]
    rw [Nat.mul_add, ← Nat.mul_assoc, Nat.mul_comm 128 (128 ^ n)]
    omega

/-- so many bytes lead, and the next one does not -/
theorem lead_eq : ∀ (m a : Nat) (l : List UInt8), a ≤ m → (∀ i, i < a → ∃ b, l[i]? = some b ∧ 128 ≤ b.toNat) → (a = m ∨ a = l.length ∨ ∃ b, l[a]? = some b ∧ b.toNat < 128) → lead m l = a
  | 0, a, l, h, _, _ => by simp [lead]; omega
  | m + 1, a, [], h, h1, h2 => by
    simp only [lead]
    cases a with
    | zero => rfl
    | succ a => obtain ⟨b, hb, _⟩ := h1 0 (by omega); simp at hb
  | m + 1, 0, b :: r, h, h1, h2 => by
    simp only [lead]
    rcases h2 with h2 | h2 | ⟨c, hc, hlt⟩
    · omega
    · simp at h2
    · simp at hc; subst hc; rw [if_neg (by omega)]
  | m + 1, a + 1, b :: r, h, h1, h2 => by
    simp only [lead]
    obtain ⟨c, hc, hge⟩ := h1 0 (by omega)
    simp at hc; subst hc
    rw [if_pos hge, lead_eq m a r (by omega) (fun i hi => by have := h1 (i + 1) (by omega); simpa using this) (by simpa using h2)]

theorem shl_u64 (x i : Nat) (hx : x < 128) (hi : i ≤ 8) : shiftE .shl .u64 (x : Int) (7 * (i : Int)) = some (.dat (.int .u64 ((2 ^ (7 * i) * x : Nat) : Int))) := by
  have h1 : ¬ (7 * (i : Int)) < 0 := by omega
  have h2 : (7 * (i : Int)).toNat = 7 * i := by omega
  have h3 : min (7 * i) 64 = 7 * i := by omega
  simp only [shiftE, h1, if_false, h2, bits_u64, h3, wrap_u64]
  have h4 : 2 ^ (7 * i) ≤ 2 ^ 56 := Nat.pow_le_pow_right (by omega) (by omega)
  have h5 : 2 ^ (7 * i) * x ≤ 2 ^ 56 * 127 := Nat.mul_le_mul h4 (by omega)
  have h6 : ((x : Int) * 2 ^ (7 * i)) = ((2 ^ (7 * i) * x : Nat) : Int) := by push_cast; rw [Int.mul_comm]
  rw [h6, Int.emod_eq_of_lt (by omega) (by omega)]

theorem or_u64 (v x i : Nat) (hv : v < 128 ^ i) (hx : x < 128) (hi : i ≤ 8) : intE .or .u64 (v : Int) ((2 ^ (7 * i) * x : Nat) : Int) = some (.dat (.int .u64 ((v + 128 ^ i * x : Nat) : Int))) := by
  have e : 128 ^ i = 2 ^ (7 * i) := by rw [Nat.pow_mul]
  have h4 : 2 ^ (7 * i) ≤ 2 ^ 56 := Nat.pow_le_pow_right (by omega) (by omega)
  have h5 : 2 ^ (7 * i) * x ≤ 2 ^ 56 * 127 := Nat.mul_le_mul h4 (by omega)
  rw [(intE_bits (k := .u64) rfl (by rw [bits_u64]; omega) (by rw [bits_u64]; omega)).2.1]
  rw [Nat.or_comm, e, ← Nat.two_pow_add_eq_or_of_lt (by omega), Nat.add_comm]

theorem dec_loop (l : List UInt8) (hl : l.length < 1000000000000) : ∀ (k i : Nat) (s : St), i + k = 9 → i ≤ l.length → (∀ j, j < i → ∃ b, l[j]? = some b ∧ 128 ≤ b.toNat) →
    hd [0, 5, 6] [] s = some ⟨[(0, .dat (.sl (l.map B))), (5, .dat (.int .u64 (low i l))), (6, .dat (.int .i64 i))], []⟩ →
    Ev (loopLim (exec KJ l55_0) s) fun q =>
      (q.1 = .ret ∧ lead 9 l = 9 ∧ hd [2, 3, 4] [] q.2 = some ⟨[(2, .dat (.int .i64 0)), (3, .dat (.int .i64 0)), (4, .dat (.int .i64 2))], []⟩) ∨
      (q.1 = .ret ∧ lead 9 l ≠ 9 ∧ lead 9 l = l.length ∧ hd [2, 3, 4] [] q.2 = some ⟨[(2, .dat (.int .i64 0)), (3, .dat (.int .i64 0)), (4, .dat (.int .i64 22))], []⟩) ∨
      (q.1 = .exit 0 ∧ ∃ a b, a < 9 ∧ lead 9 l = a ∧ l[a]? = some b ∧ b.toNat < 128 ∧ hd [0, 5, 6] [] q.2 = some ⟨[(0, .dat (.sl (l.map B))), (5, .dat (.int .u64 (low a l))), (6, .dat (.int .i64 a))], []⟩) := by
  intro k
  induction k with
  | zero =>
    intro i s hi hil hb hs
    apply ev_loop
    have : i = 9 := by omega
    subst this
    have := lead_eq 9 9 l (by omega) hb (.inl rfl)
    simp [hs, this]
  | succ k ih =>
    intro i s hi hil hb hs
    apply ev_loop
    have h9 : ¬ (i : Int) = 9 := by omega
    have h9' : ¬ i = 9 := by omega
    by_cases hlen : i = l.length
    · have := lead_eq 9 i l (by omega) hb (.inr (.inl hlen))
      simp [hs, h9, h9', ← hlen, this]
    · obtain ⟨b, hb2⟩ := get_at l (i := i) (by omega)
      have hbl := byte_lt b
      by_cases hlt : b.toNat < 128
      · have := lead_eq 9 i l (by omega) hb (.inr (.inr ⟨b, hb2, hlt⟩))
        have h1 : (b.toNat : Int) < 128 := by omega
        simp [hs, h9, h9', hlen, hb2, h1, this]
        exact ⟨i, by omega, rfl, b, hb2, hlt, rfl, rfl⟩
      · have h1 : ¬ (b.toNat : Int) < 128 := by omega
        have h2 : ((b.toNat : Int) - 128) % 256 = ((b.toNat - 128 : Nat) : Int) := by omega
        have h3 : ((b.toNat - 128 : Nat) : Int) % 18446744073709551616 = ((b.toNat - 128 : Nat) : Int) := by omega
        have h4 : 7 * (i : Int) < 1000000000000000 := by omega
        have h5 : -1000000000000000 < 7 * (i : Int) := by omega
        have h6 := shl_u64 (b.toNat - 128) i (by omega) (by omega)
        have h7 := or_u64 (low i l) (b.toNat - 128) i (low_lt i l) (by omega) (by omega)
        have hx : Ix i := by unfold Ix; omega
        simp at h7
        simp [hs, h9, h9', hlen, hb2, h1, h2, h3, h4, h5, ↓h6, h7, hx]
        refine Ev.mono (ih (i + 1) _ (by omega) (by omega) (fun j hj => ?_) ?_) (fun q h => by simpa using h)
        · by_cases hji : j = i
          · exact ⟨b, by rw [hji]; exact hb2, by omega⟩
          · exact hb j (by omega)
        · rw [low_succ i l b hb2, show b.toNat % 128 = b.toNat - 128 from by omega]
          simp

theorem dec_run (l : List UInt8) (hl : l.length < 1000000000000) : KJ 55 [.dat (.sl (l.map B))] [] = some (.tup [.dat (.int .i64 (decB l).1), .dat (.int .i64 (decB l).2.1), .dat (.int .i64 (decB l).2.2)], []) := by
  refine callT_ev (fn := fn55) rfl rfl ?_
  simp [runFun_eq]
  simp only [ev_bnd_iff]
  refine Ev.mono (dec_loop l hl 9 0 _ (by omega) (by omega) (by omega) (by simp [low])) ?_
  rintro ⟨x, s⟩ (⟨rfl, h9, hs⟩ | ⟨rfl, h9, h10, hs⟩ | ⟨rfl, a, b, ha, h9, hb, hlt, hs⟩)
  · dsimp only at hs
    simp only [blkK, endK_hd hs, seqK]
    simp [decB, h9, endK_hd hs]
  · dsimp only at hs
    simp only [blkK, endK_hd hs, seqK]
    simp [decB, ← h10, h9, endK_hd hs]
  · have hle : a < l.length := by
      by_cases h : a < l.length
      · exact h
      · rw [List.getElem?_eq_none (by omega)] at hb; cases hb
    have hd0 : l.getD a 0 = b := by rw [List.getD_eq_getElem?_getD, hb]; rfl
    have hbz : (b = 0) ↔ ((b.toNat : Int) = 0) := by
      constructor
      · rintro rfl; rfl
      · intro h; exact UInt8.toNat_inj.1 (by have : (0 : UInt8).toNat = 0 := rfl; omega)
    dsimp only at hs
    have hn9 : ¬ a = 9 := by omega
    have hnl : ¬ a = l.length := by omega
    have hlow := low_succ a l b hb
    have hm : b.toNat % 128 = b.toNat := by omega
    have h2 := shl_u64 b.toNat a hlt (by omega)
    have h3 := or_u64 (low a l) b.toNat a (low_lt a l) hlt (by omega)
    have h4 : 7 * (a : Int) < 1000000000000000 := by omega
    have h5 : -1000000000000000 < 7 * (a : Int) := by omega
    have h6 : (b.toNat : Int) % 18446744073709551616 = b.toNat := by omega
    have hx : Ix a := by unfold Ix; omega
    have hv := low_lt (a + 1) l
    have hp : 128 ^ (a + 1) ≤ 128 ^ 9 := Nat.pow_le_pow_right (by omega) (by omega)
    simp at h3
    rw [hm] at hlow
    have hdec : decB l = if 0 < a ∧ b = 0 then (0, 0, 3) else if 4611686018427387904 < low (a + 1) l then (0, 0, 2) else (low (a + 1) l, a + 1, 0) := by
      simp only [decB, h9, hn9, hnl, hd0, if_false]
    by_cases hf : 0 < a ∧ (b.toNat : Int) = 0
    · rw [if_pos ⟨hf.1, hbz.2 hf.2⟩] at hdec
      rw [hdec]
      simp [hs, hb, hf.1, hf.2]
    · rw [if_neg (fun h => hf ⟨h.1, hbz.1 h.2⟩), hlow] at hdec
      have hpick : b.toNat = 0 → a = 0 := by
        intro h
        by_cases ha0 : a = 0
        · exact ha0
        · exact absurd ⟨by omega, by omega⟩ hf
      by_cases hz : b.toNat = 0
      · have ha0 := hpick hz
        subst ha0
        have hb0 : b = 0 := hbz.2 (by omega)
        rw [hz] at hdec h3
        simp [low] at hdec
        rw [hdec]
        subst hb0
        simp [hs, hb, low, show intE .or .u64 0 0 = some (.dat (.int .u64 0)) from rfl]
      · have hz' : ¬ (b.toNat : Int) = 0 := by omega
        have hX : ((128 ^ a * b.toNat : Nat) : Int) = 128 ^ a * (b.toNat : Int) := by simp
        rw [← hX] at h3
        generalize 128 ^ a * b.toNat = X at *
        by_cases hbig : 4611686018427387904 < low a l + X
        · rw [if_pos hbig] at hdec
          have hbig' : (4611686018427387904 : Int) < (low a l : Int) + X := by omega
          rw [hdec]
          simp [hs, hb, hz, hz', h4, h5, h6, ↓h2, h3, hbig']
        · rw [if_neg hbig] at hdec
          have hbig' : ¬ (4611686018427387904 : Int) < (low a l : Int) + X := by omega
          have hw : IntKind.wrap .i64 ((low a l : Int) + X) = (low a l : Int) + X := wrap_i64_all (by omega) (by omega)
          rw [hdec]
          simp [hs, hb, hz, hz', h4, h5, h6, ↓h2, h3, hbig', hw, hx]
end Go.Am

/- Walks: frames, opened. -/
set_option linter.unusedVariables false
set_option linter.unusedSimpArgs false
set_option maxRecDepth 10000
namespace Go.Am
open Go.Proofs

theorem lead_le : ∀ (m : Nat) (l : List UInt8), lead m l ≤ m ∧ lead m l ≤ l.length
  | 0, l => by simp [lead]
  | m + 1, [] => by simp [lead]
  | m + 1, b :: r => by
    have := lead_le m r
    simp only [lead]
    split
    · simp; omega
    · simp

theorem decB_size {l : List UInt8} (h : (decB l).2.2 = 0) : 1 ≤ (decB l).2.1 ∧ (decB l).2.1 ≤ l.length ∧ (decB l).2.1 ≤ 9 ∧ (decB l).1 ≤ 4611686018427387904 := by
  have := lead_le 9 l
  unfold decB at h ⊢
  split at h
  · simp at h
  · split at h
    · simp at h
    · split at h
      · simp at h
      · split at h
        · simp at h
        · rename_i h1 h2 h3 h4
          simp only [h1, h2, h3, h4, if_false]
          omega

def fopB (l : List UInt8) : List UInt8 × List UInt8 × Nat :=
  if (decB l).2.2 ≠ 0 then ([], [], (decB l).2.2) else
  if l.length < (decB l).2.1 + (decB l).1 + 4 then ([], [], 22) else
  if sumB (crcB (l.take ((decB l).2.1 + (decB l).1))) = (l.drop ((decB l).2.1 + (decB l).1)).take 4 then
    ((l.drop (decB l).2.1).take (decB l).1, l.drop ((decB l).2.1 + (decB l).1 + 4), 0)
  else ([], [], 21)

theorem sum_loop (l : List UInt8) (e size : Nat) (hl : l.length < 1000000000000) : ∀ (rest pre : List UInt8) (s : St), (pre ++ rest).length = 4 → e + 4 ≤ l.length → pre = (l.drop e).take pre.length →
    hd [0, 6, 8, 41, 42, 43] [0, 41] s = some ⟨[(0, .dat (.sl (l.map B))), (6, .dat (.int .i64 size)), (8, .dat (.int .i64 e)), (41, .dat (.sl ((pre ++ rest).map B))), (42, .dat (.int .i64 4)), (43, .dat (.int .i64 pre.length))], []⟩ →
    Ev (loopLim (exec KJ l47_0) s) fun q =>
      (q.1 = .ret ∧ pre ++ rest ≠ (l.drop e).take 4 ∧ hd [2, 3, 4] [] q.2 = some ⟨[(2, .nils), (3, .nils), (4, .dat (.int .i64 21))], []⟩) ∨
      (q.1 = .exit 0 ∧ pre ++ rest = (l.drop e).take 4 ∧ hd [0, 6, 8] [] q.2 = some ⟨[(0, .dat (.sl (l.map B))), (6, .dat (.int .i64 size)), (8, .dat (.int .i64 e))], []⟩) := by
  intro rest
  induction rest with
  | nil =>
    intro pre s h4 he hp hs
    apply ev_loop
    have h5 : pre.length = 4 := by simpa using h4
    rw [h5] at hp
    simp [hs, h5, ← hp]
  | cons b rest ih =>
    intro pre s h4 he hp hs
    apply ev_loop
    have h5 : pre.length + (rest.length + 1) = 4 := by simpa using h4
    have hx : Ix pre.length := by unfold Ix; omega
    have hlt : (pre.length : Int) < 4 := by omega
    obtain ⟨c, hc⟩ := get_at l (i := e + pre.length) (by omega)
    have h1 : (e : Int) + pre.length < 1000000000000000 := by omega
    have h2 : -1000000000000000 < (e : Int) + pre.length := by omega
    have h3 : (0 : Int) ≤ (e : Int) + pre.length := by omega
    have h6 : ((e : Int) + pre.length).toNat = e + pre.length := by omega
    have hp2 : (l.drop e).take (pre.length + 1) = pre ++ [c] := by
      rw [List.take_add_one, ← hp, List.getElem?_drop, hc]; rfl
    by_cases hbc : c = b
    · subst hbc
      simp [hs, hx, hlt, hc, h1, h2, h3, h6]
      refine Ev.mono (ih (pre ++ [c]) _ (by simpa using h4) he (by simp [hp2]) (by simp)) (fun q h => by simpa using h)
    · have hne : ¬ c.toNat = b.toNat := fun h => hbc (UInt8.toNat_inj.1 h)
      simp [hs, hx, hlt, hc, h1, h2, h3, h6, hne]
      intro h
      have h7 : (pre ++ b :: rest)[pre.length]? = ((l.drop e).take 4)[pre.length]? := by rw [h]
      rw [get_mid, List.getElem?_take, if_pos (by omega), List.getElem?_drop, hc] at h7
      exact hbc (Option.some.inj h7).symm

theorem fopen_run (l : List UInt8) (hl : l.length < 100000000000) : KJ 47 [.dat (.sl (l.map B))] [] = some (.tup [.dat (Bs (fopB l).1), .dat (Bs (fopB l).2.1), .dat (.int .i64 (fopB l).2.2)], []) := by
  refine callT_ev (fn := fn47) rfl rfl ?_
  have h1 := dec_run l (by omega)
  by_cases he : (decB l).2.2 = 0
  · obtain ⟨b1, b2, b3, b4⟩ := decB_size he
    generalize hN : (decB l).1 = N at *
    generalize hS : (decB l).2.1 = S at *
    have a1 : (l.length : Int) - S < 1000000000000000 := by omega
    have a2 : -1000000000000000 < (l.length : Int) - S := by omega
    by_cases hsh : l.length < S + N + 4
    · have hf : fopB l = ([], [], 22) := by simp [fopB, he, hN, hS, hsh]
      rw [hf]
      by_cases h4 : (l.length : Int) - S < 4
      · simp [runFun_eq, h1, he, a1, a2, h4]
      · have a3 : (l.length : Int) - S - 4 < 1000000000000000 := by omega
        have a4 : -1000000000000000 < (l.length : Int) - S - 4 := by omega
        have a5 : (l.length : Int) - S - 4 < N := by omega
        simp [runFun_eq, h1, he, a1, a2, h4, a3, a4, a5]
    · have h4 : ¬ (l.length : Int) - S < 4 := by omega
      have a3 : (l.length : Int) - S - 4 < 1000000000000000 := by omega
      have a4 : -1000000000000000 < (l.length : Int) - S - 4 := by omega
      have a5 : ¬ (l.length : Int) - S - 4 < N := by omega
      have a6 : (S : Int) + N < 1000000000000000 := by omega
      have a7 : -1000000000000000 < (S : Int) + N := by omega
      have a8 : (0 : Int) ≤ (S : Int) + N := by omega
      have a9 : (S : Int) + N ≤ l.length := by omega
      have a10 : ((S : Int) + N).toNat = S + N := by omega
      have c1 := crc_run (l.take (S + N)) (by simp; omega)
      have c2 := sumBytes_run (crcB (l.take (S + N))) (crcB_lt _)
      have c3 : ((sumB (crcB (l.take (S + N)))).length : Int) = 4 := rfl
      simp at c1 c2
      simp [runFun_eq, h1, he, a1, a2, h4, a3, a4, a5, a6, a7, a8, a9, a10, c1, c2]
      simp only [ev_bnd_iff]
      refine Ev.mono (sum_loop l (S + N) S (by omega) (sumB (crcB (l.take (S + N)))) [] _ rfl (by omega) (by simp) (by simp; rfl)) ?_
      rintro ⟨x, s⟩ (⟨rfl, e1, hs⟩ | ⟨rfl, e1, hs⟩)
      · dsimp only at hs
        have hf : fopB l = ([], [], 21) := by
          simp only [List.nil_append] at e1
          simp [fopB, he, hN, hS, hsh, e1]
        rw [hf]
        simp only [blkK, Ev_some, seqK, endK_hd hs]
        simp
      · dsimp only at hs
        have hf : fopB l = ((l.drop S).take N, l.drop (S + N + 4), 0) := by
          simp only [List.nil_append] at e1
          simp [fopB, he, hN, hS, hsh, e1]
        rw [hf]
        have d1 := join_run [(l.drop S).take N] (by simp) (by simp; omega)
        have d2 := join_run [l.drop (S + N + 4)] (by simp) (by simp; omega)
        have d3 : (S : Int) + N + 4 < 1000000000000000 := by omega
        have d4 : -1000000000000000 < (S : Int) + N + 4 := by omega
        have d5 : (0 : Int) ≤ (S : Int) + N + 4 := by omega
        have d6 : (S : Int) + N + 4 ≤ l.length := by omega
        have d7 : ((S : Int) + N + 4).toNat = S + N + 4 := by omega
        have d8 : (S : Int) ≤ S + N := by omega
        have d9 : ((S : Int) + N - S).toNat = N := by omega
        have d10 : ((l.length : Int) - (S + N + 4)).toNat = l.length - (S + N + 4) := by omega
        simp at d1 d2
        simp [hs, a8, a9, d1, d2, d3, d4, d5, d6, d7, d8, d9, d10]
  · have hf : fopB l = ([], [], (decB l).2.2) := by simp [fopB, he]
    rw [hf]
    have he' : ¬ ((decB l).2.2 : Int) = 0 := by omega
    simp [runFun_eq, h1, he]
end Go.Am

/- Walks: the image of a record. -/
set_option linter.unusedVariables false
set_option linter.unusedSimpArgs false
set_option maxRecDepth 10000
namespace Go.Am
open Go.Proofs

def le2 (x : Nat) : List UInt8 := [UInt8.ofNat x, UInt8.ofNat (x / 256)]
def chunk (data : List UInt8) (j : Nat) : List UInt8 := (data.drop (52 * j)).take 52
def secB (e n j k : Nat) (data : List UInt8) : List UInt8 := sumB e ++ sumB n ++ le2 j ++ le2 k ++ chunk data j ++ List.replicate (52 - (chunk data j).length) 0
def cntB (data : List UInt8) : Nat := (data.length + 51) / 52
def imageB (p : List UInt8) (n e : Nat) : List (List UInt8) := (List.range (cntB (sealB p))).map fun j => secB e n j (cntB (sealB p)) (sealB p)

def imgPost (k : Nat) (all : List (List UInt8)) (q : AEx × St) : Prop := q.1 = .exit 0 ∧ ∃ v', hd [9] [] q.2 = some ⟨[(9, .rsl (10, 0) v' 1 0 k)], [((10, 0), .arr 1 v' false (all.map Bs))]⟩

theorem image_loop (data : List UInt8) (n e : Nat) (hn : n < 4294967296) (he : e < 4294967296) (hd0 : data.length < 10000000) : ∀ (m j v : Nat) (s : St) (out : List (List UInt8)), j + m = cntB data → out.length = j →
    hd [1, 2, 7, 8, 9, 22, 23] [7, 9] s = some ⟨[(1, .dat (.int .u32 n)), (2, .dat (.int .u32 e)), (7, .dat (.sl (data.map B))), (8, .dat (.int .i64 (cntB data))), (9, .rsl (10, 0) v 1 0 out.length), (22, .dat (.int .i64 (cntB data))), (23, .dat (.int .i64 j))], [((10, 0), .arr 1 v false (out.map Bs))]⟩ →
    Ev (loopLim (exec KJ l40_1) s) (imgPost (cntB data) (out ++ (List.range m).map fun i => secB e n (j + i) (cntB data) data)) := by
  intro m
  induction m with
  | zero =>
    intro j v s out hj ho hs
    apply ev_loop
    have hj' : j = cntB data := by omega
    subst hj'
    simp [hs, ho, imgPost]
  | succ m ih =>
    intro j v s out hj ho hs
    apply ev_loop
    have hc : cntB data < 1000000 := by unfold cntB; omega
    have hlt : (j : Int) < cntB data := by omega
    have hlt' : j < cntB data := by omega
    have hx : Ix j := by unfold Ix; omega
    have hlast : (out ++ (List.range (m + 1)).map fun i => secB e n (j + i) (cntB data) data) = (out ++ [secB e n j (cntB data) data]) ++ (List.range m).map fun i => secB e n (j + 1 + i) (cntB data) data := by
      rw [List.range_succ_eq_map]
      simp [Nat.add_assoc, Nat.add_comm 1, Function.comp_def]
    rw [hlast]
    generalize hQ : imgPost (cntB data) ((out ++ [secB e n j (cntB data) data]) ++ (List.range m).map fun i => secB e n (j + 1 + i) (cntB data) data) = Q
    have hrep : List.replicate 64 (Dat.int .u8 0) = Dat.int .u8 0 :: Dat.int .u8 0 :: Dat.int .u8 0 :: Dat.int .u8 0 :: Dat.int .u8 0 :: Dat.int .u8 0 :: Dat.int .u8 0 :: Dat.int .u8 0 :: Dat.int .u8 0 :: Dat.int .u8 0 :: Dat.int .u8 0 :: Dat.int .u8 0 :: List.replicate 52 (Dat.int .u8 0) := rfl
    have hw1 : 52 * (j : Int) < 1000000000000000 := by omega
    have hw2 : -1000000000000000 < 52 * (j : Int) := by omega
    have hw3 : 52 * j < data.length := by unfold cntB at hlt'; omega
    have hw4 : 52 * (j : Int) ≤ data.length := by omega
    have hw5 : (52 * (j : Int)).toNat = 52 * j := by omega
    have hw6 : ((data.length : Int) - 52 * j).toNat = data.length - 52 * j := by omega
    simp [hs, hlt, hlt', hx, hrep, -List.reduceReplicate]
    simp only [ev_bnd_iff]
    apply ev_loop
    simp [-List.reduceReplicate]
    apply ev_loop
    simp [-List.reduceReplicate]
    apply ev_loop
    have hw7 : (0 : Int) ≤ 52 * (j : Int) := by omega
    have hcl : (chunk data j).length = min 52 (data.length - 52 * j) := by simp [chunk]
    have hc52 : min 52 (data.length - 52 * j) ≤ 52 := by omega
    have hcm : min (data.length - 52 * j) 52 = min 52 (data.length - 52 * j) := Nat.min_comm _ _
    have hch : List.take 52 (List.drop (52 * j) data) = chunk data j := rfl
    generalize hC : min 52 (data.length - 52 * j) = c at *
    have hk1 : (12 : Int) + c < 1000000000000000 := by omega
    have hk2 : -1000000000000000 < (12 : Int) + c := by omega
    have hk3 : (0 : Int) ≤ 12 + c := by omega
    have hk4 : (12 : Int) + c ≤ 64 := by omega
    have hk5 : ((12 : Int) + c).toNat = 12 + c := by omega
    have hk6 : (64 - ((12 : Int) + c)).toNat = 52 - c := by omega
    have hk7 : 12 + c + (52 - c) = 12 + 52 := by omega
    have hk8 : c + (52 - c) = 52 := by omega
    have hr1 : (out.length + 1) * 25 ≤ 1099511627776 := by omega
    simp [-List.reduceReplicate, hw1, hw2, hw4, hw5, hw6, hw7, -List.map_take, -List.map_drop, take_map, drop_map, hC, hcm, hch, hcl, hk1, hk2, hk3, hk4, hk5, hk6, hk7, hk8, drop12, take12, hr1, hx, drop_none]
    rw [← hQ]
    refine ih (j + 1) (v + 1) _ (out ++ [secB e n j (cntB data) data]) (by omega) (by simp [ho]) ?_
    simp [secB, sumB, le2, hcl]

theorem sealB_len (p : List UInt8) : (sealB p).length ≤ 2 * p.length + 5 := by
  have := uintB_le p.length
  simp [sealB, sumB]
  omega

theorem image_run (p : List UInt8) (n e : Nat) (hp : p.length < 1000000) (hn : n < 4294967296) (he : e < 4294967296) :
    KJ 40 [.dat (.sl (p.map B)), .dat (.int .u32 n), .dat (.int .u32 e)] [] = some (.dat (.sl ((imageB p n e).map Bs)), []) := by
  refine callT_ev (fn := fn40) rfl rfl ?_
  have h1 := seal_run p (by omega)
  have h2 := sealB_len p
  have h3 : ((sealB p).length : Int) + 52 < 1000000000000000 := by omega
  have h4 : -1000000000000000 < ((sealB p).length : Int) + 52 := by omega
  have h5 : ((sealB p).length : Int) + 52 - 1 < 1000000000000000 := by omega
  have h6 : -1000000000000000 < ((sealB p).length : Int) + 52 - 1 := by omega
  have h7 : (0 : Int) ≤ ((sealB p).length : Int) + 52 - 1 := by omega
  have h8 : (((sealB p).length : Int) + 52 - 1) / 52 = (cntB (sealB p) : Nat) := by unfold cntB; omega
  have h8' : (((sealB p).length : Int) + 52 - 1).tdiv 52 = (cntB (sealB p) : Nat) := by rw [tdiv_pos h7, h8]
  have h9 : ((cntB (sealB p) : Nat) : Int) < 1000000000000000 := by unfold cntB; omega
  have h10 : -1000000000000000 < ((cntB (sealB p) : Nat) : Int) := by omega
  simp [runFun_eq, h1, h3, h4, h5, h6, h8', h9, h10]
  simp only [ev_bnd_iff]
  refine Ev.mono (image_loop (sealB p) n e hn he (by omega) (cntB (sealB p)) 0 0 _ [] (by omega) rfl (by simp)) ?_
  rintro ⟨_, s⟩ ⟨rfl, v', hs⟩
  simp at hs
  simp [hs, imageB]
end Go.Am

/- Walks of the reference: numbers in bytes, checksums. -/
set_option linter.unusedVariables false
set_option linter.unusedSimpArgs false
set_option maxRecDepth 10000
namespace Go.Am
open Go.Proofs

theorem rparts_run (n : Nat) (h : n < 100000000000) : KJ 44 [.dat (.int .i64 n)] [] = some (.dat (.int .i64 ((n + 51) / 52 : Nat)), []) := by
  have h3 : (n : Int) + 52 < 1000000000000000 := by omega
  have h4 : -1000000000000000 < (n : Int) + 52 := by omega
  have h5 : (n : Int) + 52 - 1 < 1000000000000000 := by omega
  have h6 : -1000000000000000 < (n : Int) + 52 - 1 := by omega
  have h7 : (0 : Int) ≤ (n : Int) + 52 - 1 := by omega
  have h8 : ((n : Int) + 52 - 1) / 52 = ((n + 51) / 52 : Nat) := by omega
  have h8' : ((n : Int) + 52 - 1).tdiv 52 = ((n + 51) / 52 : Nat) := by rw [tdiv_pos h7, h8]
  have h9 : (((n + 51) / 52 : Nat) : Int) < 1000000000000000 := by omega
  have h10 : -1000000000000000 < (((n + 51) / 52 : Nat) : Int) := by omega
  generalize (n + 51) / 52 = q at *
  exact callT_ev (fn := fn44) rfl rfl (by simp [runFun_eq, h3, h4, h5, h6, h8', h9, h10])

theorem rsum_run (c : Nat) (h : c < 4294967296) : KJ 52 [.dat (.int .u32 c)] [] = some (.dat (.sl ((sumB c).map B)), []) := by
  have e1 : (c : Int) / 256 % 4294967296 = ((c / 256 : Nat) : Int) := by omega
  have e2 : (c : Int) / 65536 % 4294967296 = ((c / 65536 : Nat) : Int) := by omega
  have e3 : (c : Int) / 16777216 % 4294967296 = ((c / 16777216 : Nat) : Int) := by omega
  exact callT_ev (fn := fn52) rfl rfl (by simp [runFun_eq, sumB, e1, e2, e3])

theorem rbytes4_run (x : Nat) (h : x < 4294967296) : KJ 54 [.dat (.int .i64 x), .dat (.int .i64 4)] [] = some (.rsl (0, 0) 4 1 0 4, [.arr 1 4 false ((sumB x).map B)]) := by
  have e1 : (x : Int) / 256 = ((x / 256 : Nat) : Int) := by omega
  have e2 : ((x / 256 : Nat) : Int) / 256 = ((x / 65536 : Nat) : Int) := by omega
  have e3 : ((x / 65536 : Nat) : Int) / 256 = ((x / 16777216 : Nat) : Int) := by omega
  have e4 : ((x / 16777216 : Nat) : Int) / 256 = 0 := by omega
  have q0 : (x : Int) < 1000000000000000 := by omega
  have p0 : -1000000000000000 < (x : Int) := by omega
  have q1 : ((x / 256 : Nat) : Int) < 1000000000000000 := by omega
  have p1 : -1000000000000000 < ((x / 256 : Nat) : Int) := by omega
  have q2 : ((x / 65536 : Nat) : Int) < 1000000000000000 := by omega
  have p2 : -1000000000000000 < ((x / 65536 : Nat) : Int) := by omega
  have q3 : ((x / 16777216 : Nat) : Int) < 1000000000000000 := by omega
  have p3 : -1000000000000000 < ((x / 16777216 : Nat) : Int) := by omega
  refine callT_ev (fn := fn54) rfl rfl ?_
  generalize hA : x / 256 = a at *
  generalize hB : x / 65536 = b at *
  generalize hC : x / 16777216 = c at *
  simp [runFun_eq]
  simp only [ev_bnd_iff]
  apply ev_loop
  simp [e1, e2, e3, e4, q0, p0, q1, p1, q2, p2, q3, p3]
  apply ev_loop
  simp [e1, e2, e3, e4, q0, p0, q1, p1, q2, p2, q3, p3]
  apply ev_loop
  simp [e1, e2, e3, e4, q0, p0, q1, p1, q2, p2, q3, p3]
  apply ev_loop
  simp [e1, e2, e3, e4, q0, p0, q1, p1, q2, p2, q3, p3]
  apply ev_loop

  simp [sumB, hA, hB, hC]

theorem rbytes2_run (x : Nat) (h : x < 4294967296) : KJ 54 [.dat (.int .i64 x), .dat (.int .i64 2)] [] = some (.rsl (0, 0) 2 1 0 2, [.arr 1 2 false ((le2 x).map B)]) := by
  have e1 : (x : Int) / 256 = ((x / 256 : Nat) : Int) := by omega
  have e2 : ((x / 256 : Nat) : Int) / 256 = ((x / 65536 : Nat) : Int) := by omega
  have q0 : (x : Int) < 1000000000000000 := by omega
  have p0 : -1000000000000000 < (x : Int) := by omega
  have q1 : ((x / 256 : Nat) : Int) < 1000000000000000 := by omega
  have p1 : -1000000000000000 < ((x / 256 : Nat) : Int) := by omega
  have q2 : ((x / 65536 : Nat) : Int) < 1000000000000000 := by omega
  have p2 : -1000000000000000 < ((x / 65536 : Nat) : Int) := by omega
  refine callT_ev (fn := fn54) rfl rfl ?_
  generalize hA : x / 256 = a at *
  generalize hB : x / 65536 = b at *
  simp [runFun_eq]
  simp only [ev_bnd_iff]
  apply ev_loop
  simp [e1, e2, q0, p0, q1, p1, q2, p2]
  apply ev_loop
  simp [e1, e2, q0, p0, q1, p1, q2, p2]
  apply ev_loop
  simp [le2, hA, hB]

theorem rnumber4_run (l : List UInt8) (h : l.length = 4) : KJ 41 [.dat (.sl (l.map B))] [] = some (.dat (.int .i64 (num4 l)), []) := by
  match l, h with
  | [a, b, c, d], _ =>
    have ha := byte_lt a; have hb := byte_lt b; have hc := byte_lt c; have hd := byte_lt d
    have e1 : (256 * (d.toNat : Int) + c.toNat) = ((c.toNat + 256 * d.toNat : Nat) : Int) := by omega
    have e2 : 256 * ((c.toNat + 256 * d.toNat : Nat) : Int) + b.toNat = ((b.toNat + 256 * (c.toNat + 256 * d.toNat) : Nat) : Int) := by omega
    have e3 : 256 * ((b.toNat + 256 * (c.toNat + 256 * d.toNat) : Nat) : Int) + a.toNat = ((a.toNat + 256 * (b.toNat + 256 * (c.toNat + 256 * d.toNat)) : Nat) : Int) := by omega
    have e4 : a.toNat + 256 * (b.toNat + 256 * (c.toNat + 256 * d.toNat)) = num4 [a, b, c, d] := by simp [num4]; omega
    have h0 : (d.toNat : Int) < 1000000000000000 := by omega
    have h0' : -1000000000000000 < (d.toNat : Int) := by omega
    have h1 : 256 * (d.toNat : Int) < 1000000000000000 := by omega
    have h1' : -1000000000000000 < 256 * (d.toNat : Int) := by omega
    have g0 : (c.toNat : Int) < 1000000000000000 := by omega
    have g0' : -1000000000000000 < (c.toNat : Int) := by omega
    have g1 : (b.toNat : Int) < 1000000000000000 := by omega
    have g1' : -1000000000000000 < (b.toNat : Int) := by omega
    have g2 : (a.toNat : Int) < 1000000000000000 := by omega
    have g2' : -1000000000000000 < (a.toNat : Int) := by omega
    generalize hX : c.toNat + 256 * d.toNat = X at *
    have h2 : (X : Int) < 1000000000000000 := by omega
    have h2' : -1000000000000000 < (X : Int) := by omega
    have h3 : 256 * (X : Int) < 1000000000000000 := by omega
    have h3' : -1000000000000000 < 256 * (X : Int) := by omega
    generalize hY : b.toNat + 256 * X = Y at *
    have h4 : (Y : Int) < 1000000000000000 := by omega
    have h4' : -1000000000000000 < (Y : Int) := by omega
    have h5 : 256 * (Y : Int) < 1000000000000000 := by omega
    have h5' : -1000000000000000 < 256 * (Y : Int) := by omega
    generalize hZ : a.toNat + 256 * Y = Z at *
    have h6 : (Z : Int) < 1000000000000000 := by omega
    have h6' : -1000000000000000 < (Z : Int) := by omega
    rw [← e4]
    refine callT_ev (fn := fn41) rfl rfl ?_
    simp [runFun_eq]
    simp only [ev_bnd_iff]
    apply ev_loop
    simp [e1, e2, e3, h0, h0', h1, h1', h2, h2', h3, h3', h4, h4', h5, h5', h6, h6', g0, g0', g1, g1', g2, g2']
    apply ev_loop
    simp [e1, e2, e3, h0, h0', h1, h1', h2, h2', h3, h3', h4, h4', h5, h5', h6, h6', g0, g0', g1, g1', g2, g2']
    apply ev_loop
    simp [e1, e2, e3, h0, h0', h1, h1', h2, h2', h3, h3', h4, h4', h5, h5', h6, h6', g0, g0', g1, g1', g2, g2']
    apply ev_loop
    simp [e1, e2, e3, h0, h0', h1, h1', h2, h2', h3, h3', h4, h4', h5, h5', h6, h6', g0, g0', g1, g1', g2, g2']
    apply ev_loop
    simp

theorem rnumber2_run (a b : UInt8) : KJ 41 [.dat (.sl ([a, b].map B))] [] = some (.dat (.int .i64 ((a.toNat + 256 * b.toNat : Nat) : Int)), []) := by
  have ha := byte_lt a; have hb := byte_lt b
  have e1 : (256 * (b.toNat : Int) + a.toNat) = ((a.toNat + 256 * b.toNat : Nat) : Int) := by omega
  have h0 : (b.toNat : Int) < 1000000000000000 := by omega
  have h0' : -1000000000000000 < (b.toNat : Int) := by omega
  have h1 : 256 * (b.toNat : Int) < 1000000000000000 := by omega
  have h1' : -1000000000000000 < 256 * (b.toNat : Int) := by omega
  have g2 : (a.toNat : Int) < 1000000000000000 := by omega
  have g2' : -1000000000000000 < (a.toNat : Int) := by omega
  generalize hX : a.toNat + 256 * b.toNat = X at *
  have h2 : (X : Int) < 1000000000000000 := by omega
  have h2' : -1000000000000000 < (X : Int) := by omega
  refine callT_ev (fn := fn41) rfl rfl ?_
  simp [runFun_eq]
  simp only [ev_bnd_iff]
  apply ev_loop
  simp [e1, h0, h0', h1, h1', h2, h2', g2, g2']
  apply ev_loop
  simp [e1, h0, h0', h1, h1', h2, h2', g2, g2']
  apply ev_loop
  simp
end Go.Am

/- Walks of the reference: checksums, seals. -/
set_option linter.unusedVariables false
set_option linter.unusedSimpArgs false
set_option maxRecDepth 10000
namespace Go.Am
open Go.Proofs

theorem rcrc_inner (x y : AVal) : ∀ (k i : Nat) (s : St) (r : Nat), i + k = 8 → r < 4294967296 →
    hd [0, 3, 4, 5] [] s = some ⟨[(0, x), (3, .dat (.int .u32 r)), (4, y), (5, .dat (.int .i64 i))], []⟩ →
    Ev (loopLim (exec KJ l53_0) s) fun q => q.1 = .exit 2 ∧ hd [0, 3, 4] [] q.2 = some ⟨[(0, x), (3, .dat (.int .u32 (crcBits k r))), (4, y)], []⟩ := by
  intro k
  induction k with
  | zero =>
    intro i s r hi hr hs
    apply ev_loop
    have : i = 8 := by omega
    subst this
    simp [hs, crcBits]
  | succ k ih =>
    intro i s r hi hr hs
    apply ev_loop
    have h1 : (i : Int) < 8 := by omega
    have hx : Ix i := by unfold Ix; omega
    have e0 : (r : Int) / 2 % 4294967296 = ((r / 2 : Nat) : Int) := by omega
    have e2 : intE .xor .u32 ((r / 2 : Nat) : Int) 3988292384 = some (.dat (.int .u32 ((r / 2 ^^^ 3988292384 : Nat) : Int))) := by
      have := bv_xor (a := r / 2) (b := 3988292384) (by omega) (by omega)
      simp only [intE, bits_u32, wrap_u32]
      rw [← this]; rfl
    generalize hR : r / 2 = r2 at *
    by_cases hb : r % 2 = 1
    · have h4 : (r : Int) % 2 = 1 := by omega
      have hc : crcBit r = r2 ^^^ 3988292384 := by simp [crcBit, hb, hR]
      simp [hs, h1, hx, e0, ↓e2, h4]
      refine Ev.mono (ih (i + 1) _ (crcBit r) (by omega) (crcBit_lt hr) (by simp [hc])) ?_
      exact fun _ h => h
    · have h4 : ¬ (r : Int) % 2 = 1 := by omega
      have hc : crcBit r = r2 := by simp [crcBit, hb, hR]
      simp [hs, h1, hx, e0, ↓e2, h4]
      refine Ev.mono (ih (i + 1) _ (crcBit r) (by omega) (crcBit_lt hr) (by simp [hc])) ?_
      exact fun _ h => h

theorem rcrc_loop : ∀ (rest pre : List UInt8) (s : St) (r : Nat), pre.length + rest.length < 1000000000000 → r < 4294967296 →
    hd [0, 3, 4] [] s = some ⟨[(0, .dat (.sl ((pre ++ rest).map B))), (3, .dat (.int .u32 r)), (4, .dat (.int .i64 pre.length))], []⟩ →
    Ev (loopLim (exec KJ l53_1) s) fun q => q.1 = .exit 0 ∧ hd [3] [] q.2 = some ⟨[(3, .dat (.int .u32 (crcL rest r)))], []⟩ := by
  intro rest
  induction rest with
  | nil =>
    intro pre s r hi hr hs
    apply ev_loop
    simp [hs, crcL]
  | cons b rest ih =>
    intro pre s r hi hr hs
    apply ev_loop
    rw [List.length_cons] at hi
    have hx : Ix pre.length := by unfold Ix; omega
    have hb := byte_lt b
    have e1 : intE .xor .u32 (r : Int) (b.toNat : Int) = some (.dat (.int .u32 ((r ^^^ b.toNat : Nat) : Int))) := by
      have := bv_xor hr (b := b.toNat) (by omega)
      simp only [intE, bits_u32, wrap_u32]
      rw [← this]; rfl
    have e2 : (b.toNat : Int) % 4294967296 = b.toNat := by omega
    simp [hs, hx, ↓e1, e2]
    simp only [ev_bnd_iff]
    have hr2 : r ^^^ b.toNat < 4294967296 := Nat.xor_lt_two_pow (n := 32) hr (by omega)
    refine Ev.mono (rcrc_inner _ _ 8 0 _ (r ^^^ b.toNat) (by omega) hr2 (by simp; exact ⟨rfl, rfl⟩)) ?_
    rintro ⟨_, s⟩ ⟨rfl, hs⟩
    simp at hs
    simp [hs, hx]
    refine Ev.mono (ih (pre ++ [b]) _ _ (by simp; omega) (crcBits_lt 8 hr2) (by simp)) ?_
    exact fun _ h => h

theorem rcrc_run (l : List UInt8) (h : l.length < 1000000000000) : KJ 53 [.dat (.sl (l.map B))] [] = some (.dat (.int .u32 (crcB l)), []) := by
  refine callT_ev (fn := fn53) rfl rfl ?_
  have hl := crcL_lt l (r := 4294967295) (by omega)
  have e1 : intE .xor .u32 ((crcL l 4294967295 : Nat) : Int) 4294967295 = some (.dat (.int .u32 ((crcL l 4294967295 ^^^ 4294967295 : Nat) : Int))) := by
    have := bv_xor hl (b := 4294967295) (by omega)
    simp only [intE, bits_u32, wrap_u32]
    rw [← this]; rfl
  simp [runFun_eq]
  simp only [ev_bnd_iff]
  refine Ev.mono (rcrc_loop l [] _ 4294967295 (by simpa using h) (by omega) (by simp)) ?_
  rintro ⟨_, s⟩ ⟨rfl, hs⟩
  simp at hs
  simp [hs, ↓e1, crcB]

theorem ruint_loop : ∀ (n v : Nat) (s : St) (l : List UInt8), n < 1000000000000 → l.length + n < 100000000000 →
    hd [1, 5] [5] s = some ⟨[(1, .dat (.int .i64 n)), (5, .rsl (6, 0) v 1 0 l.length)], [((6, 0), .arr 1 v false (l.map B))]⟩ →
    Ev (loopLim (exec KJ l51_0) s) fun r => r.1 = .exit 0 ∧ ∃ v' k m, m < 128 ∧ uintB n = k ++ [UInt8.ofNat m] ∧ k.length ≤ n ∧
      hd [1, 5] [] r.2 = some ⟨[(1, .dat (.int .i64 (m : Nat))), (5, .rsl (6, 0) v' 1 0 (l ++ k).length)], [((6, 0), .arr 1 v' false ((l ++ k).map B))]⟩ := by
  intro n
  induction n using Nat.strongRecOn with
  | _ n ih =>
    intro v s l hn hl hs
    apply ev_loop
    by_cases h : 128 ≤ n
    · have h' : (128 : Int) ≤ n := by omega
      have h1 : (l.length + 1) * 2 ≤ 1099511627776 := by omega
      have h2 : -1000000000000000 < (n : Int) % 128 + 128 := by omega
      have h3 : (n : Int) % 128 + 128 < 1000000000000000 := by omega
      have h4 : -1000000000000000 < (n : Int) / 128 := by omega
      have h5 : (n : Int) / 128 < 1000000000000000 := by omega
      simp [hs, h', h1, h2, h3, h4, h5]
      refine (ih (n / 128) (by omega) (v + 1) _ (l ++ [UInt8.ofNat (n % 128 + 128)]) (by omega) (by simp; omega) (by simp)).mono ?_
      rintro r ⟨e1, v', k, m, e2, e3, e4, e5⟩
      refine ⟨e1, v', UInt8.ofNat (n % 128 + 128) :: k, m, e2, ?_, by simp; omega, by simpa using e5⟩
      rw [uintB, if_pos h, e3]; rfl
    · have h' : ¬ (128 : Int) ≤ n := by omega
      simp [hs, h', h]
      refine ⟨v, [], n, by omega, ?_, by simp, rfl, rfl, rfl⟩
      rw [uintB, if_neg h]; rfl

theorem ruint_run (n : Nat) (hn : n < 1000000000) : ∃ v, KJ 51 [.dat (.sl []), .dat (.int .i64 n)] [] = some (.rsl (0, 0) v 1 0 (uintB n).length, [.arr 1 v false ((uintB n).map B)]) := by
  have key : Ev (runFun KJ fn51 [.dat (.sl []), .dat (.int .i64 n)] []) fun r => ∃ v, r = (.rsl (0, 0) v 1 0 (uintB n).length, [.arr 1 v false ((uintB n).map B)]) := by
    have h0 : ¬ (4611686018427387904 : Int) < n := by omega
    simp [runFun_eq, h0]
    simp only [ev_bnd_iff]
    refine (ruint_loop n 0 _ [] (by omega) (by simp; omega) (by simp)).mono ?_
    rintro ⟨_, s⟩ ⟨rfl, v', k, m, hm, e, hk, hs⟩
    have h1 : (k.length + 1) * 2 ≤ 1099511627776 := by omega
    simp at hs
    simp [hs, e, h1]
  obtain ⟨r, hr, v, rfl⟩ := key
  exact ⟨v, callT_ev (fn := fn51) rfl rfl ⟨_, hr, rfl⟩⟩
end Go.Am

/- Walks of the reference: seals, and frames that are opened. -/
set_option linter.unusedVariables false
set_option linter.unusedSimpArgs false
set_option maxRecDepth 10000
namespace Go.Am
open Go.Proofs

theorem rseal_run (p : List UInt8) (h : p.length < 10000000) : KJ 45 [.dat (.sl (p.map B))] [] = some (.dat (.sl ((sealB p).map B)), []) := by
  refine callT_ev (fn := fn45) rfl rfl ?_
  have hu := uintB_le p.length
  obtain ⟨v, h1⟩ := ruint_run p.length (by omega)
  have h3 := rcrc_run (uintB p.length ++ p) (by simp; omega)
  have h4 := rsum_run (crcB (uintB p.length ++ p)) (crcB_lt _)
  have h6 : ((uintB p.length).length + p.length) * 2 ≤ 1099511627776 := by omega
  have h7 : ((uintB p.length).length + p.length + 4) * 2 ≤ 1099511627776 := by omega
  have h8 : (sumB (crcB (uintB p.length ++ p))).length = 4 := rfl
  have h9 : ¬ (uintB p.length = []) := by rw [uintB]; split <;> simp
  have h10 : (uintB p.length).length * 2 ≤ 1099511627776 := by omega
  have h11 : ((uintB p.length).length + 4) * 2 ≤ 1099511627776 := by omega
  by_cases hp : p = []
  · subst hp
    simp [sealB] at *
    simp [runFun_eq, h1, h3, h4, h6, h7, h8, h9, h10, h11]
  · simp at h1 h3 h4
    simp [Nat.add_assoc] at h6 h7
    simp [runFun_eq, h1, h3, h4, h6, h7, h8, h9, h10, sealB, hp, Nat.add_assoc]

theorem rld_loop (l : List UInt8) (hl : l.length < 1000000000000) : ∀ (k i : Nat) (s : St), i + k = 9 → i ≤ l.length → (∀ j, j < i → ∃ b, l[j]? = some b ∧ 128 ≤ b.toNat) →
    hd [0, 5] [] s = some ⟨[(0, .dat (.sl (l.map B))), (5, .dat (.int .i64 i))], []⟩ →
    Ev (loopLim (exec KJ l60_0) s) fun q => q.1 = .exit 0 ∧ hd [0, 5] [] q.2 = some ⟨[(0, .dat (.sl (l.map B))), (5, .dat (.int .i64 (lead 9 l)))], []⟩ := by
  intro k
  induction k with
  | zero =>
    intro i s hi hle hh hs
    apply ev_loop
    have h9 : i = 9 := by omega
    subst h9
    have hld : lead 9 l = 9 := lead_eq 9 9 l (by omega) hh (.inl rfl)
    rw [hld]
    by_cases hll : (9 : Int) < l.length
    · have hll' : 9 < l.length := by omega
      simp [hs, hll, hll']
    · have hll' : ¬ 9 < l.length := by omega
      simp [hs, hll, hll']
  | succ k ih =>
    intro i s hi hle hh hs
    apply ev_loop
    have hx : Ix i := by unfold Ix; omega
    have h9 : (i : Int) < 9 := by omega
    by_cases hlt : i < l.length
    · have hlt' : (i : Int) < l.length := by omega
      obtain ⟨b, hb, hb'⟩ := get_at' l hlt
      by_cases hge : 128 ≤ b.toNat
      · have hge' : (128 : Int) ≤ b.toNat := by omega
        simp [hs, hlt, hlt', hx, h9, hb, hb' hlt, hge, hge']
        refine Ev.mono (ih (i + 1) _ (by omega) (by omega) (fun j hj => ?_) (by simp)) (fun _ h => h)
        by_cases hj2 : j = i
        · subst hj2; exact ⟨b, hb, hge⟩
        · exact hh j (by omega)
      · have hge' : ¬ (128 : Int) ≤ b.toNat := by omega
        have hld : lead 9 l = i := lead_eq 9 i l (by omega) hh (.inr (.inr ⟨b, hb, by omega⟩))
        rw [hld]
        simp [hs, hlt, hlt', hx, h9, hb, hb' hlt, hge, hge']
    · have hlt' : ¬ (i : Int) < l.length := by omega
      have hld : lead 9 l = i := lead_eq 9 i l (by omega) hh (.inr (.inl (by omega)))
      rw [hld]
      simp [hs, hlt, hlt']

theorem low_drop (l : List UInt8) {k : Nat} {b : UInt8} (h : l[k]? = some b) (m : Nat) : low (m + 1) (l.drop k) = b.toNat % 128 + 128 * low m (l.drop (k + 1)) := by
  have hk : k < l.length := by
    by_cases hk : k < l.length
    · exact hk
    · rw [List.getElem?_eq_none (by omega)] at h; cases h
  rw [List.drop_eq_getElem_cons hk]
  rw [List.getElem?_eq_getElem hk] at h
  cases h
  rfl

theorem rlow_loop (l : List UInt8) (a : Nat) (ha : a ≤ 8) (hal : a < l.length) : ∀ (i : Nat) (s : St), i ≤ a + 1 →
    hd [0, 5, 6, 7] [] s = some ⟨[(0, .dat (.sl (l.map B))), (5, .dat (.int .i64 a)), (6, .dat (.int .i64 (low (a + 1 - i) (l.drop i)))), (7, .dat (.int .i64 ((i : Int) - 1)))], []⟩ →
    Ev (loopLim (exec KJ l60_1) s) fun q => q.1 = .exit 2 ∧ hd [0, 5, 6] [] q.2 = some ⟨[(0, .dat (.sl (l.map B))), (5, .dat (.int .i64 a)), (6, .dat (.int .i64 (low (a + 1) l)))], []⟩ := by
  intro i
  induction i with
  | zero =>
    intro s hi hs
    apply ev_loop
    simp at hs
    simp [hs]
  | succ i ih =>
    intro s hi hs
    apply ev_loop
    obtain ⟨b, hb⟩ := get_at l (i := i) (by omega)
    have e1 : (((i + 1 : Nat) : Int) - 1) = (i : Int) := by omega
    rw [e1] at hs
    have hlo := low_drop l hb (a + 1 - (i + 1))
    rw [show a + 1 - (i + 1) + 1 = a + 1 - i from by omega] at hlo
    have hb2 := low_lt (a + 1 - i) (l.drop i)
    have hb3 : 128 ^ (a + 1 - i) ≤ 128 ^ 9 := Nat.pow_le_pow_right (by omega) (by omega)
    simp only [Nat.reducePow] at hb3
    generalize hL : low (a + 1 - (i + 1)) (l.drop (i + 1)) = L at *
    have c1 : (L : Int) * 128 = ((128 * L : Nat) : Int) := by omega
    have w1 : IntKind.wrap .i64 ((128 * L : Nat) : Int) = ((128 * L : Nat) : Int) := wrap_i64_all (by omega) (by omega)
    have c2 : ((128 * L : Nat) : Int) + (b.toNat : Int) % 128 = ((low (a + 1 - i) (l.drop i) : Nat) : Int) := by rw [hlo]; omega
    have w2 : IntKind.wrap .i64 ((low (a + 1 - i) (l.drop i) : Nat) : Int) = ((low (a + 1 - i) (l.drop i) : Nat) : Int) := wrap_i64_all (by omega) (by omega)
    have w3 : (b.toNat : Int) % 128 < 1000000000000000 := by omega
    have w4 : -1000000000000000 < (b.toNat : Int) % 128 := by omega
    have w5 : (i : Int) - 1 < 1000000000000000 := by omega
    have w6 : -1000000000000000 < (i : Int) - 1 := by omega
    generalize low (a + 1 - i) (l.drop i) = M at *
    generalize 128 * L = L2 at *
    simp [hs, hb, c1, w1, c2, w2, w3, w4, w5, w6]
    exact Ev.mono (ih _ (by omega) (by simp)) (fun _ h => h)

def rtail (l : List UInt8) : List UInt8 := if (decB l).2.2 = 0 then l.drop (decB l).2.1 else []

theorem rdec_run (l : List UInt8) (hl : l.length < 100000000000) : KJ 60 [.dat (.sl (l.map B))] [] = some (.tup [.dat (.int .i64 (decB l).1), .dat (.sl ((rtail l).map B)), .dat (.int .i64 (decB l).2.2)], []) := by
  refine callT_ev (fn := fn60) rfl rfl ?_
  simp [runFun_eq]
  simp only [ev_bnd_iff]
  refine Ev.mono (rld_loop l (by omega) 9 0 _ (by omega) (by omega) (by omega) (by simp)) ?_
  rintro ⟨_, s⟩ ⟨rfl, hs⟩
  simp at hs
  have hll := lead_le 9 l
  have hB : decB l = if lead 9 l = 9 then (0, 0, 2) else if lead 9 l = l.length then (0, 0, 22) else
    if 0 < lead 9 l ∧ l.getD (lead 9 l) 0 = 0 then (0, 0, 3) else if 4611686018427387904 < low (lead 9 l + 1) l then (0, 0, 2) else (low (lead 9 l + 1) l, lead 9 l + 1, 0) := rfl
  generalize lead 9 l = a at *
  by_cases h9 : a = 9
  · subst h9
    simp [hs, hB, rtail]
  · have h9' : ¬ (a : Int) = 9 := by omega
    by_cases hal : a = l.length
    · have hal' : (a : Int) = l.length := by omega
      have h10 : ¬ (l.length : Int) = 9 := by omega
      have h11 : ¬ l.length = 9 := by omega
      simp [hs, hB, rtail, h9, hal, h10, h11]
    · have hal' : ¬ (a : Int) = l.length := by omega
      obtain ⟨b, hb, hb'⟩ := get_at' l (i := a) (by omega)
      have hgd : l.getD a 0 = b := by rw [List.getD_eq_getElem?_getD, hb]; rfl
      have hbz : (b = 0) ↔ ((b.toNat : Int) = 0) := by
        constructor
        · rintro rfl; rfl
        · intro h; exact UInt8.toNat_inj.1 (by have : (0 : UInt8).toNat = 0 := rfl; omega)
      rw [if_neg h9, if_neg hal, hgd] at hB
      have hlt : a < l.length := by omega
      have hbl := low_lt (a + 1) l
      have hb3 : 128 ^ (a + 1) ≤ 128 ^ 9 := Nat.pow_le_pow_right (by omega) (by omega)
      simp only [Nat.reducePow] at hb3
      have f1 : (a : Int) + 1 < 1000000000000000 := by omega
      have f2 : -1000000000000000 < (a : Int) + 1 := by omega
      have f3 : (a : Int) + 1 ≤ l.length := by omega
      have f4 : ((a : Int) + 1).toNat = a + 1 := by omega
      have f5 : ((l.length : Int) - (a + 1)).toNat = l.length - (a + 1) := by omega
      have f6 : (l.length - (a + 1)) * 2 ≤ 1099511627776 := by omega
      by_cases hf : 0 < a ∧ b = 0
      · rw [if_pos hf] at hB
        obtain ⟨hf1, rfl⟩ := hf
        simp [hs, hB, rtail, h9, h9', hal, hal', hb, hb' hlt, hf1, hlt]
      · rw [if_neg hf] at hB
        by_cases h0 : 0 < a
        · have hbn : ¬ (b.toNat : Int) = 0 := fun h => hf ⟨h0, hbz.2 h⟩
          have hbn' : ¬ b.toNat = 0 := by omega
          simp [hs, h9, h9', hal, hal', hb, hb' hlt, hlt, h0, hbn, hbn']
          simp only [ev_bnd_iff]
          refine Ev.mono (rlow_loop l a (by omega) hlt (a + 1) _ (by omega) (by simp [low])) ?_
          rintro ⟨_, s2⟩ ⟨rfl, hs2⟩
          simp at hs2
          by_cases hbig : 4611686018427387904 < low (a + 1) l
          · rw [if_pos hbig] at hB
            have hbig' : (4611686018427387904 : Int) < low (a + 1) l := by omega
            simp [-List.map_drop, drop_map, hs2, hB, rtail, hbig, hbig']
          · rw [if_neg hbig] at hB
            have hbig' : ¬ (4611686018427387904 : Int) < low (a + 1) l := by omega
            by_cases hem : l.length - (a + 1) = 0
            · have hd0 : (l.map B).drop (a + 1) = [] := List.drop_of_length_le (by simp; omega)
              have hd1 : l.drop (a + 1) = [] := List.drop_of_length_le (by omega)
              simp [-List.map_drop, drop_map, hs2, hB, rtail, hbig, hbig', f1, f2, f3, f4, f5, f6, hem, hd0, hd1]
            · simp [-List.map_drop, drop_map, hs2, hB, rtail, hbig, hbig', f1, f2, f3, f4, f5, f6, hem]
        · have ha0 : a = 0 := by omega
          subst ha0
          have q0 : ¬ (0 : Int) = l.length := by omega
          simp [hs, q0, hb, hb' hlt, hlt]
          simp only [ev_bnd_iff]
          refine Ev.mono (rlow_loop l 0 (by omega) hlt (0 + 1) _ (by omega) (by simp [low])) ?_
          rintro ⟨_, s2⟩ ⟨rfl, hs2⟩
          simp at hs2
          rw [Nat.zero_add] at hB
          have g1 : (1 : Int) ≤ l.length := by omega
          have g5 : ((l.length : Int) - 1).toNat = l.length - 1 := by omega
          have g6 : (l.length - 1) * 2 ≤ 1099511627776 := by omega
          have g7 : (l.drop 1).take (l.length - 1) = l.drop 1 := List.take_of_length_le (by simp)
          by_cases hbig : 4611686018427387904 < low 1 l
          · rw [if_pos hbig] at hB
            have hbig' : (4611686018427387904 : Int) < low 1 l := by omega
            simp [hs2, hB, rtail, hbig']
          · rw [if_neg hbig] at hB
            have hbig' : ¬ (4611686018427387904 : Int) < low 1 l := by omega
            by_cases hem : l.length - 1 = 0
            · have hd1 : l.drop 1 = [] := List.drop_of_length_le (by omega)
              simp [-List.map_drop, -List.drop_one, drop_map, hs2, hB, rtail, hbig', g1, g5, g6, hem, hd1]
            · simp [-List.map_drop, -List.drop_one, drop_map, hs2, hB, rtail, hbig', g1, g5, g6, g7, hem]
end Go.Am

/- Walks of the reference: frames that are opened. -/
set_option linter.unusedVariables false
set_option linter.unusedSimpArgs false
set_option maxRecDepth 10000
namespace Go.Am
open Go.Proofs

theorem ropen_run (l : List UInt8) (hl : l.length < 100000000000) : KJ 50 [.dat (.sl (l.map B))] [] = some (.tup [.dat (Bs (fopB l).1), .dat (Bs (fopB l).2.1), .dat (.int .i64 (fopB l).2.2)], []) := by
  refine callT_ev (fn := fn50) rfl rfl ?_
  have h1 := rdec_run l hl
  by_cases he : (decB l).2.2 = 0
  · obtain ⟨b1, b2, b3, b4⟩ := decB_size he
    have hrt : rtail l = l.drop (decB l).2.1 := by simp [rtail, he]
    rw [hrt] at h1
    generalize hN : (decB l).1 = N at *
    generalize hS : (decB l).2.1 = S at *
    have a0 : ((l.length - S : Nat) : Int) = (l.length : Int) - S := by omega
    by_cases hsh : l.length < S + N + 4
    · have hf : fopB l = ([], [], 22) := by simp [fopB, he, hN, hS, hsh]
      rw [hf]
      by_cases h4 : l.length - S < 4
      · have h4' : (l.length : Int) - S < 4 := by omega
        have h4'' : ((l.length - S : Nat) : Int) < 4 := by omega
        simp [-List.map_drop, drop_map, runFun_eq, h1, he, h4, h4', h4'']
      · have h4' : ¬ (l.length : Int) - S < 4 := by omega
        have h4'' : ¬ ((l.length - S : Nat) : Int) < 4 := by omega
        have a3 : ((l.length - S : Nat) : Int) - 4 < 1000000000000000 := by omega
        have a4 : -1000000000000000 < ((l.length - S : Nat) : Int) - 4 := by omega
        have a5 : ((l.length - S : Nat) : Int) - 4 < N := by omega
        simp [-List.map_drop, drop_map, runFun_eq, h1, he, h4, h4', h4'', a3, a4, a5]
    · have h4' : ¬ (l.length : Int) - S < 4 := by omega
      have h4'' : ¬ ((l.length - S : Nat) : Int) < 4 := by omega
      have a3 : ((l.length - S : Nat) : Int) - 4 < 1000000000000000 := by omega
      have a4 : -1000000000000000 < ((l.length - S : Nat) : Int) - 4 := by omega
      have a5 : ¬ ((l.length - S : Nat) : Int) - 4 < N := by omega
      have a51 : (l.length : Int) - ((l.length - S : Nat) : Int) < 1000000000000000 := by omega
      have a52 : -1000000000000000 < (l.length : Int) - ((l.length - S : Nat) : Int) := by omega
      have a53 : (l.length : Int) - ((l.length - S : Nat) : Int) = S := by omega
      have p1 : (S : Int) < 1000000000000000 := by omega
      have p2 : -1000000000000000 < (S : Int) := by omega
      have a6 : (S : Int) + N < 1000000000000000 := by omega
      have a7 : -1000000000000000 < (S : Int) + N := by omega
      have a8 : (0 : Int) ≤ (S : Int) + N := by omega
      have a9 : (S : Int) + N ≤ l.length := by omega
      have a10 : ((S : Int) + N).toNat = S + N := by omega
      have a11 : (S : Int) + N + 4 < 1000000000000000 := by omega
      have a12 : -1000000000000000 < (S : Int) + N + 4 := by omega
      have a13 : (0 : Int) ≤ (S : Int) + N + 4 := by omega
      have a14 : (S : Int) + N + 4 ≤ l.length := by omega
      have a15 : ((S : Int) + N + 4).toNat = S + N + 4 := by omega
      have a16 : (S : Int) + N ≤ (S : Int) + N + 4 := by omega
      have a17 : ((S : Int) + N + 4 - (S + N)).toNat = 4 := by omega
      have c1 := rcrc_run (l.take (S + N)) (by simp; omega)
      have c2 := rsum_run (crcB (l.take (S + N))) (crcB_lt _)
      have c3 := same_run ((l.drop (S + N)).take 4) (sumB (crcB (l.take (S + N))))
      have a18 : (N : Int) ≤ ((l.length - S : Nat) : Int) := by omega
      have a19 : (N : Int) + 4 < 1000000000000000 := by omega
      have a20 : -1000000000000000 < (N : Int) + 4 := by omega
      have a21 : (0 : Int) ≤ (N : Int) + 4 := by omega
      have a22 : (N : Int) + 4 ≤ ((l.length - S : Nat) : Int) := by omega
      have a23 : ((N : Int) + 4).toNat = N + 4 := by omega
      have a24 : (((l.length - S : Nat) : Int) - (N + 4)).toNat = l.length - S - (N + 4) := by omega
      have a25 : min N (l.length - S) * 2 ≤ 1099511627776 := by omega
      have a26 : (l.length - S - (N + 4)) * 2 ≤ 1099511627776 := by omega
      have a27 : (l.drop (S + (N + 4))).take (l.length - S - (N + 4)) = l.drop (S + (N + 4)) := List.take_of_length_le (by simp; omega)
      have a28 : (l.length - (S + (N + 4))) * 2 ≤ 1099511627776 := by omega
      simp only [B, List.map_drop, List.map_take] at c1 c2 c3
      by_cases hsum : (l.drop (S + N)).take 4 = sumB (crcB (l.take (S + N)))
      · have hf : fopB l = ((l.drop S).take N, l.drop (S + N + 4), 0) := by
          simp [fopB, he, hN, hS, hsh, hsum]
        rw [hf]
        rw [show ((l.drop (S + N)).take 4 == sumB (crcB (l.take (S + N)))) = true from by simp [hsum]] at c3
        simp [-List.map_drop, -List.map_take, drop_map, take_map] at c1 c2 c3
        have e1 : ((l.drop S).take N = []) ↔ min N (l.length - S) = 0 := by
          rw [← List.length_eq_zero_iff]; simp
        by_cases hN0 : min N (l.length - S) = 0
        · by_cases hN1 : l.length - (S + (N + 4)) = 0
          · have z1 : (l.drop S).take N = [] := e1.2 hN0
            have z2 : l.drop (S + (N + 4)) = [] := List.drop_of_length_le (by omega)
            simp [-List.map_drop, -List.map_take, drop_map, take_map, runFun_eq, h1, he, h4', h4'', a3, a4, a5, p1, p2, a51, a52, a53, a6, a7, a8, a9, a10, a11, a12, a13, a14, a15, a16, a17, a18, a19, a20, a21, a22, a23, a24, a25, a26, a27, a28, c1, c2, c3, hN0, hN1, z1, z2, Nat.add_assoc]
          · have z1 : (l.drop S).take N = [] := e1.2 hN0
            simp [-List.map_drop, -List.map_take, drop_map, take_map, runFun_eq, h1, he, h4', h4'', a3, a4, a5, p1, p2, a51, a52, a53, a6, a7, a8, a9, a10, a11, a12, a13, a14, a15, a16, a17, a18, a19, a20, a21, a22, a23, a24, a25, a26, a27, a28, c1, c2, c3, hN0, hN1, z1, Nat.add_assoc]
        · by_cases hN1 : l.length - (S + (N + 4)) = 0
          · have z2 : l.drop (S + (N + 4)) = [] := List.drop_of_length_le (by omega)
            simp [-List.map_drop, -List.map_take, drop_map, take_map, runFun_eq, h1, he, h4', h4'', a3, a4, a5, p1, p2, a51, a52, a53, a6, a7, a8, a9, a10, a11, a12, a13, a14, a15, a16, a17, a18, a19, a20, a21, a22, a23, a24, a25, a26, a27, a28, c1, c2, c3, hN0, hN1, z2, Nat.add_assoc]
          · simp [-List.map_drop, -List.map_take, drop_map, take_map, runFun_eq, h1, he, h4', h4'', a3, a4, a5, p1, p2, a51, a52, a53, a6, a7, a8, a9, a10, a11, a12, a13, a14, a15, a16, a17, a18, a19, a20, a21, a22, a23, a24, a25, a26, a27, a28, c1, c2, c3, hN0, hN1, Nat.add_assoc]
      · have hf : fopB l = ([], [], 21) := by
          have : ¬ sumB (crcB (l.take (S + N))) = (l.drop (S + N)).take 4 := fun h => hsum h.symm
          simp [fopB, he, hN, hS, hsh, this]
        rw [hf]
        rw [show ((l.drop (S + N)).take 4 == sumB (crcB (l.take (S + N)))) = false from by simp [hsum]] at c3
        simp [-List.map_drop, -List.map_take, drop_map, take_map] at c1 c2 c3
        simp [-List.map_drop, -List.map_take, drop_map, take_map, runFun_eq, h1, he, h4', h4'', a3, a4, a5, p1, p2, a51, a52, a53, a6, a7, a8, a9, a10, a11, a12, a13, a14, a15, a16, a17, c1, c2, c3]
  · have hf : fopB l = ([], [], (decB l).2.2) := by simp [fopB, he]
    rw [hf]
    have he' : ¬ ((decB l).2.2 : Int) = 0 := by omega
    simp [-List.map_drop, drop_map, runFun_eq, h1, he]
end Go.Am

/- Walks of the reference: the image of a record. -/
set_option linter.unusedVariables false
set_option linter.unusedSimpArgs false
set_option maxRecDepth 10000
namespace Go.Am
open Go.Proofs

def rinPost (e n k j : Nat) (data : List UInt8) (v9 n9 : Nat) (X : List Dat) (acc : List UInt8) (q : AEx × St) : Prop := q.1 = .exit 2 ∧ ∃ v',
  hd [0, 1, 7, 8, 9, 10, 11] [] q.2 = some ⟨[(0, .dat (.int .i64 e)), (1, .dat (.int .i64 n)), (7, .dat (.sl (data.map B))), (8, .dat (.int .i64 k)), (9, .rsl (10, 0) v9 1 0 n9), (10, .dat (.int .i64 j)), (11, .rsl (12, 0) v' 1 0 acc.length)],
    [((10, 0), .arr 1 v9 false X), ((12, 0), .arr 1 v' false (acc.map B))]⟩

theorem rimg_in (e n k j : Nat) (data : List UInt8) (v9 n9 : Nat) (X : List Dat) (hj : j < 1000000) : ∀ (m i v : Nat) (acc : List UInt8) (s : St), i + m = (j + 1) * 52 → acc.length < 1000 →  m + acc.length ≤ 64 →
    hd [0, 1, 7, 8, 9, 10, 11, 12] [7, 9, 11] s = some ⟨[(0, .dat (.int .i64 e)), (1, .dat (.int .i64 n)), (7, .dat (.sl (data.map B))), (8, .dat (.int .i64 k)), (9, .rsl (10, 0) v9 1 0 n9), (10, .dat (.int .i64 j)), (11, .rsl (12, 0) v 1 0 acc.length), (12, .dat (.int .i64 i))],
      [((10, 0), .arr 1 v9 false X), ((12, 0), .arr 1 v false (acc.map B))]⟩ →
    Ev (loopLim (exec KJ l46_0) s) (rinPost e n k j data v9 n9 X (acc ++ (List.range m).map fun t => data.getD (i + t) 0)) := by
  intro m
  induction m with
  | zero =>
    intro i v acc s hi ha hm hs
    apply ev_loop
    have hw1 : ((j : Int) + 1) * 52 < 1000000000000000 := by omega
    have hw2 : -1000000000000000 < ((j : Int) + 1) * 52 := by omega
    have hx : Ix j := by unfold Ix; omega
    have hc : ¬ (i : Int) < ((j : Int) + 1) * 52 := by omega
    simp [hs, hx, hw1, hw2, hc, rinPost]
  | succ m ih =>
    intro i v acc s hi ha hm hs
    apply ev_loop
    have hw1 : ((j : Int) + 1) * 52 < 1000000000000000 := by omega
    have hw2 : -1000000000000000 < ((j : Int) + 1) * 52 := by omega
    have hx : Ix j := by unfold Ix; omega
    have hx2 : Ix i := by unfold Ix; omega
    have hc : (i : Int) < ((j : Int) + 1) * 52 := by omega
    have hr : (acc.length + 1) * 2 ≤ 1099511627776 := by omega
    have hlast : (acc ++ (List.range (m + 1)).map fun t => data.getD (i + t) 0) = (acc ++ [data.getD i 0]) ++ (List.range m).map fun t => data.getD (i + 1 + t) 0 := by
      rw [List.range_succ_eq_map]
      simp [Nat.add_assoc, Nat.add_comm 1, Function.comp_def]
    rw [hlast]
    have ih2 := ih (i + 1) (v + 1) (acc ++ [data.getD i 0])
    generalize hQ : rinPost e n k j data v9 n9 X _ = Q at ih2 ⊢
    by_cases hd : i < data.length
    · have hd' : (i : Int) < data.length := by omega
      obtain ⟨b, hb, hb'⟩ := get_at' data hd
      have hg : data.getD i 0 = b := by rw [List.getD_eq_getElem?_getD, hb]; rfl
      rw [hg] at ih2
      simp [hs, hx, hx2, hw1, hw2, hc, hd, hd', hb, hb' hd, hr]
      exact Ev.mono (ih2 _ (by omega) (by simp; omega) (by simp; omega) (by simp)) (fun _ h => h)
    · have hd' : ¬ (i : Int) < data.length := by omega
      have hg : data.getD i 0 = 0 := by rw [List.getD_eq_getElem?_getD, List.getElem?_eq_none (by omega)]; rfl
      rw [hg] at ih2
      simp [hs, hx, hx2, hw1, hw2, hc, hd, hd', hr]
      exact Ev.mono (ih2 _ (by omega) (by simp; omega) (by simp; omega) (by simp)) (fun _ h => h)

theorem chunk_getD (data : List UInt8) (j : Nat) : chunk data j ++ List.replicate (52 - (chunk data j).length) 0 = (List.range 52).map fun t => data.getD (52 * j + t) 0 := by
  apply List.ext_getElem?
  intro i
  have hl : (chunk data j).length = min 52 (data.length - 52 * j) := by simp [chunk]
  by_cases h1 : i < (chunk data j).length
  · rw [List.getElem?_append_left h1, chunk, List.getElem?_take, if_pos (by omega), List.getElem?_drop]
    rw [List.getElem?_map, List.getElem?_range (by omega)]
    simp only [Option.map_some, List.getD_eq_getElem?_getD]
    rw [List.getElem?_eq_getElem (by omega)]
    rfl
  · rw [List.getElem?_append_right (by omega), List.getElem?_replicate, List.getElem?_map]
    by_cases h2 : i < 52
    · rw [if_pos (by omega), List.getElem?_range h2]
      simp only [Option.map_some, List.getD_eq_getElem?_getD]
      rw [List.getElem?_eq_none (by omega)]
      rfl
    · rw [if_neg (by omega), List.getElem?_eq_none (by simp; omega)]
      rfl

def rimgPost (k : Nat) (all : List (List UInt8)) (q : AEx × St) : Prop := q.1 = .exit 0 ∧ ∃ v', hd [9] [] q.2 = some ⟨[(9, .rsl (10, 0) v' 1 0 k)], [((10, 0), .arr 1 v' false (all.map Bs))]⟩

theorem rimage_loop (data : List UInt8) (n e : Nat) (hn : n < 4294967296) (he : e < 4294967296) (hd0 : data.length < 10000000) : ∀ (m j v : Nat) (s : St) (out : List (List UInt8)), j + m = cntB data → out.length = j →
    hd [0, 1, 7, 8, 9, 10] [7, 9] s = some ⟨[(0, .dat (.int .i64 e)), (1, .dat (.int .i64 n)), (7, .dat (.sl (data.map B))), (8, .dat (.int .i64 (cntB data))), (9, .rsl (10, 0) v 1 0 out.length), (10, .dat (.int .i64 j))], [((10, 0), .arr 1 v false (out.map Bs))]⟩ →
    Ev (loopLim (exec KJ l46_1) s) (rimgPost (cntB data) (out ++ (List.range m).map fun i => secB e n (j + i) (cntB data) data)) := by
  intro m
  induction m with
  | zero =>
    intro j v s out hj ho hs
    apply ev_loop
    have hj' : j = cntB data := by omega
    subst hj'
    simp [hs, ho, rimgPost]
  | succ m ih =>
    intro j v s out hj ho hs
    apply ev_loop
    have hc : cntB data < 1000000 := by unfold cntB; omega
    have hlt : (j : Int) < cntB data := by omega
    have hlt' : j < cntB data := by omega
    have hx : Ix j := by unfold Ix; omega
    have hlast : (out ++ (List.range (m + 1)).map fun i => secB e n (j + i) (cntB data) data) = (out ++ [secB e n j (cntB data) data]) ++ (List.range m).map fun i => secB e n (j + 1 + i) (cntB data) data := by
      rw [List.range_succ_eq_map]
      simp [Nat.add_assoc, Nat.add_comm 1, Function.comp_def]
    rw [hlast]
    have hsec : secB e n j (cntB data) data = (sumB e ++ sumB n ++ le2 j ++ le2 (cntB data)) ++ (List.range 52).map fun t => data.getD (52 * j + t) 0 := by
      rw [← chunk_getD]; simp [secB]
    have b1 := rbytes4_run e he
    have b2 := rbytes4_run n hn
    have b3 := rbytes2_run j (by omega)
    have b4 := rbytes2_run (cntB data) (by omega)
    have hw1 : (j : Int) * 52 < 1000000000000000 := by omega
    have hw2 : -1000000000000000 < (j : Int) * 52 := by omega
    have hw3 : (j : Int) * 52 = 52 * (j : Int) := by omega
    have hw4 : 52 * (j : Int) < 1000000000000000 := by omega
    have hw5 : -1000000000000000 < 52 * (j : Int) := by omega
    have hr1 : (out.length + 1) * 25 ≤ 1099511627776 := by omega
    have hin := fun v9 X v s h => rimg_in e n (cntB data) j data v9 out.length X (by omega) 52 (52 * j) v (sumB e ++ sumB n ++ le2 j ++ le2 (cntB data)) s (by omega) (by simp [sumB, le2]) (by simp [sumB, le2]) h
    rw [← hsec] at hin
    have ih2 := ih (j + 1) (v + 1)
    have hsl : (secB e n j (cntB data) data).length = 64 := by rw [hsec]; simp [sumB, le2]
    generalize hS : secB e n j (cntB data) data = S at *
    generalize hQ : rimgPost (cntB data) _ = Q at ih2 ⊢
    generalize cntB data = C at *
    have l4 : ∀ x, (sumB x).length = 4 := fun _ => rfl
    have l2 : ∀ x, (le2 x).length = 2 := fun _ => rfl
    have n4 : ∀ x, ¬ (sumB x = []) := fun x h => by have := l4 x; rw [h] at this; simp at this
    have n2 : ∀ x, ¬ (le2 x = []) := fun x h => by have := l2 x; rw [h] at this; simp at this
    simp [hs, hlt, hlt', hx, b1, b2, b3, b4, hw1, hw2, hw3, hw4, hw5, l4, l2, n4, n2]
    simp only [ev_bnd_iff]
    refine Ev.mono (hin v _ _ _ (by simp [l4, l2, hw4, hw5]; repeat (first | rfl | constructor))) ?_
    rintro ⟨_, s⟩ ⟨rfl, v', hs⟩
    simp at hs
    simp [hs, hx, hr1]
    rw [← hQ]
    exact Ev.mono (ih2 _ (out ++ [S]) (by omega) (by simp [ho]) (by simp)) (fun _ h => by simpa [← hQ] using h)

theorem rimage_run (p : List UInt8) (n e : Nat) (hp : p.length < 1000000) (hn : n < 4294967296) (he : e < 4294967296) :
    KJ 46 [.dat (.int .i64 e), .dat (.int .i64 n), .dat (.sl (p.map B))] [] = some (.dat (.sl ((imageB p n e).map Bs)), []) := by
  refine callT_ev (fn := fn46) rfl rfl ?_
  have h1 := rseal_run p (by omega)
  have h2 := sealB_len p
  have h3 := rparts_run (sealB p).length (by omega)
  have h8 : ((sealB p).length + 51) / 52 = cntB (sealB p) := rfl
  rw [h8] at h3
  have hlp := fun s h => rimage_loop (sealB p) n e hn he (by omega) (cntB (sealB p)) 0 0 s [] (by omega) rfl h
  simp [runFun_eq, h1, h3]
  simp only [ev_bnd_iff]
  refine Ev.mono (hlp _ (by simp)) ?_
  rintro ⟨_, s⟩ ⟨rfl, v', hs⟩
  simp at hs
  simp [hs, imageB]
end Go.Am

/- Walks: the disk. -/
set_option linter.unusedVariables false
set_option linter.unusedSimpArgs false
set_option maxRecDepth 10000
namespace Go.Am
open Go.Proofs

def dskB (du pe : AVal) (cr op : Int) : Obj := .box [du, pe, .dat (.int .i64 cr), .dat (.int .i64 op), .dat (.bool true)]
@[simp] def pnd (w : Int × List UInt8) : Dat := .agg [.int .i64 w.1, Bs w.2]

/-- how the pending writes are held -/
def Pend (pe : List (Int × List UInt8)) (pv : AVal) (po : List Obj) : Prop :=
  (pv = .nils ∧ po = [] ∧ pe = []) ∨ ∃ v2, pv = .rsl (0, 2) v2 2 0 pe.length ∧ po = [.arr 2 v2 false (pe.map pnd)]

/-- the objects of a disk -/
def dsk (v : Nat) (du : List (List UInt8)) (cr op : Int) (pv : AVal) (po : List Obj) : List Obj := dskB (.rsl (0, 1) v 1 0 du.length) pv cr op :: .arr 1 v false (du.map Bs) :: po

theorem valid_run {v : Nat} {du : List (List UInt8)} {pe : List (Int × List UInt8)} {cr op : Int} {pv : AVal} {po : List Obj} (hp : Pend pe pv po) : KJ 34 [.ref (0, 0) 0] (dsk v du cr op pv po) = some (.dat (.bool true), dsk v du cr op pv po) := by
  refine callT_ev (fn := fn34) rfl rfl ?_
  rcases hp with ⟨rfl, rfl, rfl⟩ | ⟨v2, rfl, rfl⟩ <;> simp [runFun_eq, dsk, dskB]

def lastW : List (Int × List UInt8) → Int → Option (List UInt8)
  | [], _ => none
  | w :: r, i => match lastW r i with
    | some b => some b
    | none => if w.1 = i then some w.2 else none

theorem lastW_snoc : ∀ (l : List (Int × List UInt8)) (w : Int × List UInt8) (i : Int), lastW (l ++ [w]) i = if w.1 = i then some w.2 else lastW l i
  | [], w, i => by simp [lastW]
  | x :: l, w, i => by
    simp only [List.cons_append, lastW, lastW_snoc l w i]
    by_cases h : w.1 = i <;> simp [h]

def cont (du : List (List UInt8)) (pe : List (Int × List UInt8)) (i : Nat) : List UInt8 := (lastW pe i).getD (du.getD i [])

def cntPost (v v2 : Nat) (du : List (List UInt8)) (cr op : Int) (pe : List (Int × List UInt8)) (i : Nat) (q : AEx × St) : Prop :=
  (q.1 = .ret ∧ ∃ b, lastW pe i = some b ∧ hd [4] [] q.2 = some ⟨[(4, .dat (Bs b))], [((0,0), dskB (.rsl (0, 1) v 1 0 du.length) (.rsl (0, 2) v2 2 0 pe.length) cr op), ((0,1), .arr 1 v false (du.map Bs)), ((0,2), .arr 2 v2 false (pe.map pnd))]⟩) ∨
  (q.1 = .exit 0 ∧ lastW pe i = none ∧ hd [0, 1] [] q.2 = some ⟨[(0, .ref (0, 0) 0), (1, .dat (.int .i64 i))], [((0,0), dskB (.rsl (0, 1) v 1 0 du.length) (.rsl (0, 2) v2 2 0 pe.length) cr op), ((0,1), .arr 1 v false (du.map Bs)), ((0,2), .arr 2 v2 false (pe.map pnd))]⟩)

theorem cnt_loop (v v2 : Nat) (du : List (List UInt8)) (cr op : Int) (pe : List (Int × List UInt8)) (i : Nat) (hl : pe.length < 1000000000) : ∀ (m : Nat) (s : St), m ≤ pe.length → lastW pe i = lastW (pe.take m) i →
    hd [0, 1, 5] [] s = some ⟨[(0, .ref (0, 0) 0), (1, .dat (.int .i64 i)), (5, .dat (.int .i64 ((m : Int) - 1)))], [((0,0), dskB (.rsl (0, 1) v 1 0 du.length) (.rsl (0, 2) v2 2 0 pe.length) cr op), ((0,1), .arr 1 v false (du.map Bs)), ((0,2), .arr 2 v2 false (pe.map pnd))]⟩ →
    Ev (loopLim (exec KJ l36_0) s) (cntPost v v2 du cr op pe i) := by
  intro m
  induction m with
  | zero =>
    intro s hm hw hs
    apply ev_loop
    simp [lastW] at hw
    simp [hs, cntPost, hw]
  | succ m ih =>
    intro s hm hw hs
    apply ev_loop
    obtain ⟨w, hwm, hwm'⟩ := get_at' pe (i := m) (by omega)
    rw [List.take_add_one, hwm, show (some w).toList = [w] from rfl, lastW_snoc] at hw
    have e1 : ((m + 1 : Nat) : Int) - 1 = m := by omega
    have e2 : (m : Int) - 1 < 1000000000000000 := by omega
    have e3 : -1000000000000000 < (m : Int) - 1 := by omega
    have e4 : m < pe.length := by omega
    rw [e1] at hs
    by_cases hwi : w.1 = i
    · rw [if_pos hwi] at hw
      simp [hs, dskB, hwm, hwm', hwi, e4, cntPost, hw]
    · rw [if_neg hwi] at hw
      generalize hQ : cntPost v v2 du cr op pe i = Q
      simp [hs, dskB, hwm, hwm', hwi, e2, e3, e4]
      rw [← hQ]
      exact Ev.mono (ih _ (by omega) hw (by simp [dskB])) (fun _ h => h)

theorem content_run {v : Nat} {du : List (List UInt8)} {pe : List (Int × List UInt8)} {cr op : Int} {pv : AVal} {po : List Obj} (hp : Pend pe pv po) (hl : pe.length < 1000000000) {i : Nat} (hi : i < du.length) :
    KJ 36 [.ref (0, 0) 0, .dat (.int .i64 i)] (dsk v du cr op pv po) = some (.dat (Bs (cont du pe i)), dsk v du cr op pv po) := by
  refine callT_ev (fn := fn36) rfl rfl ?_
  obtain ⟨d, hd⟩ := get_at du hi
  have hgd : du.getD i [] = d := by rw [List.getD_eq_getElem?_getD, hd]; rfl
  rcases hp with ⟨rfl, rfl, rfl⟩ | ⟨v2, rfl, rfl⟩
  · simp [runFun_eq, dsk, dskB]
    simp only [ev_bnd_iff]
    apply ev_loop
    simp [hi, hd, cont, lastW]
  · have e2 : (pe.length : Int) - 1 < 1000000000000000 := by omega
    have e3 : -1000000000000000 < (pe.length : Int) - 1 := by omega
    simp [runFun_eq, dsk, dskB, e2, e3]
    simp only [ev_bnd_iff]
    refine Ev.mono (cnt_loop v v2 du cr op pe i hl pe.length _ (Nat.le_refl _) (by simp) (by simp [dskB])) ?_
    rintro ⟨x, s⟩ (⟨rfl, b, e1, hs⟩ | ⟨rfl, e1, hs⟩)
    · dsimp only at hs
      simp only [blkK, Ev_some, seqK, endK_hd hs]
      simp [dskB, cont, e1]
    · simp [hs, dskB, cont, e1, hi, hd, hgd]
end Go.Am

/- Walks: the disk, read and written. -/
set_option linter.unusedVariables false
set_option linter.unusedSimpArgs false
set_option maxRecDepth 10000
namespace Go.Am
open Go.Proofs

theorem or_add {k : IntKind} (hk : k.signed = false) {a b i : Nat} (ha : a < 2 ^ i) (h : 2 ^ i * b + a < 2 ^ k.bits) : intE .or k (a : Int) ((2 ^ i * b : Nat) : Int) = some (.dat (.int k ((a + 2 ^ i * b : Nat) : Int))) := by
  rw [(intE_bits hk (by omega) (by omega)).2.1, Nat.or_comm, ← Nat.two_pow_add_eq_or_of_lt ha, Nat.add_comm]

theorem number_run (l : List UInt8) (h : 4 ≤ l.length) : KJ 35 [.dat (.sl (l.map B))] [] = some (.dat (.int .u32 (num4 l)), []) := by
  refine callT_ev (fn := fn35) rfl rfl ?_
  obtain ⟨b0, e0, f0⟩ := get_at' l (i := 0) (by omega)
  obtain ⟨b1, e1, f1⟩ := get_at' l (i := 1) (by omega)
  obtain ⟨b2, e2, f2⟩ := get_at' l (i := 2) (by omega)
  obtain ⟨b3, e3, f3⟩ := get_at' l (i := 3) (by omega)
  have hn : num4 l = b0.toNat + 256 * b1.toNat + 65536 * b2.toNat + 16777216 * b3.toNat := by
    simp only [num4, List.getD_eq_getElem?_getD, e0, e1, e2, e3, Option.getD_some]
  have l0 := byte_lt b0
  have l1 := byte_lt b1
  have l2 := byte_lt b2
  have l3 := byte_lt b3
  rw [hn]
  have g0 : (b0.toNat : Int) % 4294967296 = b0.toNat := by omega
  have g1 : (b1.toNat : Int) % 4294967296 * 256 % 4294967296 = ((2 ^ 8 * b1.toNat : Nat) : Int) := by omega
  have g2 : (b2.toNat : Int) % 4294967296 * 65536 % 4294967296 = ((2 ^ 16 * b2.toNat : Nat) : Int) := by omega
  have g3 : (b3.toNat : Int) % 4294967296 * 16777216 % 4294967296 = ((2 ^ 24 * b3.toNat : Nat) : Int) := by omega
  have o1 := or_add (k := .u32) rfl (a := b0.toNat) (b := b1.toNat) (i := 8) (by omega) (by rw [bits_u32]; omega)
  have o2 := or_add (k := .u32) rfl (a := b0.toNat + 2 ^ 8 * b1.toNat) (b := b2.toNat) (i := 16) (by omega) (by rw [bits_u32]; omega)
  have o3 := or_add (k := .u32) rfl (a := b0.toNat + 2 ^ 8 * b1.toNat + 2 ^ 16 * b2.toNat) (b := b3.toNat) (i := 24) (by omega) (by rw [bits_u32]; omega)
  simp at o1 o2 o3 g1 g2 g3
  simp [runFun_eq, e0, e1, e2, e3, g0, g1, g2, g3, o1, o2, o3]

theorem cont_len {du : List (List UInt8)} {pe : List (Int × List UInt8)} (h1 : ∀ d ∈ du, d.length = 64) (h2 : ∀ w ∈ pe, w.2.length = 64) {i : Nat} (hi : i < du.length) : (cont du pe i).length = 64 := by
  unfold cont
  have : ∀ l : List (Int × List UInt8), (∀ w ∈ l, w.2.length = 64) → ∀ b, lastW l i = some b → b.length = 64 := by
    intro l
    induction l with
    | nil => intro _ b hb; cases hb
    | cons w r ih =>
      intro hw b hb
      simp only [lastW] at hb
      split at hb
      · rename_i b' hb'
        cases hb
        exact ih (fun w h => hw w (by simp [h])) _ hb'
      · split at hb
        · cases hb; exact hw w (by simp)
        · cases hb
  cases h : lastW pe i with
  | none =>
    obtain ⟨d, hd⟩ := get_at du hi
    simp only [Option.getD_none, List.getD_eq_getElem?_getD, hd, Option.getD_some]
    exact h1 d (List.mem_of_getElem? hd)
  | some b => exact this pe h2 b h

theorem read_run {v : Nat} {du : List (List UInt8)} {pe : List (Int × List UInt8)} {cr op : Int} {pv : AVal} {po : List Obj} (hp : Pend pe pv po) (hl : pe.length < 1000000000) (h1 : ∀ d ∈ du, d.length = 64) (h2 : ∀ w ∈ pe, w.2.length = 64) {i : Nat} (hi : i < du.length) :
    KJ 24 [.ref (0, 0) 0, .dat (.int .i64 i)] (dsk v du cr op pv po) = some (.tup [.dat (Bs (cont du pe i)), .dat (.int .i64 0)], dsk v du cr op pv po) := by
  refine callT_ev (fn := fn24) rfl rfl ?_
  have hv := valid_run (v := v) (du := du) (cr := cr) (op := op) hp
  have hc := content_run (v := v) (du := du) (cr := cr) (op := op) hp hl hi
  have hlen := cont_len h1 h2 hi
  have hge : ¬ du.length ≤ i := by omega
  rcases hp with ⟨rfl, rfl, rfl⟩ | ⟨v2, rfl, rfl⟩
  · simp [dsk, dskB] at hv hc
    simp [runFun_eq, dsk, dskB, hv, hc, hi, hlen, hge]
  · simp [dsk, dskB] at hv hc
    simp [runFun_eq, dsk, dskB, hv, hc, hi, hlen, hge]

theorem read_out {v : Nat} {du : List (List UInt8)} {pe : List (Int × List UInt8)} {cr op : Int} {pv : AVal} {po : List Obj} (hp : Pend pe pv po) {i : Int} (hi : i < 0 ∨ (du.length : Int) ≤ i) :
    KJ 24 [.ref (0, 0) 0, .dat (.int .i64 i)] (dsk v du cr op pv po) = some (.tup [.dat (.sl []), .dat (.int .i64 2)], dsk v du cr op pv po) := by
  refine callT_ev (fn := fn24) rfl rfl ?_
  have hv := valid_run (v := v) (du := du) (cr := cr) (op := op) hp
  rcases hp with ⟨rfl, rfl, rfl⟩ | ⟨v2, rfl, rfl⟩ <;> simp [dsk, dskB] at hv <;> by_cases h : i < 0
  all_goals first
    | (simp [runFun_eq, dsk, dskB, hv, h]; done)
    | (have h' : (du.length : Int) ≤ i := by omega
       simp [runFun_eq, dsk, dskB, hv, h, h'])

theorem write_run {v : Nat} {du : List (List UInt8)} {pe : List (Int × List UInt8)} {cr op : Int} {pv : AVal} {po : List Obj} (hp : Pend pe pv po) (hl : pe.length < 1000000000) {i : Nat} (hi : i < du.length) {b : List UInt8} (hb : b.length = 64) :
    ∃ v2, KJ 15 [.ref (0, 0) 0, .dat (.int .i64 i), .dat (.sl (b.map B))] (dsk v du cr op pv po) = some (.dat (.int .i64 0), dsk v du cr op (.rsl (0, 2) v2 2 0 (pe.length + 1)) [.arr 2 v2 false ((pe ++ [((i : Int), b)]).map pnd)]) := by
  have hv := valid_run (v := v) (du := du) (cr := cr) (op := op) hp
  have hge : ¬ du.length ≤ i := by omega
  rcases hp with ⟨rfl, rfl, rfl⟩ | ⟨v2, rfl, rfl⟩
  · refine ⟨0, callT_ev (fn := fn15) rfl rfl ?_⟩
    simp [dsk, dskB] at hv
    simp [runFun_eq, dsk, dskB, hv, hi, hge, hb]
  · refine ⟨v2 + 1, callT_ev (fn := fn15) rfl rfl ?_⟩
    have hr : (pe.length + 1) * 33 ≤ 1099511627776 := by omega
    simp [dsk, dskB] at hv
    simp [runFun_eq, dsk, dskB, hv, hi, hge, hb, hr]

/-- the pending writes, made -/
def syncS : List (Int × List UInt8) → List (List UInt8) → List (List UInt8)
  | [], du => du
  | w :: r, du => syncS r (du.set w.1.toNat w.2)

theorem syncS_len : ∀ (pe : List (Int × List UInt8)) (du : List (List UInt8)), (syncS pe du).length = du.length
  | [], du => rfl
  | w :: r, du => by rw [syncS, syncS_len r]; simp

def syncPost (v v2 n : Nat) (du : List (List UInt8)) (cr op : Int) (pe : List (Int × List UInt8)) (q : AEx × St) : Prop := q.1 = .exit 0 ∧
  hd [0] [] q.2 = some ⟨[(0, .ref (0,0) 0)], [((0,0), dskB (.rsl (0, 1) v 1 0 n) (.rsl (0, 2) v2 2 0 pe.length) cr op), ((0,1), .arr 1 v false (du.map Bs)), ((0,2), .arr 2 v2 false (pe.map pnd))]⟩

theorem sync_loop (v v2 n : Nat) (cr op : Int) : ∀ (rest pre : List (Int × List UInt8)) (s : St) (du : List (List UInt8)), (∀ w ∈ rest, 0 ≤ w.1 ∧ w.1 < n) → pre.length + rest.length < 1000000000 → du.length = n →
    hd [0, 11, 12, 13] [0, 11] s = some ⟨[(0, .ref (0,0) 0), (11, .rsl (0, 2) v2 2 0 (pre ++ rest).length), (12, .dat (.int .i64 (pre ++ rest).length)), (13, .dat (.int .i64 pre.length))], [((0,0), dskB (.rsl (0, 1) v 1 0 n) (.rsl (0, 2) v2 2 0 (pre ++ rest).length) cr op), ((0,1), .arr 1 v false (du.map Bs)), ((0,2), .arr 2 v2 false ((pre ++ rest).map pnd))]⟩ →
    Ev (loopLim (exec KJ l16_0) s) (syncPost v v2 n (syncS rest du) cr op (pre ++ rest)) := by
  intro rest
  induction rest with
  | nil =>
    intro pre s du h hi hl hs
    apply ev_loop
    simp [hs, syncS, syncPost]
  | cons w rest ih =>
    intro pre s du h hi hl hs
    apply ev_loop
    rw [List.length_cons] at hi
    obtain ⟨h1, h2⟩ := h w (by simp)
    have hx : Ix pre.length := by unfold Ix; omega
    obtain ⟨d, hd, hd'⟩ := get_at' du (i := w.1.toNat) (by omega)
    have e1 : pre ++ w :: rest = (pre ++ [w]) ++ rest := by simp
    rw [show syncS (w :: rest) du = syncS rest (du.set w.1.toNat w.2) from rfl]
    generalize hQ : syncPost v v2 n (syncS rest (du.set w.1.toNat w.2)) cr op (pre ++ w :: rest) = Q
    simp [hs, dskB, hx, h1, h2, hd, hd', hl]
    rw [← hQ, e1]
    refine Ev.mono (ih (pre ++ [w]) _ (du.set w.1.toNat w.2) (fun w h' => h w (by simp [h'])) (by simp; omega) (by simp [hl]) (by simp [dskB])) (fun _ h => h)

theorem sync_run (v v2 : Nat) (du : List (List UInt8)) (cr op : Int) (pe : List (Int × List UInt8)) (h : ∀ w ∈ pe, 0 ≤ w.1 ∧ w.1 < du.length) (hl : pe.length < 1000000000) :
    KJ 16 [.ref (0, 0) 0] (dsk v du cr op (.rsl (0, 2) v2 2 0 pe.length) [.arr 2 v2 false (pe.map pnd)]) = some (.dat (.int .i64 0), dsk v (syncS pe du) cr op .nils [.arr 2 v2 false (pe.map pnd)]) := by
  refine callT_ev (fn := fn16) rfl rfl ?_
  have hv := valid_run (v := v) (du := du) (cr := cr) (op := op) (.inr ⟨v2, rfl, rfl⟩ : Pend pe _ _)
  simp [dsk, dskB] at hv
  simp [runFun_eq, dsk, dskB, hv]
  simp only [ev_bnd_iff]
  refine Ev.mono (sync_loop v v2 du.length cr op pe [] _ du h (by simpa using hl) rfl (by simp [dskB])) ?_
  rintro ⟨_, s⟩ ⟨rfl, hs⟩
  simp at hs
  simp [hs, dskB, syncS_len]

theorem sync_none (v : Nat) (du : List (List UInt8)) (cr op : Int) : KJ 16 [.ref (0, 0) 0] (dsk v du cr op .nils []) = some (.dat (.int .i64 0), dsk v du cr op .nils []) := by
  refine callT_ev (fn := fn16) rfl rfl ?_
  have hv := valid_run (v := v) (du := du) (cr := cr) (op := op) (.inl ⟨rfl, rfl, rfl⟩)
  simp [dsk, dskB] at hv
  simp [runFun_eq, dsk, dskB, hv]
  simp only [ev_bnd_iff]
  apply ev_loop
  simp

end Go.Am

/- Walks: clones, new disks, contents, records. -/
set_option linter.unusedVariables false
set_option linter.unusedSimpArgs false
set_option maxRecDepth 10000
namespace Go.Am
open Go.Proofs

theorem callT_split {tbl : FuncId → Option AFun} {f : FuncId} {fn : AFun} (hf : tbl f = some fn) {i : Nat} (hs : fn.split = some i) {args : List AVal} {os : List Obj} {r : AVal × List Obj} (ha : args[i]? = some (.dat (.sl [])))
    (h1 : Ev (runFun (callT tbl) fn (args.set i (.emp true)) os) (· = r)) (h2 : Ev (runFun (callT tbl) fn (args.set i (.emp false)) os) (· = r)) : callT tbl f args os = some r :=
  callT_of hf (by simp only [runS, hs, ha, h1.eq, h2.eq, if_true])
theorem callT_split' {tbl : FuncId → Option AFun} {f : FuncId} {fn : AFun} (hf : tbl f = some fn) {i : Nat} (hs : fn.split = some i) {args : List AVal} {os : List Obj} {r : AVal × List Obj} {d : Dat} {l : List Dat} (ha : args[i]? = some (.dat (.sl (d :: l))))
    (h1 : Ev (runFun (callT tbl) fn args os) (· = r)) : callT tbl f args os = some r :=
  callT_of hf (by simp only [runS, hs, ha, h1.eq])

theorem clone_run (l : List UInt8) (hl : l.length < 100000000000) : KJ 38 [.dat (.sl (l.map B))] [] = some (.dat (.sl (l.map B)), []) := by
  cases l with
  | nil =>
    refine callT_split (fn := { fn38 with split := some 0 }) rfl (i := 0) rfl rfl ?_ ?_
    · simp [runFun_eq]
    · simp [runFun_eq]
  | cons b l =>
    refine callT_split' (fn := { fn38 with split := some 0 }) rfl (i := 0) rfl (d := B b) (l := l.map B) rfl ?_
    rw [List.length_cons] at hl
    have hr : (l.length + 1) * 2 ≤ 1099511627776 := by omega
    simp [runFun_eq, hr]

def listsEq : List (List UInt8) → List (List UInt8) → Bool
  | [], [] => true
  | a :: r, b :: s => a == b && listsEq r s
  | _, _ => false

theorem listsEq_iff : ∀ (a b : List (List UInt8)), listsEq a b = true ↔ a = b
  | [], [] => by simp [listsEq]
  | a :: r, b :: s => by simp [listsEq, listsEq_iff r s]
  | [], _ :: _ => by simp [listsEq]
  | _ :: _, [] => by simp [listsEq]


def listsPost (t : Bool) (q : AEx × St) : Prop := (q.1 = .ret ∧ t = false ∧ hd [4] [] q.2 = some ⟨[(4, .dat (.bool false))], []⟩) ∨ (q.1 = .exit 0 ∧ t = true ∧ hd [] [] q.2 = some ⟨[], []⟩)

theorem lists_loop : ∀ (ra rb pre : List (List UInt8)) (s : St), ra.length = rb.length → pre.length + ra.length < 1000000000 →
    hd [0, 1, 5] [] s = some ⟨[(0, .dat (.sl ((pre ++ ra).map Bs))), (1, .dat (.sl ((pre ++ rb).map Bs))), (5, .dat (.int .i64 pre.length))], []⟩ →
    Ev (loopLim (exec KJ l12_0) s) (listsPost (ra == rb)) := by
  intro ra
  induction ra with
  | nil =>
    intro rb pre s hl hn hs
    cases rb with
    | cons _ _ => simp at hl
    | nil =>
      apply ev_loop
      simp [hs, listsPost]
  | cons a ra ih =>
    intro rb pre s hl hn hs
    cases rb with
    | nil => simp at hl
    | cons b rb =>
      apply ev_loop
      rw [List.length_cons] at hn
      have hx : Ix pre.length := by unfold Ix; omega
      have h1 := same_run a b
      by_cases hab : a = b
      · subst hab
        have e : ((a :: ra) == (a :: rb)) = (ra == rb) := by simp
        rw [e]
        generalize hQ : listsPost (ra == rb) = Q
        simp [hs, hx, h1]
        rw [← hQ]
        refine Ev.mono (ih rb (pre ++ [a]) _ (by simpa using hl) (by simp; omega) (by simp)) (fun _ h => h)
      · have e : ((a :: ra) == (b :: rb)) = false := by simp [hab]
        rw [e]
        have hab' : (a == b) = false := by simp [hab]
        simp [hs, hx, h1, hab', listsPost]

theorem lists_run (a b : List (List UInt8)) (hl : a.length < 1000000000) : KJ 12 [.dat (.sl (a.map Bs)), .dat (.sl (b.map Bs))] [] = some (.dat (.bool (a == b)), []) := by
  refine callT_ev (fn := fn12) rfl rfl ?_
  by_cases h : a.length = b.length
  · simp [runFun_eq, h]
    simp only [ev_bnd_iff]
    refine Ev.mono (lists_loop a b [] _ h (by simpa using hl) (by simp)) ?_
    rintro ⟨x, s⟩ (⟨rfl, e, hs⟩ | ⟨rfl, e, hs⟩)
    · dsimp only at hs
      simp only [blkK, Ev_some, seqK, endK_hd hs, e]
      simp
    · simp at hs
      simp [hs, e]
  · have e : (a == b) = false := by
      apply Bool.eq_false_iff.2
      intro hab
      simp at hab
      exact h (by rw [hab])
    rw [e]
    simp [runFun_eq, h]

def zeroS : List UInt8 := List.replicate 64 0

def ndPost (n : Nat) (q : AEx × St) : Prop := q.1 = .exit 0 ∧ ∃ v,
  hd [4] [] q.2 = some ⟨[(4, .ref (5, 0) 0)], [((5, 0), dskB (.rsl (5, 1) v 1 0 n) .nils 0 0), ((5, 1), .arr 1 v false ((List.replicate n zeroS).map Bs))]⟩

theorem nd_loop (n : Nat) (hn : n ≤ 4096) : ∀ (m j v : Nat) (s : St), j + m = n → 1 ≤ j →
    hd [4, 13, 14] [4] s = some ⟨[(4, .ref (5, 0) 0), (13, .dat (.int .i64 n)), (14, .dat (.int .i64 j))], [((5, 0), dskB (.rsl (5, 1) v 1 0 j) .nils 0 0), ((5, 1), .arr 1 v false ((List.replicate j zeroS).map Bs))]⟩ →
    Ev (loopLim (exec KJ l9_0) s) (ndPost n) := by
  intro m
  induction m with
  | zero =>
    intro j v s hj h1 hs
    apply ev_loop
    have : j = n := by omega
    subst this
    simp [hs, ndPost, dskB]
  | succ m ih =>
    intro j v s hj h1 hs
    apply ev_loop
    have hlt : j < n := by omega
    have hx : Ix j := by unfold Ix; omega
    have hr : (j + 1) * 25 ≤ 1099511627776 := by omega
    generalize hQ : ndPost n = Q
    simp [hs, dskB, hlt, hx, hr, -List.reduceReplicate]
    rw [← hQ]
    refine Ev.mono (ih (j + 1) (v + 1) _ (by omega) (by omega) ?_) (fun _ h => h)
    simp [dskB, -List.reduceReplicate, List.replicate_succ', zeroS]

theorem newDisk_run (n : Nat) (h1 : 1 ≤ n) (h2 : n ≤ 4096) : ∃ v, KJ 9 [.dat (.int .i64 n)] [] = some (.tup [.ref (0, 0) 0, .dat (.int .i64 0)], dsk v (List.replicate n zeroS) 0 0 .nils []) := by
  have h3 : ¬ (n : Int) < 1 := by omega
  have h3' : ¬ n < 1 := by omega
  have h4 : ¬ (4096 : Int) < n := by omega
  have h5 : 0 < n := by omega
  have key : Ev (runFun KJ fn9 [.dat (.int .i64 n)] []) fun r => ∃ v, r = (.tup [.ref (0, 0) 0, .dat (.int .i64 0)], dsk v (List.replicate n zeroS) 0 0 .nils []) := by
    simp [runFun_eq, h3, h4, h5]
    simp only [ev_bnd_iff]
    apply ev_loop
    generalize hQ : ndPost n = Q
    simp [h5, -List.reduceReplicate]
    refine Ev.mono (nd_loop n h2 (n - 1) 1 0 _ (by omega) (by omega) (by simp [dskB, zeroS, -List.reduceReplicate])) ?_
    rintro ⟨_, s⟩ ⟨rfl, v, hs⟩
    simp at hs
    simp [hs, dskB, dsk]
  obtain ⟨r, hr, v, rfl⟩ := key
  exact ⟨v, callT_ev (fn := fn9) rfl rfl ⟨_, hr, rfl⟩⟩

end Go.Am

/- Walks: contents, records. -/
set_option linter.unusedVariables false
set_option linter.unusedSimpArgs false
set_option maxRecDepth 10000
namespace Go.Am
open Go.Proofs

def ctsPost (v : Nat) (du : List (List UInt8)) (cr op : Int) (n : Nat) (all : List (List UInt8)) (q : AEx × St) : Prop := q.1 = .exit 0 ∧ ∃ v',
  hd [6] [] q.2 = some ⟨[(6, .rsl (7, 0) v' 1 0 n)], [((0, 0), dskB (.rsl (0, 1) v 1 0 du.length) .nils cr op), ((0, 1), .arr 1 v false (du.map Bs)), ((7, 0), .arr 1 v' false (all.map Bs))]⟩

theorem cts_loop (v : Nat) (du : List (List UInt8)) (cr op : Int) (n : Nat) (hn : n ≤ du.length) (h64 : ∀ d ∈ du, d.length = 64) (hl : du.length < 1000000) : ∀ (m j v' : Nat) (s : St), j + m = n →
    hd [0, 1, 6, 7] [0, 6] s = some ⟨[(0, .ref (0, 0) 0), (1, .dat (.int .i64 n)), (6, .rsl (7, 0) v' 1 0 j), (7, .dat (.int .i64 j))], [((0, 0), dskB (.rsl (0, 1) v 1 0 du.length) .nils cr op), ((0, 1), .arr 1 v false (du.map Bs)), ((7, 0), .arr 1 v' false ((du.take j).map Bs))]⟩ →
    Ev (loopLim (exec KJ l11_0) s) (ctsPost v du cr op n (du.take n)) := by
  intro m
  induction m with
  | zero =>
    intro j v' s hj hs
    apply ev_loop
    have : j = n := by omega
    subst this
    simp [hs, ctsPost]
  | succ m ih =>
    intro j v' s hj hs
    apply ev_loop
    have hlt : j < n := by omega
    have hx : Ix j := by unfold Ix; omega
    have hr : (j + 1) * 25 ≤ 1099511627776 := by omega
    obtain ⟨d, hd, hd'⟩ := get_at' du (i := j) (by omega)
    have hread := read_run (v := v) (du := du) (cr := cr) (op := op) (pe := []) (.inl ⟨rfl, rfl, rfl⟩) (by simp) h64 (by simp) (i := j) (by omega)
    have hc : cont du [] j = d := by simp [cont, lastW, hd]
    rw [hc] at hread
    have hdl := h64 d (List.mem_of_getElem? hd)
    have hml : min j du.length = j := by omega
    generalize hQ : ctsPost v du cr op n (du.take n) = Q
    simp [dsk, dskB] at hread
    simp [hs, dskB, hlt, hx, hr, hread, hdl, hml]
    rw [← hQ]
    refine Ev.mono (ih (j + 1) (v' + 1) _ (by omega) ?_) (fun _ h => h)
    simp [dskB, List.take_add_one, hd]

theorem contents_run (v : Nat) (du : List (List UInt8)) (cr op : Int) (n : Nat) (hn : n = du.length) (h64 : ∀ d ∈ du, d.length = 64) (hl : du.length < 1000000) :
    KJ 11 [.ref (0, 0) 0, .dat (.int .i64 n)] (dsk v du cr op .nils []) = some (.tup [.dat (.sl (du.map Bs)), .dat (.bool true)], dsk v du cr op .nils []) := by
  refine callT_ev (fn := fn11) rfl rfl ?_
  simp [runFun_eq, dsk, dskB]
  simp only [ev_bnd_iff]
  refine Ev.mono (cts_loop v du cr op n (by omega) h64 hl n 0 0 _ (by omega) (by simp [dskB])) ?_
  rintro ⟨_, s⟩ ⟨rfl, v', hs⟩
  have ht : du.take n = du := by rw [hn]; exact List.take_length
  rw [ht] at hs
  simp at hs
  simp [hs, dskB, hn]
end Go.Am
