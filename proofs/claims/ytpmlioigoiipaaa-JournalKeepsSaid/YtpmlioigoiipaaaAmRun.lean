/- The abstract machine: code is sound. -/
import Derived.Test.YtpmlioigoiipaaaAmDraw
import Derived.LoopN
import Derived.Scope
set_option linter.unusedVariables false
set_option linter.unusedSimpArgs false
namespace Go.Am

theorem gE_restrict (live : List Nat) (env : Env) (t : Nat) : gE (restrict live env) t = if t ∈ live then gE env t else .undef := by
  induction live with
  | nil => simp [restrict, gE]
  | cons x r ih =>
    simp only [restrict, List.map_cons, gE] at ih ⊢
    by_cases e : x = t
    · subst e; simp
    · have e' : ¬ t = x := fun h => e h.symm
      simp only [e, if_false, List.mem_cons, e', false_or]
      exact ih

theorem gO_zip : ∀ {ids : List Id} {os : List Obj}, ids.length = os.length → ∀ (i : Id), gO (ids.zip os) i = if i ∈ ids then os[indexIn ids i]? else none
  | [], os, h, i => by simp [gO]
  | j :: r, [], h, i => by simp at h
  | j :: r, o :: os, h, i => by
    simp only [List.zip_cons_cons, gO, indexIn]
    by_cases e : j = i
    · subst e; simp
    · have e' : ¬ i = j := fun x => e x.symm
      rw [if_neg e, gO_zip (by simpa using h) i]
      simp only [List.mem_cons, e', false_or, e, if_false, List.getElem?_cons_succ]

theorem gE_map (f : AVal → AVal) (hf : f .undef = .undef) : ∀ (env : Env) (t : Nat), gE (env.map fun p => (p.1, f p.2)) t = f (gE env t)
  | [], t => hf.symm
  | (x, v) :: r, t => by
    simp only [List.map_cons, gE]
    split
    · rfl
    · exact gE_map f hf r t

theorem gE_mem : ∀ {env : Env} {t : Nat}, gE env t = .undef ∨ ∃ p ∈ env, p.2 = gE env t
  | [], t => .inl rfl
  | (x, v) :: r, t => by
    simp only [gE]
    split
    · exact .inr ⟨(x, v), by simp, rfl⟩
    · rcases gE_mem (env := r) (t := t) with h | ⟨p, h1, h2⟩
      · exact .inl h
      · exact .inr ⟨p, by simp [h1], h2⟩

theorem gO_mem : ∀ {s : Store} {i : Id} {o : Obj}, gO s i = some o → (i, o) ∈ s
  | [], i, o, h => by simp [gO] at h
  | (j, o') :: r, i, o, h => by
    simp only [gO] at h
    split at h
    · rename_i e
      cases h
      subst e
      simp
    · simp [gO_mem h]

theorem obj_ren_id (o : Obj) : o.ren (fun i => i) = o := by
  cases o <;> simp [Obj.ren, renL_id]

section
variable {P : Program} {B : Base} {C0 : Ctx} {K : Orc} {n : Nat}

theorem Good.restrict {C : Ctx} {s : St} {a : Act} (h : Good B C0 C n s a) (live : List Nat) : Good B C0 C n ⟨Am.restrict live s.env, s.objs⟩ a := by
  refine ⟨h.ρ, h.inv, fun t => ?_, h.size, h.ext, h.defers⟩
  simp only [gE_restrict]
  split
  · exact h.env t
  · simp [RepA]

theorem Good.drop {C : Ctx} {s s' : St} {a : Act} (h : Good B C0 C n s a) {drop : List Nat} (hd : dropE drop s = some s') : ∃ C', C'.w = C.w ∧ Good B C0 C' n s' a := by
  unfold dropE at hd
  split at hd
  · simp only [Option.some.injEq] at hd; subst hd; exact ⟨C, rfl, h⟩
  · split at hd
    · cases hd
    · rename_i nm hnm
      split at hd
      · cases hd
      · rename_i order hcol
        split at hd
        · cases hd
        · rename_i os hos
          split at hd
          · rename_i hchk
            obtain ⟨hnd, hfix⟩ := hchk
            simp only [Option.some.injEq] at hd
            subst hd
            generalize lookN nm = f at hnd hfix
            rw [← h.ρ] at hcol hos
            obtain ⟨r1, r2, r3, r4, _⟩ := collect_spec C.ρ 64 _ [] order hcol (by simp) (by simp)
            obtain ⟨g1, g2⟩ := gather_spec hos
            have hlen : (order.map f).length = (os.map (Obj.ren f)).length := by simp [g1]
            have hgo := gO_zip hlen
            have hidx : ∀ {n : Nat} {i : Id}, order[n]? = some i → indexIn (order.map f) (f i) = n := by
              intro n i hi
              exact indexIn_of hnd (by simp [hi])
            let C' : Ctx := { C with μ := fun j => C.μ ((order[indexIn (order.map f) j]?).getD (0, 0)), ρ := gO ((order.map f).zip (os.map (Obj.ren f))) }
            have fwd : ∀ i, i ∈ order → C'.ρ (f i) = (C.ρ i).map (Obj.ren f) ∧ C'.μ (f i) = C.μ i := by
              intro i hi
              obtain ⟨n, hn⟩ := List.getElem?_of_mem hi
              refine ⟨?_, ?_⟩
              · simp only [C', hgo, List.mem_map_of_mem hi, if_true, hidx hn, List.getElem?_map, g2 n i hn]
              · simp only [C', hidx hn, hn, Option.getD_some]
            have back : ∀ j o, C'.ρ j = some o → ∃ i o1, i ∈ order ∧ f i = j ∧ C.ρ i = some o1 ∧ o = o1.ren f ∧ C'.μ j = C.μ i := by
              intro j o ho
              have ho' := ho
              simp only [C', hgo] at ho
              split at ho
              · rename_i hj
                obtain ⟨i, hi, rfl⟩ := List.mem_map.1 hj
                obtain ⟨q1, q2⟩ := fwd i hi
                rw [q1] at ho'
                obtain ⟨o1, h1, h2⟩ := Option.map_eq_some_iff.1 ho'
                exact ⟨i, o1, hi, rfl, h1, h2.symm, q2⟩
              · cases ho
            have hext : Ext f (fun i => i ∈ order) C C' := by
              refine ⟨fun _ _ _ h => h, fun id L hid hb => ?_, fun id A hid ha => ?_⟩
              · obtain ⟨q1, q2⟩ := fwd id hid
                unfold boxAt at hb ⊢
                rw [q1, q2]
                cases e : C.ρ id with
                | none => simp [e] at hb
                | some ob => cases ob <;> simp [e] at hb; simpa [Obj.ren] using hb
              · obtain ⟨q1, q2⟩ := fwd id hid
                refine ⟨A, ?_, Nat.le_refl _, fun _ => ⟨rfl, rfl, Nat.le_refl _⟩⟩
                unfold arrAt at ha ⊢
                rw [q1, q2]
                cases e : C.ρ id with
                | none => simp [e] at ha
                | some ob =>
                  cases ob with
                  | box cs => simp [e] at ha
                  | arr sz ver fz es => simpa [e, Obj.ren] using ha
                  | rarr ver es => simpa [e, Obj.ren, (renL_props _ es).1] using ha
            refine ⟨C', rfl, rfl, ?_, fun t => ?_, h.size, ?_, h.defers⟩
            · refine ⟨fun j o ho => ?_, fun j j' o o' ho ho' hw hw' hne => ?_, fun j o ho hw => ?_, h.inv.kept, h.inv.Fw, h.inv.Fsub, h.inv.Fnew⟩
              · obtain ⟨i, o1, b1, b2, b3, b4, b5⟩ := back j o ho
                rw [b4, b5]
                obtain ⟨o1', e1, e2⟩ := r4 i b1
                rw [b3] at e1
                cases e1
                exact (h.inv.objs i o1 b3).ren hext rfl rfl e2
              · obtain ⟨i, o1, b1, b2, b3, b4, b5⟩ := back j o ho
                obtain ⟨i', o1', b1', b2', b3', b4', b5'⟩ := back j' o' ho'
                rw [b5, b5']
                rw [b4, own_ren] at hw
                rw [b4', own_ren] at hw'
                exact h.inv.disj i i' o1 o1' b3 b3' hw hw' (fun e => hne (by rw [← b2, ← b2', e]))
              · obtain ⟨i, o1, b1, b2, b3, b4, b5⟩ := back j o ho
                rw [b5]
                rw [b4, own_ren] at hw
                exact h.inv.own i o1 b3 hw
            · have hm : ∀ i ∈ (gE s.env t).ids, i ∈ order := by
                intro i hi
                refine r3 i (List.mem_append.2 (.inr ?_))
                rcases gE_mem (env := s.env) (t := t) with e | ⟨p, h1, h2⟩
                · rw [e] at hi; simp [AVal.ids] at hi
                · obtain ⟨k, hk⟩ := List.getElem?_of_mem (List.mem_map_of_mem (f := fun x : Nat × AVal => x.2) h1)
                  exact idsL_get hk i (by rw [h2]; exact hi)
              have := RepA.ext hext (gE s.env t) _ hm (h.env t)
              have e := gE_map (AVal.ren f) rfl s.env t
              simp only [e]
              exact this
            · have hin : ∀ id o, id.1 = 0 → C.ρ id = some o → id ∈ order ∧ f id = id := by
                intro id o h0 ho
                have hmem : id ∈ order := by
                  refine r3 id (List.mem_append.2 (.inl ?_))
                  rw [h.ρ] at ho
                  rw [List.mem_filter]
                  exact ⟨List.mem_map_of_mem (f := fun x : Id × Obj => x.1) (gO_mem ho), by simpa using h0⟩
                refine ⟨hmem, ?_⟩
                have := List.all_eq_true.1 hfix id hmem
                simpa [h0] using this
              refine ⟨h.ext.F, fun id L hid hb => ?_, fun id A hid ha => ?_⟩
              · have h1 := h.ext.box id L hid hb
                have hex : ∃ o, C.ρ id = some o := by
                  unfold boxAt at h1
                  cases e : C.ρ id with
                  | none => simp [e] at h1
                  | some o => exact ⟨o, rfl⟩
                obtain ⟨o, ho⟩ := hex
                obtain ⟨q1, q2⟩ := hin id o hid ho
                have := hext.box id L q1 h1
                rwa [q2] at this
              · obtain ⟨A', h1, h2, h3⟩ := h.ext.arr id A hid ha
                have hex : ∃ o, C.ρ id = some o := by
                  unfold arrAt at h1
                  cases e : C.ρ id with
                  | none => simp [e] at h1
                  | some o => exact ⟨o, rfl⟩
                obtain ⟨o, ho⟩ := hex
                obtain ⟨q1, q2⟩ := hin id o hid ho
                obtain ⟨A'', h4, h5, h6⟩ := hext.arr id A' q1 h1
                rw [q2] at h4
                refine ⟨A'', h4, Nat.le_trans h2 h5, fun e => ?_⟩
                obtain ⟨a1, a2, a3⟩ := h3 (by omega)
                obtain ⟨b1, b2, b3⟩ := h6 (by omega)
                exact ⟨by rw [b1, a1], by rw [b2, a2], by omega⟩
          · cases hd

/-- A REGION. -/
theorem reg_sound (hS : SoundK P K) {an : Ann} {id : Nat} {ops : Array Oper} {draw : Bool} {r : AReg} (hc : cReg P n an id ops draw = some r) {s s' : St} (h : runReg K r s = some s') {C : Ctx} {a : Act} (hG : Good B C0 C n s a)
    {Q : Exit → Act → World → Prop} (hQ : ∀ a' C', Good B C0 C' n s' a' → Q .normal a' C'.w) : (Code.region id ops draw).wp P Q a C.w := by
  unfold cReg at hc
  split at hc
  · rename_i ra l hra hl
    unfold runReg at h
    split at h
    · cases h
    · rename_i s1 hdr
      split at h
      · cases h
      · rename_i s2 lg hrun
        split at h
        · rename_i hpairs
          simp only [Option.some.injEq] at h
          subst h
          have hG1 : ∃ C', C'.w = C.w ∧ Good B C0 C' n s1 a := by
            exact (hG.restrict r.live).drop hdr
          obtain ⟨C1, hw1, hG1⟩ := hG1
          rw [← hw1]
          cases draw with
          | false =>
            simp only [Bool.false_eq_true, if_false, Option.some.injEq] at hc
            subst hc
            refine wp_region ?_
            rw [List.range_eq_range']
            exact seq_sound hS hl ops.size 0 s1 [] s2 lg C1 a (by omega) (by simpa using hrun) hG1.f fun a' C' hG' => hQ a' C' hG'.good
          | true =>
            simp only [if_true] at hc
            split at hc
            · rename_i hchk
              simp only [Bool.and_eq_true, Bool.not_eq_true'] at hchk
              obtain ⟨⟨hm, he⟩, hcl⟩ := hchk
              simp only [Option.some.injEq] at hc
              subst hc
              generalize hps : pairsOf ops.toList (l.map (·.1)) (befs ops.toList []) ops.size = ps at hcl hrun hpairs
              obtain ⟨hlen, hget⟩ := cOpers_get hl
              obtain ⟨alen, aget⟩ := aosOf_get (ps := ps) (i := 0) hlen
              obtain ⟨outs, lgs, r1, r2, r3, r4, r5, r6⟩ := runOps_spec _ _ _ _ _ _ hrun
              simp only [List.nil_append] at r2
              subst r2
              have aoAt : ∀ i o, ops[i]? = some o → ∃ k gd, l[i]? = some (k, gd) ∧ (aosOf ps 0 ops.toList l)[i]? = some (⟨o.dst, k, gd, ps.any fun p => p.1 == i || p.2 == i⟩ : AO) ∧ cOper P n ((annOf an id).elim [] (·.marks)) ops.toList i o = some (k, gd) := by
                intro i o ho
                have ho' : ops.toList[i]? = some o := by simpa using ho
                obtain ⟨k, gd, h1, h2⟩ := hget i o ho'
                have := aget i o k gd ho' h1
                rw [Nat.zero_add] at this h2
                exact ⟨k, gd, h1, this, h2⟩
              have H : Drawn K P n ((annOf an id).elim [] (·.marks)) ops (aosOf ps 0 ops.toList l) outs (gE s1.env) (gO s1.objs) := by
                refine ⟨by rw [alen]; simp, fun i o ho => ?_, fun j o ho => (r4 j o ho).1, fun i o ho e hee => ?_, fun i j hij hj => clashes_spec hcl i j hij hj, fun i j hij hj => ?_⟩
                · obtain ⟨k, gd, _, h2, h3⟩ := aoAt i o ho
                  exact ⟨k, gd, _, h2, h3⟩
                · have := edgesOk_spec he i o (by simpa using ho) e hee
                  omega
                · have hio : ops[i]? = some (ops[i]'(by omega)) := by simp
                  have hjo : ops[j]? = some ops[j] := by simp [hj]
                  obtain ⟨k1, g1, a1, a2, a3⟩ := aoAt i _ hio
                  obtain ⟨k2, g2, b1, b2, b3⟩ := aoAt j _ hjo
                  rcases pairsOf_spec (ops := ops.toList) (ks := l.map (·.1)) (bs := befs ops.toList []) i j hij hj with h | h | h
                  · exact .inl h
                  · right
                    rw [hps] at h
                    intro a b ha hb
                    right
                    have hpo := (List.all_eq_true.1 hpairs) (i, j) h
                    have la := (r4 i a ha).2 (by
                      rw [a2] at ha
                      cases ha
                      exact List.any_eq_true.2 ⟨(i, j), h, by simp⟩)
                    have lb := (r4 j b hb).2 (by
                      rw [b2] at hb
                      cases hb
                      exact List.any_eq_true.2 ⟨(i, j), h, by simp⟩)
                    rw [Nat.zero_add] at la lb
                    simp only [pairOk, la, lb, Bool.and_eq_true, Bool.not_eq_true'] at hpo
                    obtain ⟨⟨p1, p2⟩, p3⟩ := hpo
                    refine ⟨fun x hx hxk => ?_, fun x hx hxk => ?_⟩
                    · rcases hx with hx | hx
                      · rw [meets_mem hx hxk] at p3; cases p3
                      · rw [meets_mem hx hxk] at p2; cases p2
                    · rcases hx with hx | hx
                      · rw [meets_mem hxk hx] at p1; cases p1
                      · rw [meets_mem hxk hx] at p2; cases p2
                  · right
                    intro a b ha hb
                    left
                    rw [a2] at ha
                    rw [b2] at hb
                    cases ha
                    cases hb
                    exact h k1 k2 (by simp [a1]) (by simp [b1])
              refine wp_region_any hm ?_
              have hG2 : GoodF B C0 { C1 with w := C1.w.drew } n (gE s1.env) (gO s1.objs) a := by
                obtain ⟨hi, hg⟩ := hG1.inv.drew
                exact ⟨hG1.ρ, hi, fun t => (hG1.env t).grow hg, hG1.size, hG1.ext.thenGrow hg, hG1.defers⟩
              have e0 : ∀ N, gM (aosOf ps 0 ops.toList l) outs (fun i => (Array.replicate ops.size false).getD i false) (gE s1.env) N = gE s1.env := by
                intro N
                induction N with
                | zero => rfl
                | succ N ih =>
                  funext t
                  have hf : (Array.replicate ops.size false).getD N false = false := by
                    simp only [Array.getD_eq_getD_getElem?, Array.getElem?_replicate]
                    split <;> rfl
                  simp only [gM, hf, Bool.false_eq_true, false_and, if_false, ih]
              have e1 : ∀ N, rM outs (fun i => (Array.replicate ops.size false).getD i false) (gO s1.objs) N = gO s1.objs := by
                intro N
                induction N with
                | zero => rfl
                | succ N ih =>
                  have hf : (Array.replicate ops.size false).getD N false = false := by
                    simp only [Array.getD_eq_getD_getElem?, Array.getElem?_replicate]
                    split <;> rfl
                  simp only [rM, hf, Bool.false_eq_true, if_false, ih]
              have ea : (aosOf ps 0 ops.toList l).length = ops.size := by rw [alen]; simp
              refine any_sound hS H (Q := Q) (fun a' C' hG' => hQ a' C' ?_) ops.size (Array.replicate ops.size false) a { C1 with w := C1.w.drew } (by simp) ?_ (by rw [e0, e1]; exact hG2) (Nat.le_trans List.countP_le_length (by simp))
              · rw [ea] at r5 r6
                rw [← r5, ← r6] at hG'
                exact hG'.good
              · intro i o ho hf
                exfalso
                simp only [Array.getD_eq_getD_getElem?, Array.getElem?_replicate] at hf
                split at hf <;> cases hf
            · cases hc
        · cases h
  · cases hc

def toExit : AEx → Exit
  | .normal => .normal
  | .exit id => .exit id
  | .ret => .ret

/-- CODE. -/
theorem code_sound (hS : SoundK P K) {an : Ann} : ∀ {c : Code} {ac : AC}, cCode P n an c = some ac → ∀ {s s' : St} {x : AEx}, exec K ac s = some (x, s') → ∀ {C : Ctx} {a : Act}, Good B C0 C n s a →
    ∀ {Q : Exit → Act → World → Prop}, (∀ a' C', Good B C0 C' n s' a' → Q (toExit x) a' C'.w) → c.wp P Q a C.w := by
  intro c
  induction c with
  | skip =>
    intro ac hc s s' x h C a hG Q hQ
    simp only [cCode, Option.some.injEq] at hc
    subst hc
    simp only [exec, Option.some.injEq, Prod.mk.injEq] at h
    obtain ⟨rfl, rfl⟩ := h
    exact wp_skip (hQ a C hG)
  | region id ops draw =>
    intro ac hc s s' x h C a hG Q hQ
    simp only [cCode] at hc
    cases hr : cReg P n an id ops draw with
    | none => rw [hr] at hc; cases hc
    | some r =>
      rw [hr] at hc
      simp only [Option.map_some, Option.some.injEq] at hc
      subst hc
      simp only [exec] at h
      split at h
      · rename_i s1 h1
        simp only [Option.some.injEq, Prod.mk.injEq] at h
        obtain ⟨rfl, rfl⟩ := h
        exact reg_sound hS hr h1 hG hQ
      · cases h
  | seq c1 c2 ih1 ih2 =>
    intro ac hc s s' x h C a hG Q hQ
    simp only [cCode] at hc
    split at hc
    · rename_i a1 a2 h1 h2
      simp only [Option.some.injEq] at hc
      subst hc
      simp only [exec] at h
      refine wp_seq ?_
      split at h
      · rename_i s1 hs1
        refine ih1 h1 hs1 hG fun a' C' hG' => ?_
        exact ih2 h2 h hG' hQ
      · rename_i hne
        refine ih1 h1 h hG fun a' C' hG' => ?_
        cases x with
        | normal => exact absurd h (hne s')
        | exit id => exact hQ a' C' hG'
        | ret => exact hQ a' C' hG'
    · cases hc
  | cond cx c1 c2 ih1 ih2 =>
    intro ac hc s s' x h C a hG Q hQ
    simp only [cCode] at hc
    split at hc
    · rename_i ax a1 a2 hx h1 h2
      simp only [Option.some.injEq] at hc
      subst hc
      simp only [exec] at h
      split at h
      · rename_i t ht
        have hr := cX_rep hG.env hx
        rw [ht] at hr
        refine wp_cond (rep_bool hr) ?_
        cases t with
        | true => exact ih1 h1 h hG hQ
        | false => exact ih2 h2 h hG hQ
      · cases h
    · cases hc
  | block id c ih =>
    intro ac hc s s' x h C a hG Q hQ
    simp only [cCode] at hc
    cases hr : cCode P n an c with
    | none => rw [hr] at hc; cases hc
    | some r =>
      rw [hr] at hc
      simp only [Option.map_some, Option.some.injEq] at hc
      subst hc
      simp only [exec] at h
      refine wp_block ?_
      split at h
      · rename_i id' s1 h1
        refine ih hr h1 hG fun a' C' hG' => ?_
        simp only [toExit, Exit.inBlock]
        split at h
        · rename_i e
          simp only [Option.some.injEq, Prod.mk.injEq] at h
          obtain ⟨rfl, rfl⟩ := h
          rw [if_pos e]
          exact hQ a' C' hG'
        · rename_i e
          simp only [Option.some.injEq, Prod.mk.injEq] at h
          obtain ⟨rfl, rfl⟩ := h
          rw [if_neg e]
          exact hQ a' C' hG'
      · rename_i hne
        refine ih hr h hG fun a' C' hG' => ?_
        cases x with
        | normal => exact hQ a' C' hG'
        | exit id' => exact absurd h (hne id' s')
        | ret => exact hQ a' C' hG'
  | loop c ih =>
    intro ac hc s s' x h C a hG Q hQ
    simp only [cCode] at hc
    cases hr : cCode P n an c with
    | none => rw [hr] at hc; cases hc
    | some r =>
      rw [hr] at hc
      simp only [Option.map_some, Option.some.injEq] at hc
      subst hc
      simp only [exec, loopLim] at h
      split at h
      · rename_i hex
        simp only [Option.some.injEq] at h
        have hN := Classical.choose_spec hex
        rw [h] at hN
        obtain ⟨N, hN⟩ := hN
        refine wp_loop_rounds N ?_
        clear hex h
        induction N generalizing s C a with
        | zero => simp [iter] at hN
        | succ N ihN =>
          rw [rounds_succ]
          simp only [iter] at hN
          split at hN
          · cases hN
          · rename_i s1 h1
            refine ih hr h1 hG fun a' C' hG' => ?_
            exact ihN hG' hN
          · rename_i p hne h1
            simp only [Option.some.injEq] at hN
            subst hN
            refine ih hr h1 hG fun a' C' hG' => ?_
            cases x with
            | normal => exact (hne s' rfl).elim
            | exit id => exact hQ a' C' hG'
            | ret => exact hQ a' C' hG'
      · cases h
  | exit id =>
    intro ac hc s s' x h C a hG Q hQ
    simp only [cCode, Option.some.injEq] at hc
    subst hc
    simp only [exec, Option.some.injEq, Prod.mk.injEq] at h
    obtain ⟨rfl, rfl⟩ := h
    exact wp_exit (hQ a C hG)
  | ret =>
    intro ac hc s s' x h C a hG Q hQ
    simp only [cCode, Option.some.injEq] at hc
    subst hc
    simp only [exec, Option.some.injEq, Prod.mk.injEq] at h
    obtain ⟨rfl, rfl⟩ := h
    exact wp_ret (hQ a C hG)
  | label l =>
    intro ac hc s s' x h C a hG Q hQ
    simp only [cCode, Option.some.injEq] at hc
    subst hc
    simp only [exec, Option.some.injEq, Prod.mk.injEq] at h
    obtain ⟨rfl, rfl⟩ := h
    exact wp_label (hQ a C hG)
  | scope c ih =>
    intro ac hc s s' x h C a hG Q hQ
    simp only [cCode] at hc
    refine wp_scope_straight (ih hc h hG fun a' C' hG' => ?_)
    cases x <;> exact hQ a' C' hG'
  | _ => intro ac hc; simp [cCode] at hc

end
end Go.Am
