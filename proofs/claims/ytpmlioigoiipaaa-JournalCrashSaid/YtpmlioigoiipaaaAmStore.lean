/- The abstract machine: the operations that write memory. -/
import Derived.Test.YtpmlioigoiipaaaAmWrite
set_option linter.unusedVariables false
set_option linter.unusedSimpArgs false
namespace Go.Am

theorem splice_get {α : Type} {l v : List α} {off : Nat} (h : off + v.length ≤ l.length) (j : Nat) :
    (splice l off v)[j]? = if j < off then l[j]? else if j < off + v.length then v[j - off]? else l[j]? := by
  unfold splice
  have e1 : (l.take off).length = off := by simp; omega
  by_cases h1 : j < off
  · rw [if_pos h1, List.append_assoc, List.getElem?_append_left (by omega), List.getElem?_take, if_pos h1]
  · rw [if_neg h1]
    by_cases h2 : j < off + v.length
    · rw [if_pos h2, List.getElem?_append_left (by simp [e1]; omega), List.getElem?_append_right (by omega), e1]
    · rw [if_neg h2, List.getElem?_append_right (by simp [e1]; omega), List.getElem?_drop]
      congr 1
      simp [e1]; omega

section
variable {P : Program} {o : Oper} {a : Act} {B : Base} {C : Ctx} {g : Nat → AVal}

theorem setCells_cell {w : World} {b o : Nat} {vs : List Value} (hc : ∀ j, j < vs.length → ∃ v, w.cell? ⟨b, o + j, none⟩ = some v) (x : Nat) :
    (w.setCells b o vs).cell? ⟨b, x, none⟩ = if o ≤ x ∧ x < o + vs.length then vs[x - o]? else w.cell? ⟨b, x, none⟩ := by
  by_cases h : o ≤ x ∧ x < o + vs.length
  · rw [if_pos h]
    have hlt : x - o < vs.length := by omega
    have := World.cell?_setCells_in b vs o w (fun j hj => by obtain ⟨v, hv⟩ := hc j hj; simp [hv]) (x - o) hlt
    rw [show o + (x - o) = x by omega] at this
    rw [this, List.getElem?_eq_getElem hlt]
  · rw [if_neg h]
    exact World.cell?_setCells_out b vs o w ⟨b, x, none⟩ (fun _ _ => by simp; omega)

/-- cells of one object are written -/
theorem Inv.write (hI : Inv B C) {id : Id} {ob ob' : Obj} (h : C.ρ id = some ob) (how : ob.own = true) (off : Nat) (vs : List Value) (hfit : off + vs.length ≤ (C.μ id).n)
    (hkind : match ob, ob' with
      | .box _, .box _ => True
      | .arr sz v _ es, .arr sz' v' _ es' => v ≤ v' ∧ (v = v' → sz = sz' ∧ es.length ≤ es'.length)
      | .rarr v es, .rarr v' es' => v ≤ v' ∧ (v = v' → es.length ≤ es'.length)
      | _, _ => False)
    (hobj : ∀ (C' : Ctx), C'.w = C.w.setCells (C.μ id).b ((C.μ id).o + off) vs → C'.F = C.F → Grow C C' → OwnOK C' (C.μ id) → ObjOK C' (C.μ id) ob') :
    let C' : Ctx := { w := C.w.setCells (C.μ id).b ((C.μ id).o + off) vs, F := C.F, μ := C.μ, ρ := updL C.ρ [(id, ob')] }
    Inv B C' ∧ Grow C C' := by
  intro C'
  have hown := (hI.objs id ob h).ownOK how
  have hg : Grow C C' := by
    refine ⟨fun _ _ _ h => h, fun i L _ hb => ?_, fun i A _ ha => ?_⟩
    · by_cases e : id = i
      · subst e
        cases ob <;> simp [boxAt, h] at hb
        case box cs => cases ob' <;> simp at hkind; simpa [boxAt, C', updL] using hb
      · simpa [boxAt, C', updL, e] using hb
    · by_cases e : id = i
      · subst e
        cases ob with
        | box cs => simp [arrAt, h] at ha
        | arr sz v fz es =>
          simp only [arrAt, h, Option.some.injEq] at ha
          subst ha
          cases ob' with
          | arr sz' v' fz' es' => exact ⟨⟨v', sz', es'.length, C.μ id⟩, by simp [arrAt, C', updL], hkind.1, fun e => ⟨(hkind.2 e).1.symm, rfl, (hkind.2 e).2⟩⟩
          | box cs => exact hkind.elim
          | rarr v' es' => exact hkind.elim
        | rarr v es =>
          simp only [arrAt, h, Option.some.injEq] at ha
          subst ha
          cases ob' with
          | rarr v' es' => exact ⟨⟨v', 1, es'.length, C.μ id⟩, by simp [arrAt, C', updL], hkind.1, fun e => ⟨rfl, rfl, hkind.2 e⟩⟩
          | box cs => exact hkind.elim
          | arr sz' v' fz' es' => exact hkind.elim
      · exact ⟨A, by simpa [arrAt, C', updL, e] using ha, Nat.le_refl _, fun _ => ⟨rfl, rfl, Nat.le_refl _⟩⟩
  refine ⟨?_, hg⟩
  let T : Cells := fun b x => b = (C.μ id).b ∧ (C.μ id).o + off ≤ x ∧ x < (C.μ id).o + off + vs.length
  refine hI.step id T ?_ ?_ (fun b o v hv => .inl hv) (fun b o v hv e => by simp only [C'] at hv; rw [e] at hv; cases hv) ?_ hg ?_ ?_
  · rintro b x ⟨rfl, h1, h2⟩
    exact ⟨ob, h, how, x - (C.μ id).o, by omega, rfl, by omega⟩
  · exact Kept.setCells _ _ _ _ _ fun j hj => ⟨rfl, by omega, by omega⟩
  · intro i hi
    refine ⟨?_, rfl⟩
    simp only [C', updL]
    rw [if_neg (fun e => hi e.symm)]
  · intro o' ho'
    have : o' = ob' := by simpa [C', updL] using ho'.symm
    subst this
    refine hobj C' rfl rfl hg ?_
    intro j hj
    obtain ⟨⟨v, hv⟩, hf, hF⟩ := hown j hj
    refine ⟨?_, ?_, hF⟩
    · have := setCells_cell (w := C.w) (b := (C.μ id).b) (o := (C.μ id).o + off) (vs := vs) (fun j hj => by
        obtain ⟨⟨v, hv⟩, _⟩ := hown (off + j) (by omega)
        exact ⟨v, by rwa [← Nat.add_assoc] at hv⟩) ((C.μ id).o + j)
      show ∃ v, (C.w.setCells (C.μ id).b ((C.μ id).o + off) vs).cell? ⟨(C.μ id).b, (C.μ id).o + j, none⟩ = some v
      rw [this]
      split
      · rename_i hc
        exact ⟨vs[(C.μ id).o + j - ((C.μ id).o + off)], List.getElem?_eq_getElem (by omega)⟩
      · exact ⟨v, hv⟩
    · show (C.w.setCells (C.μ id).b ((C.μ id).o + off) vs).frozen? _ = false
      rw [World.frozen?_setCells]; exact hf
  · intro o' ho' _
    exact .inr (.inr ⟨ob, h, how, rfl⟩)

/-- what the cells of the object hold behind the write -/
theorem write_cell (hI : Inv B C) {id : Id} {ob : Obj} (h : C.ρ id = some ob) (how : ob.own = true) {off : Nat} {vs : List Value} (hfit : off + vs.length ≤ (C.μ id).n) (x : Nat) :
    (C.w.setCells (C.μ id).b ((C.μ id).o + off) vs).cell? ⟨(C.μ id).b, (C.μ id).o + x, none⟩ = if off ≤ x ∧ x < off + vs.length then vs[x - off]? else C.w.cell? ⟨(C.μ id).b, (C.μ id).o + x, none⟩ := by
  have hown := (hI.objs id ob h).ownOK how
  rw [setCells_cell (fun j hj => by
    obtain ⟨⟨v, hv⟩, _⟩ := hown (off + j) (by omega)
    exact ⟨v, by rwa [← Nat.add_assoc] at hv⟩)]
  by_cases hc : off ≤ x ∧ x < off + vs.length
  · rw [if_pos hc, if_pos (by omega)]
    congr 1; omega
  · rw [if_neg hc, if_neg (by omega)]

theorem run_write (hI : Inv B C) {id : Id} {ob : Obj} (h : C.ρ id = some ob) (how : ob.own = true) {off : Nat} {vs : List Value} (hfit : off + vs.length ≤ (C.μ id).n) (h1 : ∀ v ∈ vs, v.oneCell' = true) :
    (storeCells ⟨(C.μ id).b, (C.μ id).o + off, none⟩ vs).run P C.w = .ok () (C.w.setCells (C.μ id).b ((C.μ id).o + off) vs) := by
  have hown := (hI.objs id ob h).ownOK how
  have := run_storeCells_cells (P := P) (C.μ id).b ((C.μ id).o + off) vs 0 C.w (fun j hj => by
      obtain ⟨⟨v, hv⟩, _⟩ := hown (off + j) (by omega)
      rw [show (C.μ id).o + off + 0 + j = (C.μ id).o + (off + j) by omega, hv]; rfl)
    (fun j hj => by
      obtain ⟨_, hf, _⟩ := hown (off + j) (by omega)
      rwa [show (C.μ id).o + off + 0 + j = (C.μ id).o + (off + j) by omega]) h1
  simpa using this

theorem updL_frz_other {ρ : Look} {i : Id} : ∀ (fs : List Id), i ∉ fs → ∀ ρ' : Look, updL ρ' (frz ρ fs) i = ρ' i
  | [], _, ρ' => rfl
  | j :: r, h, ρ' => by
    simp only [List.mem_cons, not_or] at h
    simp only [frz]
    split
    · simp only [updL]
      rw [updL_frz_other r h.2, if_neg (fun e => h.1 e.symm)]
    · exact updL_frz_other r h.2 ρ'

theorem run_storeVar' {t : TypeId} {q : TI} (hq : tI P t = some q) {b x : Nat} {v : Value} (hs : v.cells.size = q.size) {w w' : World} (hr : (storeCells ⟨b, x, none⟩ v.cells.toList).run P w = .ok () w') :
    (storeVar t ⟨b, x, none⟩ v).run P w = .ok () w' := by
  unfold storeVar
  simp only [Sem.run_bind, run_sizeOf hq, Result.andThen_ok, hs, ne_eq, not_true_eq_false, if_false, hr]

theorem op_st (hI : Inv B C) (hE : RepE C g a) {t : TypeId} {x y : Operand} {q : TI} {ax ay : AX} {upd : List (Id × Obj)} (ho : o.op = .store t x y) (hx : cX x = some ax) (hy : cX y = some ay) (hq : tI P t = some q) (hq1 : 1 ≤ q.size)
    (h : storeE C.ρ q.size (evX g ax) (evX g ay) = some upd) : Does P o a C.w (Owes B C (.tup []) upd) := by
  have hrx := cX_rep hE hx
  have hry := cX_rep hE hy
  suffices hs : ∃ b p C', a.eval x = .pointer (some ⟨b, p, none⟩) ∧ (a.eval y).cells.size = q.size ∧ (storeCells ⟨b, p, none⟩ (a.eval y).cells.toList).run P C.w = .ok () C'.w ∧ C'.ρ = updL C.ρ upd ∧ Inv B C' ∧ Grow C C' by
    obtain ⟨b, p, C', h1, h2, h3, h4, h5, h6⟩ := hs
    refine .inr (.inl ⟨C'.w, ?_, C', rfl, h4, h5, h6, ?_⟩)
    · simp only [execOp, ho, Instr.storeAt, h1, Instr.sureAddr, Sem.run_bind, Sem.run_pure, Result.andThen_ok, run_storeVar' hq h2 h3]
    · simp [RepA, undef, RepL]
  generalize evX g ax = X at h hrx
  generalize evX g ay = Y at h hry
  unfold storeE at h
  split at h
  · rename_i id off
    split at h
    · rename_i cs hρ
      split at h
      · rename_i hc
        obtain ⟨c1, c2, c3⟩ := hc
        simp only [Option.some.injEq] at h
        subst h
        simp only [RepA] at hrx
        obtain ⟨L, l1, l2⟩ := hrx
        have hL : L = C.μ id := by simpa [boxAt, hρ] using l1.symm
        subst hL
        obtain ⟨y1, y2⟩ := hry.cells c3
        have hlen : (a.eval y).cells.toList.length = q.size := by rw [y1.length, c1]
        obtain ⟨o1, o2, o3, o4⟩ := hI.objs id _ hρ
        have hfit : off + (a.eval y).cells.toList.length ≤ (C.μ id).n := by rw [hlen, o1]; omega
        have hw := hI.write hρ rfl off (a.eval y).cells.toList (ob' := .box (splice cs off Y.cells)) hfit trivial (fun C' e1 e2 hg ho' => by
          refine ⟨by rw [length_splice _ _ _ (by omega), o1], all_splice o2 c3 off, ho', fun j z hz => ?_⟩
          rw [splice_get (by omega)] at hz
          rw [e1, write_cell hI hρ rfl hfit]
          have hyl : Y.cells.length = (a.eval y).cells.toList.length := y1.length.symm
          by_cases h1 : j < off
          · rw [if_pos h1] at hz
            rw [if_neg (by omega)]
            obtain ⟨v, hv, hr⟩ := o4 j z hz
            exact ⟨v, hv, hr.grow hg⟩
          · rw [if_neg h1] at hz
            by_cases h2 : j < off + Y.cells.length
            · rw [if_pos h2] at hz
              rw [if_pos (by omega)]
              obtain ⟨v, hv, hr⟩ := y1.get hz
              exact ⟨v, hv, hr.grow hg⟩
            · rw [if_neg h2] at hz
              rw [if_neg (by omega)]
              obtain ⟨v, hv, hr⟩ := o4 j z hz
              exact ⟨v, hv, hr.grow hg⟩)
        simp only at hw
        exact ⟨_, _, _, l2, by simpa using hlen, run_write hI hρ rfl hfit y2, rfl, hw.1, hw.2⟩
      · cases h
    · cases h
  · rename_i id ver i off
    split at h
    · rename_i sz ver' es hρ
      split at h
      · rename_i d fs e hd he
        split at h
        · rename_i hc
          obtain ⟨rfl, c2, c3, c4, c5⟩ := hc
          simp only [Option.some.injEq] at h
          subst h
          simp only [RepA] at hrx
          obtain ⟨A, p, a1, a2, a3, a4⟩ := hrx
          have hA : A = ⟨ver, sz, es.length, C.μ id⟩ := by simpa [arrAt, hρ] using a1.symm
          subst hA
          obtain ⟨g1, g2⟩ := a4 rfl
          subst g2
          obtain ⟨C1, k1, k2, k3, k4, k5, k6⟩ := hI.freeze fs
          have hV := dec_rep k5.F k6 hd hry
          have hlen : (a.eval y).cells.toList.length = q.size := by rw [hV.1.length, c2]
          have hρ1 : C1.ρ id = some (.arr sz ver false es) := by rw [k3, updL_frz_other fs c4]; exact hρ
          obtain ⟨o1, ⟨cap, o2, o2'⟩, o3, _⟩ := k4.objs id _ hρ1
          obtain ⟨_, oel⟩ := o3 rfl
          have hi : i < es.length := g1
          have hbound : i * sz + sz ≤ cap * sz := by
            calc i * sz + sz = (i + 1) * sz := by rw [Nat.add_mul]; omega
              _ ≤ cap * sz := Nat.mul_le_mul_right _ (by omega)
          have hfit : i * sz + off + (a.eval y).cells.toList.length ≤ (C1.μ id).n := by rw [hlen, o2]; omega
          have helem : ∀ F, C1.F.le F → ∀ c, RepD F e c → RepD F (if e.isAgg then .agg (splice e.cells off d.cells) else d) (splice c off (a.eval y).cells.toList) := by
            intro F hF c hec
            have hdF := RepD.mono hF _ _ hV.1
            cases hagg : e.isAgg
            · simp only [Bool.false_eq_true, if_false]
              obtain ⟨u, rfl, _, _⟩ := hec.leaf hagg
              have hw1 : sz = 1 := by
                have := hec.length
                simp only [List.length_cons, List.length_nil] at this
                omega
              have : off = 0 ∧ (a.eval y).cells.toList.length = 1 := by omega
              rw [this.1]
              simp only [splice, List.take_zero, List.nil_append, Nat.zero_add, this.2]
              simpa using hdF
            · simp only [if_true, RepD]
              have q1 := hec.cellsAgg
              have q2 := hdF.cellsAgg
              unfold splice
              rw [q2.length]
              exact ((q1.take off).append q2).append (q1.drop _)
          have hw := k4.write hρ1 rfl (i * sz + off) (a.eval y).cells.toList (ob' := .arr sz ver false (es.set i (if e.isAgg then .agg (splice e.cells off d.cells) else d))) hfit
            ⟨Nat.le_refl _, fun _ => ⟨rfl, by simp⟩⟩ (fun C' e1 e2 hg ho' => by
            refine ⟨o1, ⟨cap, o2, by simpa using o2'⟩, fun _ => ⟨ho', fun k z hz => ?_⟩, fun e => by cases e⟩
            have hwc := write_cell k4 hρ1 rfl hfit
            rw [List.getElem?_set] at hz
            split at hz
            · rename_i hik
              subst hik
              simp only [Option.some.injEq] at hz
              subst hz
              obtain ⟨c, q1, q2, q3⟩ := oel i e he
              refine ⟨_, ?_, helem C'.F (by rw [e2]; exact fun _ _ _ h => h) c (by rw [e2]; exact q2), fun j v hj => ?_⟩
              · rw [length_splice _ _ _ (by omega), q1]
              · rw [e1, Nat.add_assoc, hwc]
                rw [splice_get (by omega)] at hj
                by_cases h1 : j < off
                · rw [if_pos h1] at hj
                  rw [if_neg (by omega)]
                  have := q3 j v hj
                  rwa [Nat.add_assoc] at this
                · rw [if_neg h1] at hj
                  by_cases h2 : j < off + (a.eval y).cells.toList.length
                  · rw [if_pos h2] at hj
                    rw [if_pos (by omega), ← hj]
                    congr 1; omega
                  · rw [if_neg h2] at hj
                    rw [if_neg (by omega)]
                    have := q3 j v hj
                    rwa [Nat.add_assoc] at this
            · rename_i hik
              obtain ⟨c, q1, q2, q3⟩ := oel k z hz
              refine ⟨c, q1, RepD.mono hg.F _ _ q2, fun j v hj => ?_⟩
              have hj' : j < sz := by rw [← q1]; exact (List.getElem?_eq_some_iff.1 hj).1
              rw [e1, Nat.add_assoc, hwc, if_neg]
              · have := q3 j v hj
                rwa [Nat.add_assoc] at this
              · intro hcon
                rcases Nat.lt_or_gt_of_ne hik with hlt | hgt
                · have : (i + 1) * sz ≤ k * sz := Nat.mul_le_mul_right _ hlt
                  rw [Nat.add_mul] at this
                  omega
                · have : (k + 1) * sz ≤ i * sz := Nat.mul_le_mul_right _ hgt
                  rw [Nat.add_mul] at this
                  omega)
          simp only at hw
          have hrun := run_write (P := P) k4 hρ1 rfl hfit (fun v hv => hV.1.one v hv)
          refine ⟨(C.μ id).b, (C.μ id).o + i * sz + off, _, a3, by simpa using hlen, ?_, ?_, hw.1, k5.trans hw.2⟩
          · rw [k2, k1, ← Nat.add_assoc] at hrun
            rw [hrun]
            simp only [k1, k2, Nat.add_assoc]
          · rw [k3, updL_append]
        · cases h
      · cases h
    · rename_i ver' es hρ
      split at h
      · rename_i hc
        obtain ⟨rfl, rfl, c3, c4, c5⟩ := hc
        simp only [Option.some.injEq] at h
        subst h
        simp only [RepA] at hrx
        obtain ⟨A, p, a1, a2, a3, a4⟩ := hrx
        have hA : A = ⟨ver, 1, es.length, C.μ id⟩ := by simpa [arrAt, hρ] using a1.symm
        subst hA
        obtain ⟨g1, g2⟩ := a4 rfl
        subst g2
        obtain ⟨o1, o2, o3, o4⟩ := hI.objs id _ hρ
        obtain ⟨y1, y2⟩ := hry.leaf c5
        have hcells : (a.eval y).cells = #[a.eval y] := cells_of_not_agg y2
        have hfit : i + [a.eval y].length ≤ (C.μ id).n := by simp; omega
        have hw := hI.write hρ rfl i [a.eval y] (ob' := .rarr ver (es.set i Y)) hfit ⟨Nat.le_refl _, fun _ => by simp⟩ (fun C' e1 e2 hg ho' => by
          refine ⟨by simpa using o1, ?_, ho', fun j z hz => ?_⟩
          · rw [List.all_eq_true] at o2 ⊢
            intro z hz
            rcases List.mem_or_eq_of_mem_set hz with hz | hz
            · exact o2 z hz
            · subst hz; exact c5
          · rw [e1, write_cell hI hρ rfl hfit]
            rw [List.getElem?_set] at hz
            split at hz
            · rename_i hij
              subst hij
              simp only [Option.some.injEq] at hz
              subst hz
              rw [if_pos (by simp)]
              exact ⟨a.eval y, by simp, hry.grow hg⟩
            · rename_i hij
              rw [if_neg (by simp; omega)]
              obtain ⟨v, hv, hr⟩ := o4 j z hz
              exact ⟨v, hv, hr.grow hg⟩)
        simp only at hw
        have hrun := run_write (P := P) hI hρ rfl hfit (by simpa using y1)
        refine ⟨(C.μ id).b, (C.μ id).o + i * 1 + 0, _, a3, by rw [hcells]; simp [c3], ?_, rfl, hw.1, hw.2⟩
        rw [hcells]
        simpa using hrun
      · cases h
    · cases h
  · cases h

/-! ## A nil slice that is going to grow -/

theorem arr_nil (hI : Inv B C) {id : Id} {nv : Nat} (hid : newVer C.ρ id = some nv) {ob : Obj} {sz : Nat} (hsz : 1 ≤ sz) (hob : ob = .arr sz nv false [] ∨ (ob = .rarr nv [] ∧ sz = 1)) :
    Owes B C (.rsl id nv sz 0 0) [(id, ob)] (.slice none 0 0) C.w := by
  obtain ⟨n1, n2, n3⟩ := newVer_lt hid
  have hlt : ∀ A, arrAt C id = some A → A.ver < nv := by
    intro A hA
    simp only [arrAt] at hA
    split at hA
    · rename_i e; simp only [Option.some.injEq] at hA; subst hA; exact n2 _ _ _ _ e
    · rename_i e; simp only [Option.some.injEq] at hA; subst hA; exact n3 _ _ e
    · cases hA
  obtain ⟨h1, h2, h3⟩ := hI.allocO C.w (Kept.refl _ _) id ob ⟨0, 0, 0⟩ ⟨n1, fun A hA => by
      rcases hob with rfl | ⟨rfl, _⟩ <;> exact hlt A hA⟩ (.inr rfl) (fun C' e1 e2 hg => by
      have hown : OwnOK C' ⟨0, 0, 0⟩ := fun j hj => by simp at hj
      rcases hob with rfl | ⟨rfl, rfl⟩
      · exact ⟨hsz, ⟨0, by simp, by simp⟩, fun _ => ⟨hown, by simp⟩, fun e => by cases e⟩
      · exact ⟨by simp, by simp, hown, by simp⟩)
  refine ⟨{ w := C.w, F := C.F, μ := fun i => if i = id then ⟨0, 0, 0⟩ else C.μ i, ρ := fun i => if i = id then some ob else C.ρ i }, rfl, h3, h1, h2, ?_⟩
  simp only [RepA]
  refine ⟨⟨nv, sz, 0, ⟨0, 0, 0⟩⟩, none, 0, ?_, Nat.le_refl _, rfl, Nat.le_refl _, by simp, fun _ => ⟨rfl, by simp, by simp, by simp⟩⟩
  rcases hob with rfl | ⟨rfl, rfl⟩ <;> simp [arrAt]

theorem op_mvNil (hI : Inv B C) {site nv sz : Nat} {ob : Obj} (ho : o.op = .move (.const (.slice none 0 0)) ∨ o.op = .assign (.const (.slice none 0 0))) (hid : newVer C.ρ (site + 1, 0) = some nv) (hsz : 1 ≤ sz)
    (hob : ob = .arr sz nv false [] ∨ (ob = .rarr nv [] ∧ sz = 1)) : Does P o a C.w (Owes B C (.rsl (site + 1, 0) nv sz 0 0) [((site + 1, 0), ob)]) := by
  refine .inl ⟨_, _, ?_, arr_nil hI hid hsz hob⟩
  rcases ho with ho | ho <;> simp [execOp, ho, Act.eval]

/-! ## append -/

/-- the world behind an append: in place, or in a new block -/
theorem run_app {sT xT e : TypeId} {ty : TypeId} {q : TI} {argTypes : Array TypeId} (h0 : argTypes[0]? = some sT) (h1 : argTypes[1]? = some xT) (hs : P.underlying sT = some (.slice e))
    (hx : (∃ e', P.underlying xT = some (.slice e')) ∨ P.underlying xT = some .string) (hq : tI P e = some q) (hz : q.zero.isSome = true) {w : World} {base : Option Addr} {len cap b p : Nat} {x : Value} {n : Nat} {old news : List Value}
    (hn : ∀ w', (Builtin.lenOf x).run P w' = .ok n w') (hf : ∀ w', (∀ ad, w'.cell? ad = w.cell? ad) → (Builtin.firstCells q.size n x).run P w' = .ok news.toArray w')
    (hnl : news.length = n * q.size) (hone : ∀ v ∈ news, v.oneCell' = true) (hbase : 0 < cap → base = some ⟨b, p, none⟩) (hlc : len ≤ cap)
    (hol : old.length = len * q.size) (hold : ∀ (j : Nat) (v : Value), old[j]? = some v → w.cell? ⟨b, p + j, none⟩ = some v)
    (hown : ∀ j, j < cap * q.size → (∃ v, w.cell? ⟨b, p + j, none⟩ = some v) ∧ w.frozen? ⟨b, p + j, none⟩ = false)
    (hroom : (len + n) * (q.bytes + 1) ≤ room) (hpos : 0 < n) (hsz : ∀ w z, (zeroValue e).run P w = .ok z w → z.cells.size = q.size) :
    (len + n ≤ cap ∧ base = some ⟨b, p, none⟩ ∧ (Builtin.append_ argTypes ty #[.slice base len cap, x]).run P w = .ok (.slice base (len + n) cap) (w.setCells b (p + len * q.size) news)) ∨
    (∃ (cap' : Nat) (cs : Array Value), len + n ≤ cap' ∧ cs.size = cap' * q.size ∧ cs.toList.take ((len + n) * q.size) = old ++ news ∧
      (Builtin.append_ argTypes ty #[.slice base len cap, x]).run P w = .ok (.slice (some ⟨w.heap.size, 0, none⟩) (len + n) cap') (w.drew.alloc (.cells cs e))) := by
  obtain ⟨i, d, i1, i2, i3, i4, _⟩ := tI_info hq
  obtain ⟨z, hzv⟩ := tI_zero_some hq hz
  have hr : room = 1099511627776 := rfl
  have hzeros : ∀ (w : World), (do pure ((← underlying xT) matches .int _) : Sem Bool).run P w = .ok false w := by
    intro w
    rcases hx with ⟨e', hx⟩ | hx <;> simp only [Sem.run_bind, run_underlying hx, Result.andThen_ok] <;> rfl
  by_cases hfit : len + n ≤ cap
  · left
    have hb := hbase (by omega)
    refine ⟨hfit, hb, ?_⟩
    have hst := run_storeCells_cells (P := P) b (p + len * q.size) news 0 w (fun j hj => by
        have : len * q.size + j < cap * q.size := by
          have : (len + n) * q.size ≤ cap * q.size := Nat.mul_le_mul_right _ hfit
          rw [Nat.add_mul] at this
          omega
        obtain ⟨⟨v, hv⟩, _⟩ := hown (len * q.size + j) this
        rw [show p + len * q.size + 0 + j = p + (len * q.size + j) by omega, hv]; rfl)
      (fun j hj => by
        have : len * q.size + j < cap * q.size := by
          have : (len + n) * q.size ≤ cap * q.size := Nat.mul_le_mul_right _ hfit
          rw [Nat.add_mul] at this
          omega
        obtain ⟨_, hfz⟩ := hown (len * q.size + j) this
        rwa [show p + len * q.size + 0 + j = p + (len * q.size + j) by omega]) hone
    simp only [Nat.add_zero] at hst
    have hst' : (storeCells ((⟨b, p, none⟩ : Addr).add (len * q.size)) news).run P w = .ok () (w.setCells b (p + len * q.size) news) := by rw [Addr.add_mk]; exact hst
    unfold Builtin.append_
    simp only [h0, h1, List.getElem?_toArray, List.getElem?_cons_zero, List.getElem?_cons_succ]
    rcases hx with ⟨e', hx⟩ | hx <;>
    simp only [Sem.run_bind, run_underlying hs, Result.andThen_ok, run_sizeOf hq, run_underlying hx, Sem.run_pure, Bool.false_eq_true, if_false, hn, hfit, if_true, Bool.not_false, hf w (fun _ => rfl), hb, hst']
  · right
    have hneed : ¬ (((len + n : Nat) : Int) > IntKind.i64.max ∧ (False ∨ i.bytes = 0)) := by
      intro ⟨h, _⟩
      have : IntKind.i64.max = 9223372036854775807 := by decide
      have : len + n ≤ (len + n) * (q.bytes + 1) := Nat.le_mul_of_pos_right _ (by omega)
      omega
    have hmul : (len + n) * q.bytes ≤ (len + n) * (q.bytes + 1) := Nat.mul_le_mul_left _ (by omega)
    have hgrow : ¬ (Builtin.nextslicecap (len + n) cap * i.bytes > 2 ^ 48) := by
      have := growslice_fits (need := len + n) (old := cap) (bytes := i.bytes) (by omega) (by rw [← i4]; omega)
      omega
    refine ⟨grownCap w (len + n) cap e, old.toArray ++ news.toArray ++ Builtin.zeroCells z.cells (grownCap w (len + n) cap e - (len + n)), grownCap_ge w _ _ _, ?_, ?_, ?_⟩
    · have hge := grownCap_ge w (len + n) cap e
      simp only [Array.size_append, List.size_toArray, size_zeroCells, hol, hnl, hsz _ _ (hzv w), ← Nat.add_mul]
      congr 1; omega
    · simp only [Array.toList_append, List.append_assoc]
      rw [← List.append_assoc, List.take_append_of_le_length (by simp only [List.length_append, hol, hnl, Nat.add_mul]; omega)]
      rw [List.take_of_length_le (by simp only [List.length_append, hol, hnl, Nat.add_mul]; omega)]
    · have hfo : ∀ w', (∀ ad, w'.cell? ad = w.cell? ad) → (Builtin.firstCells q.size len (.slice base len cap)).run P w' = .ok old.toArray w' := by
        intro w' hw'
        refine run_first_slice hol ?_
        intro hp
        have : 0 < cap := by
          rcases Nat.eq_zero_or_pos len with h | h
          · rw [h] at hol; simp at hol; simp [hol] at hp
          · omega
        exact ⟨b, p, hbase this, fun j v hj => by rw [hw']; exact hold j v hj⟩
      have hch : (choose (.appendCap (len + n) cap e)).run P w = .ok (grownCap w (len + n) cap e) w.drew := by
        rw [run_choose]; rfl
      unfold Builtin.append_
      simp only [h0, h1, List.getElem?_toArray, List.getElem?_cons_zero, List.getElem?_cons_succ]
      rcases hx with ⟨e', hx⟩ | hx <;>
      simp only [Sem.run_bind, run_underlying hs, Result.andThen_ok, run_sizeOf hq, run_underlying hx, Sem.run_pure, Bool.false_eq_true, if_false, hn, hfit, run_typeInfo i1, hneed, hgrow, hch, run_askRoom,
        hfo w.drew (fun _ => rfl), Bool.not_false, if_true, hf w.drew (fun _ => rfl), hzv, newRow, run_newObj] <;> rfl


theorem zero_size {e : TypeId} {q : TI} (hq : tI P e = some q) (hok : ∃ l, q.zero = some l ∧ l.length = q.size) : ∀ w z, (zeroValue e).run P w = .ok z w → z.cells.size = q.size := by
  obtain ⟨l, hz, hl⟩ := hok
  obtain ⟨v, hv, hc⟩ := tI_zero hq hz
  intro w z hzv
  rw [hv] at hzv
  cases hzv
  have := allSome_spec hc
  have := congrArg List.length this
  simp at this
  omega

theorem op_app (hI : Inv B C) (hE : RepE C g a) {c : Call} {x y : Operand} {sT xT e : TypeId} {q : TI} {ax ay : AX} {id : Id} {ver len : Nat} {es ds : List Dat} (ho : o.op = .call c) (hc : c.callee = .builtin .append) (ha : c.args = #[x, y])
    (h0 : c.argTypes[0]? = some sT) (h1 : c.argTypes[1]? = some xT) (hs : P.underlying sT = some (.slice e)) (hxt : (∃ e', P.underlying xT = some (.slice e')) ∨ P.underlying xT = some .string) (hq : tI P e = some q) (hok : ∃ l, q.zero = some l ∧ l.length = q.size)
    (hx : cX x = some ax) (hy : cX y = some ay) (hX : evX g ax = .rsl id ver q.size 0 len) (hρ : C.ρ id = some (.arr q.size ver false es)) (hY : srcOf C.ρ q.size (evX g ay) = some ds) (hlen : len = es.length)
    (hroom : (len + ds.length) * (q.bytes + 1) ≤ room) :
    Does P o a C.w (Owes B C (if ds.length = 0 then .rsl id ver q.size 0 len else .rsl id (ver + 1) q.size 0 (len + ds.length)) (if ds.length = 0 then [] else [(id, .arr q.size (ver + 1) false (es ++ ds))])) := by
  have hrx := cX_rep hE hx
  rw [hX] at hrx
  obtain ⟨o1, ⟨cp, o2, o2'⟩, o3, _⟩ := hI.objs id _ hρ
  obtain ⟨oown, oel⟩ := o3 rfl
  obtain ⟨cs, c1, c2, c3⟩ := srcOf_rep (P := P) hI o1 hY (cX_rep hE hy)
  have hrx' := hrx
  simp only [RepA] at hrx
  obtain ⟨A, p, cap, a1, a2, a3, a4, a5, a6⟩ := hrx
  have hA : A = ⟨ver, q.size, es.length, C.μ id⟩ := by simpa [arrAt, hρ] using a1.symm
  subst hA
  obtain ⟨g1, g2, g3, g4⟩ := a6 rfl
  simp only [Nat.zero_add, Nat.zero_mul, Nat.add_zero] at g3 g4
  have hargs : c.args.map a.eval = #[a.eval x, a.eval y] := by rw [ha]; simp
  have hexec : ∀ v w', (Builtin.append_ c.argTypes o.type #[a.eval x, a.eval y]).run P C.w = .ok v w' → (execOp a.eval o).run P C.w = .ok (.value v) w' := by
    intro v w' h
    simp only [execOp, ho, resolve, hc, Sem.run_bind, Sem.run_pure, Result.andThen_ok, invoke, builtin, hargs, h]
  have hzs := zero_size hq hok
  have hz : q.zero.isSome = true := by obtain ⟨l, hl, _⟩ := hok; simp [hl]
  by_cases hd : ds.length = 0
  · simp only [hd, if_true]
    have hds : ds = [] := List.eq_nil_of_length_eq_zero hd
    subst hds
    refine .inl ⟨a.eval x, C.w, hexec _ _ ?_, C, rfl, rfl, hI, Grow.refl C, hrx'⟩
    have hxz : (do pure ((← underlying xT) matches .int _) : Sem Bool).run P C.w = .ok false C.w := by
      rcases hxt with ⟨e', hxt⟩ | hxt <;> simp only [Sem.run_bind, run_underlying hxt, Result.andThen_ok] <;> rfl
    have hf := c3 0 (Nat.zero_le _) C.w (fun _ => rfl)
    simp only [Nat.zero_mul, List.take_zero] at hf
    rw [a3]
    unfold Builtin.append_
    simp only [h0, h1, List.getElem?_toArray, List.getElem?_cons_zero, List.getElem?_cons_succ]
    rcases hxt with ⟨e', hxt⟩ | hxt <;>
    simp only [Sem.run_bind, run_underlying hs, Result.andThen_ok, run_sizeOf hq, run_underlying hxt, Sem.run_pure, Bool.false_eq_true, if_false, c2, a4, if_true, Bool.not_false, hf, List.length_nil, Nat.add_zero] <;>
    (cases p <;> simp only [storeCells, Sem.run_pure, Sem.run_bind, Result.andThen_ok])
  · simp only [hd, if_false]
    obtain ⟨old, f1, f2⟩ := flat_of (F := C.F) (sz := q.size) (fun j => C.w.cell? ⟨(C.μ id).b, j, none⟩) (ds := es) (C.μ id).o (fun i d hd => oel i d hd)
    have hcl := c1.length
    have hn : c1 = c1 := rfl
    have happ := run_app (P := P) (ty := o.type) (w := C.w) (base := p) (len := len) (cap := cap) (b := (C.μ id).b) (p := (C.μ id).o) (x := a.eval y) (n := ds.length) (old := old) (news := cs) h0 h1 hs hxt hq hz c2
      (fun w' hw' => by
        have := c3 ds.length (Nat.le_refl _) w' hw'
        rwa [List.take_of_length_le (by rw [hcl]; exact Nat.le_refl _)] at this) hcl c1.one g4 a4
      (by rw [f1.length, hlen]) f2 (fun j hj => by
        rw [← g3] at hj
        exact ⟨(oown j hj).1, (oown j hj).2.1⟩) hroom (by omega) hzs
    rcases happ with ⟨r1, r2, r3⟩ | ⟨cap', out, r1, r2, r3, r4⟩
    · have hfit : len * q.size + cs.length ≤ (C.μ id).n := by
        rw [g3, hcl, ← Nat.add_mul]
        exact Nat.mul_le_mul_right _ r1
      have hw := hI.write hρ rfl (len * q.size) cs (ob' := .arr q.size (ver + 1) false (es ++ ds)) hfit ⟨Nat.le_succ _, fun e => by omega⟩ (fun C' e1 e2 hg ho' => by
        refine ⟨o1, ⟨cap, g3, by simp; omega⟩, fun _ => ⟨ho', fun i d hd => ?_⟩, fun e => by cases e⟩
        have hwc := write_cell hI hρ rfl hfit
        rcases Nat.lt_or_ge i es.length with hlt | hge
        · rw [List.getElem?_append_left hlt] at hd
          obtain ⟨u, q1, q2, q3⟩ := oel i d hd
          refine ⟨u, q1, RepD.mono hg.F _ _ q2, fun j v hj => ?_⟩
          have hj' : j < q.size := by rw [← q1]; exact (List.getElem?_eq_some_iff.1 hj).1
          have : i * q.size + j < len * q.size := by
            have : (i + 1) * q.size ≤ len * q.size := Nat.mul_le_mul_right _ (by omega)
            rw [Nat.add_mul] at this
            omega
          rw [e1, Nat.add_assoc, hwc, if_neg (by omega), ← Nat.add_assoc]
          exact q3 j v hj
        · rw [List.getElem?_append_right hge] at hd
          obtain ⟨u, q1, q2, q3⟩ := c1.get hd
          refine ⟨u, q1, RepD.mono hg.F _ _ q2, fun j v hj => ?_⟩
          have hj' : j < q.size := by rw [← q1]; exact (List.getElem?_eq_some_iff.1 hj).1
          have hge' : len * q.size + (i - es.length) * q.size = i * q.size := by rw [← Nat.add_mul]; congr 1; omega
          have hlt' := (List.getElem?_eq_some_iff.1 (q3 j v hj)).1
          rw [e1, Nat.add_assoc, hwc, if_pos (by omega), ← q3 j v hj]
          congr 1; omega)
      simp only at hw
      refine .inl ⟨_, _, hexec _ _ (by rw [a3]; exact r3), _, rfl, rfl, hw.1, hw.2, ?_⟩
      simp only [RepA]
      refine ⟨⟨ver + 1, q.size, (es ++ ds).length, C.μ id⟩, p, cap, by simp [arrAt, updL], Nat.le_refl _, rfl, r1, a5, fun _ => ⟨rfl, by simp; omega, by simpa using g3, by simpa using g4⟩⟩
    · obtain ⟨I1, G1⟩ := hI.drew
      have hnv : newVer C.ρ id = some (ver + 1) := by simp [newVer, hρ]
      have hnew := arr_new I1 (id := id) (nv := ver + 1) hnv o1 (ds := es ++ ds) (cs := out) cap' ⟨out, by
        rw [List.length_append, ← hlen, r3]
        exact f1.append c1, r2, rfl⟩ (by simp; omega) e
      obtain ⟨C', w1, w2, w3, w4, w5⟩ := hnew
      refine .inl ⟨_, _, hexec _ _ (by rw [a3]; exact r4), C', w1, w2, w3, G1.trans w4, ?_⟩
      have hl2 : (es ++ ds).length = len + ds.length := by simp [hlen]
      rw [hl2] at w5
      exact w5

theorem op_appNil (hI : Inv B C) (hE : RepE C g a) {c : Call} {x y : Operand} {sT xT e : TypeId} {q : TI} {ax ay : AX} {site nv : Nat} {ds : List Dat} (ho : o.op = .call c) (hc : c.callee = .builtin .append) (ha : c.args = #[x, y])
    (h0 : c.argTypes[0]? = some sT) (h1 : c.argTypes[1]? = some xT) (hs : P.underlying sT = some (.slice e)) (hxt : (∃ e', P.underlying xT = some (.slice e')) ∨ P.underlying xT = some .string) (hq : tI P e = some q) (hok : ∃ l, q.zero = some l ∧ l.length = q.size) (hsz : 1 ≤ q.size)
    (hx : cX x = some ax) (hy : cX y = some ay) (hX : evX g ax = .nils) (hY : srcOf C.ρ q.size (evX g ay) = some ds) (hid : newVer C.ρ (site + 1, 0) = some nv) (hd : ds.length ≠ 0)
    (hroom : ds.length * (q.bytes + 1) ≤ room) :
    Does P o a C.w (Owes B C (.rsl (site + 1, 0) nv q.size 0 ds.length) [((site + 1, 0), .arr q.size nv false ds)]) := by
  have hrx := cX_rep hE hx
  rw [hX] at hrx
  simp only [RepA] at hrx
  obtain ⟨cs, c1, c2, c3⟩ := srcOf_rep (P := P) hI hsz hY (cX_rep hE hy)
  have hargs : c.args.map a.eval = #[a.eval x, a.eval y] := by rw [ha]; simp
  have hexec : ∀ v w', (Builtin.append_ c.argTypes o.type #[a.eval x, a.eval y]).run P C.w = .ok v w' → (execOp a.eval o).run P C.w = .ok (.value v) w' := by
    intro v w' h
    simp only [execOp, ho, resolve, hc, Sem.run_bind, Sem.run_pure, Result.andThen_ok, invoke, builtin, hargs, h]
  have hzs := zero_size hq hok
  have hz : q.zero.isSome = true := by obtain ⟨l, hl, _⟩ := hok; simp [hl]
  have hcl := c1.length
  have happ := run_app (P := P) (ty := o.type) (w := C.w) (base := none) (len := 0) (cap := 0) (b := 0) (p := 0) (x := a.eval y) (n := ds.length) (old := []) (news := cs) h0 h1 hs hxt hq hz c2
    (fun w' hw' => by
      have := c3 ds.length (Nat.le_refl _) w' hw'
      rwa [List.take_of_length_le (by rw [hcl]; exact Nat.le_refl _)] at this) hcl c1.one (by simp) (Nat.le_refl _) (by simp) (by simp) (by simp) (by simpa using hroom) (by omega) hzs
  rcases happ with ⟨r1, r2, r3⟩ | ⟨cap', out, r1, r2, r3, r4⟩
  · omega
  · obtain ⟨I1, G1⟩ := hI.drew
    have hnew := arr_new I1 (id := (site + 1, 0)) (nv := nv) hid hsz (ds := ds) (cs := out) cap' ⟨out, by
      simp only [Nat.zero_add, List.nil_append] at r3
      rw [r3]; exact c1, r2, rfl⟩ (by omega) e
    obtain ⟨C', w1, w2, w3, w4, w5⟩ := hnew
    simp only [Nat.zero_add] at r4
    exact .inl ⟨_, _, hexec _ _ (by rw [hrx]; exact r4), C', w1, w2, w3, G1.trans w4, w5⟩


theorem lits_src (hI : Inv B C) {ws : List AVal} {val : Value} (hr : RepA C (.lits ws) val) : ∃ cs : List Value, RepL C ws cs ∧ ws.all AVal.leaf = true ∧ (∀ v ∈ cs, v.oneCell' = true) ∧ (∀ w, (Builtin.lenOf val).run P w = .ok ws.length w) ∧
    ∀ w, (∀ ad, w.cell? ad = C.w.cell? ad) → (Builtin.firstCells 1 ws.length val).run P w = .ok cs.toArray w := by
  simp only [RepA] at hr
  obtain ⟨b, p, cap, cs, h1, h2, h3, h4, h5, h6⟩ := hr
  subst h1
  refine ⟨cs, h3, h5, h6, fun w => rfl, fun w hw => run_first_slice (by rw [h3.length, Nat.mul_one]) fun _ => ⟨b, p, rfl, fun j v hj => ?_⟩⟩
  rw [hw]
  exact hI.Fw _ _ _ (h4 j v hj)

theorem rarr_new (hI : Inv B C) {id : Id} {nv : Nat} (hid : newVer C.ρ id = some nv) {ws : List AVal} {cs : Array Value} (cap : Nat) (hl : ws.all AVal.leaf = true) (hr : RepL C ws (cs.toList.take ws.length)) (hsize : cs.size = cap) (hcap : ws.length ≤ cap) (t : TypeId) :
    Owes B C (.rsl id nv 1 0 ws.length) [(id, .rarr nv ws)] (.slice (some ⟨C.w.heap.size, 0, none⟩) ws.length cap) (C.w.alloc (.cells cs t)) := by
  obtain ⟨n1, n2, n3⟩ := newVer_lt hid
  obtain ⟨h1, h2, h3⟩ := hI.allocO (C.w.alloc (.cells cs t)) (Kept.alloc _ _ _ _) id (.rarr nv ws) ⟨C.w.heap.size, 0, cs.size⟩
    ⟨n1, fun A hA => by
      simp only [arrAt] at hA
      split at hA
      · rename_i e; simp only [Option.some.injEq] at hA; subst hA; exact n2 _ _ _ _ e
      · rename_i e; simp only [Option.some.injEq] at hA; subst hA; exact n3 _ _ e
      · cases hA⟩ (.inl (Nat.le_refl _)) (fun C' e1 e2 hg => by
      refine ⟨by simpa [hsize] using hcap, hl, own_new C hI cs t C' e1 e2, fun j x hj => ?_⟩
      obtain ⟨c, hc, hx⟩ := hr.get hj
      refine ⟨c, ?_, hx.grow hg⟩
      rw [List.getElem?_take] at hc
      rw [e1]
      split at hc
      · simpa using hc
      · cases hc)
  refine ⟨{ w := C.w.alloc (.cells cs t), F := C.F, μ := fun i => if i = id then ⟨C.w.heap.size, 0, cs.size⟩ else C.μ i, ρ := fun i => if i = id then some (.rarr nv ws) else C.ρ i }, rfl, h3, h1, h2, ?_⟩
  simp only [RepA]
  refine ⟨⟨nv, 1, ws.length, ⟨C.w.heap.size, 0, cs.size⟩⟩, some ⟨C.w.heap.size, 0, none⟩, cap, by simp [arrAt], Nat.le_refl _, rfl, hcap, by simp, fun _ => ⟨rfl, by simp, by simpa using hsize, by simp⟩⟩

theorem op_appR (hI : Inv B C) (hE : RepE C g a) {c : Call} {x y : Operand} {sT xT e : TypeId} {q : TI} {ax ay : AX} {id : Id} {ver len : Nat} {es ws : List AVal} (ho : o.op = .call c) (hc : c.callee = .builtin .append) (ha : c.args = #[x, y])
    (h0 : c.argTypes[0]? = some sT) (h1 : c.argTypes[1]? = some xT) (hs : P.underlying sT = some (.slice e)) (hxt : (∃ e', P.underlying xT = some (.slice e')) ∨ P.underlying xT = some .string) (hq : tI P e = some q) (hok : ∃ l, q.zero = some l ∧ l.length = q.size) (hq1 : q.size = 1)
    (hx : cX x = some ax) (hy : cX y = some ay) (hX : evX g ax = .rsl id ver 1 0 len) (hρ : C.ρ id = some (.rarr ver es)) (hY : evX g ay = .lits ws) (hlen : len = es.length) (hd : ws.length ≠ 0)
    (hroom : (len + ws.length) * (q.bytes + 1) ≤ room) :
    Does P o a C.w (Owes B C (.rsl id (ver + 1) 1 0 (len + ws.length)) [(id, .rarr (ver + 1) (es ++ ws))]) := by
  have hrx := cX_rep hE hx
  rw [hX] at hrx
  have hry := cX_rep hE hy
  rw [hY] at hry
  obtain ⟨o1, o2, oown, oel⟩ := hI.objs id _ hρ
  obtain ⟨cs, c1, c2, c3, c4, c5⟩ := lits_src (P := P) hI hry
  simp only [RepA] at hrx
  obtain ⟨A, p, cap, a1, a2, a3, a4, a5, a6⟩ := hrx
  have hA : A = ⟨ver, 1, es.length, C.μ id⟩ := by simpa [arrAt, hρ] using a1.symm
  subst hA
  obtain ⟨g1, g2, g3, g4⟩ := a6 rfl
  simp only [Nat.zero_add, Nat.zero_mul, Nat.add_zero, Nat.mul_one] at g3 g4
  have hargs : c.args.map a.eval = #[a.eval x, a.eval y] := by rw [ha]; simp
  have hexec : ∀ v w', (Builtin.append_ c.argTypes o.type #[a.eval x, a.eval y]).run P C.w = .ok v w' → (execOp a.eval o).run P C.w = .ok (.value v) w' := by
    intro v w' h
    simp only [execOp, ho, resolve, hc, Sem.run_bind, Sem.run_pure, Result.andThen_ok, invoke, builtin, hargs, h]
  have hzs := zero_size hq hok
  have hz : q.zero.isSome = true := by obtain ⟨l, hl, _⟩ := hok; simp [hl]
  obtain ⟨old, f1, f2⟩ := list_of_cells (w := C.w) (b := (C.μ id).b) es.length (C.μ id).o (fun j hj => by
    obtain ⟨v, hv, _⟩ := oel j es[j] (List.getElem?_eq_getElem hj)
    exact ⟨v, hv⟩)
  have hrold : RepL C es old := repL_of f1 fun i x v hi hv => by
    obtain ⟨u, hu, hx⟩ := oel i x hi
    rw [f2 i v hv] at hu
    cases hu
    exact hx
  have hcl : cs.length = ws.length := c1.length
  have happ := run_app (P := P) (ty := o.type) (w := C.w) (base := p) (len := len) (cap := cap) (b := (C.μ id).b) (p := (C.μ id).o) (x := a.eval y) (n := ws.length) (old := old) (news := cs) h0 h1 hs hxt hq hz c4
    (fun w' hw' => by rw [hq1]; exact c5 w' hw') (by rw [hq1, hcl, Nat.mul_one]) c3 g4 a4
    (by rw [f1, hlen, hq1, Nat.mul_one]) f2 (fun j hj => by
      rw [hq1, Nat.mul_one, ← g3] at hj
      exact ⟨(oown j hj).1, (oown j hj).2.1⟩) hroom (by omega) hzs
  have hall : (es ++ ws).all AVal.leaf = true := by rw [List.all_append, o2, c2]; rfl
  rcases happ with ⟨r1, r2, r3⟩ | ⟨cap', out, r1, r2, r3, r4⟩
  · have hfit : len + cs.length ≤ (C.μ id).n := by rw [g3, hcl]; exact r1
    have hw := hI.write hρ rfl len cs (ob' := .rarr (ver + 1) (es ++ ws)) hfit ⟨Nat.le_succ _, fun e => by omega⟩ (fun C' e1 e2 hg ho' => by
      refine ⟨by simp; omega, hall, ho', fun i d hd => ?_⟩
      have hwc := write_cell hI hρ rfl hfit
      rcases Nat.lt_or_ge i es.length with hlt | hge
      · rw [List.getElem?_append_left hlt] at hd
        obtain ⟨v, hv, hr⟩ := oel i d hd
        exact ⟨v, by rw [e1, hwc, if_neg (by omega)]; exact hv, hr.grow hg⟩
      · rw [List.getElem?_append_right hge] at hd
        obtain ⟨v, hv, hr⟩ := c1.get hd
        have := (List.getElem?_eq_some_iff.1 hv).1
        exact ⟨v, by rw [e1, hwc, if_pos (by omega), ← hv]; congr 1; omega, hr.grow hg⟩)
    simp only at hw
    refine .inl ⟨_, _, hexec _ _ (by rw [a3]; rw [hq1, Nat.mul_one] at r3; exact r3), _, rfl, rfl, hw.1, hw.2, ?_⟩
    simp only [RepA]
    refine ⟨⟨ver + 1, 1, (es ++ ws).length, C.μ id⟩, p, cap, by simp [arrAt, updL], Nat.le_refl _, rfl, r1, a5, fun _ => ⟨rfl, by simp; omega, by simpa using g3, by simpa using g4⟩⟩
  · obtain ⟨I1, G1⟩ := hI.drew
    have hnv : newVer C.ρ id = some (ver + 1) := by simp [newVer, hρ]
    have hl2 : (es ++ ws).length = len + ws.length := by simp [hlen]
    have hnew := rarr_new I1 (id := id) (nv := ver + 1) hnv (ws := es ++ ws) (cs := out) cap' hall (by
      rw [hl2]
      rw [hq1, Nat.mul_one] at r3
      rw [r3]
      exact (hrold.grow G1).append (c1.grow G1)) (by rw [r2, hq1, Nat.mul_one]) (by omega) e
    obtain ⟨C', w1, w2, w3, w4, w5⟩ := hnew
    refine .inl ⟨_, _, hexec _ _ (by rw [a3]; exact r4), C', w1, w2, w3, G1.trans w4, ?_⟩
    rw [hl2] at w5
    exact w5

theorem op_appNilR (hI : Inv B C) (hE : RepE C g a) {c : Call} {x y : Operand} {sT xT e : TypeId} {q : TI} {ax ay : AX} {site nv : Nat} {ws : List AVal} (ho : o.op = .call c) (hc : c.callee = .builtin .append) (ha : c.args = #[x, y])
    (h0 : c.argTypes[0]? = some sT) (h1 : c.argTypes[1]? = some xT) (hs : P.underlying sT = some (.slice e)) (hxt : (∃ e', P.underlying xT = some (.slice e')) ∨ P.underlying xT = some .string) (hq : tI P e = some q) (hok : ∃ l, q.zero = some l ∧ l.length = q.size) (hq1 : q.size = 1)
    (hx : cX x = some ax) (hy : cX y = some ay) (hX : evX g ax = .nils) (hY : evX g ay = .lits ws) (hid : newVer C.ρ (site + 1, 0) = some nv) (hd : ws.length ≠ 0)
    (hroom : ws.length * (q.bytes + 1) ≤ room) :
    Does P o a C.w (Owes B C (.rsl (site + 1, 0) nv 1 0 ws.length) [((site + 1, 0), .rarr nv ws)]) := by
  have hrx := cX_rep hE hx
  rw [hX] at hrx
  simp only [RepA] at hrx
  have hry := cX_rep hE hy
  rw [hY] at hry
  obtain ⟨cs, c1, c2, c3, c4, c5⟩ := lits_src (P := P) hI hry
  have hargs : c.args.map a.eval = #[a.eval x, a.eval y] := by rw [ha]; simp
  have hexec : ∀ v w', (Builtin.append_ c.argTypes o.type #[a.eval x, a.eval y]).run P C.w = .ok v w' → (execOp a.eval o).run P C.w = .ok (.value v) w' := by
    intro v w' h
    simp only [execOp, ho, resolve, hc, Sem.run_bind, Sem.run_pure, Result.andThen_ok, invoke, builtin, hargs, h]
  have hzs := zero_size hq hok
  have hz : q.zero.isSome = true := by obtain ⟨l, hl, _⟩ := hok; simp [hl]
  have hcl : cs.length = ws.length := c1.length
  have happ := run_app (P := P) (ty := o.type) (w := C.w) (base := none) (len := 0) (cap := 0) (b := 0) (p := 0) (x := a.eval y) (n := ws.length) (old := []) (news := cs) h0 h1 hs hxt hq hz c4
    (fun w' hw' => by rw [hq1]; exact c5 w' hw') (by rw [hq1, hcl, Nat.mul_one]) c3 (by simp) (Nat.le_refl _) (by simp) (by simp) (by simp) (by simpa using hroom) (by omega) hzs
  rcases happ with ⟨r1, r2, r3⟩ | ⟨cap', out, r1, r2, r3, r4⟩
  · omega
  · obtain ⟨I1, G1⟩ := hI.drew
    have hnew := rarr_new I1 (id := (site + 1, 0)) (nv := nv) hid (ws := ws) (cs := out) cap' c2 (by
      simp only [Nat.zero_add, List.nil_append, hq1, Nat.mul_one] at r3
      rw [r3]; exact c1.grow G1) (by rw [r2, hq1, Nat.mul_one]) (by omega) e
    obtain ⟨C', w1, w2, w3, w4, w5⟩ := hnew
    simp only [Nat.zero_add] at r4
    exact .inl ⟨_, _, hexec _ _ (by rw [hrx]; exact r4), C', w1, w2, w3, G1.trans w4, w5⟩

/-! ## copy, clear -/

/-- elements written into an array -/
theorem arr_write (hI : Inv B C) {id : Id} {sz ver off : Nat} {es ds : List Dat} (hρ : C.ρ id = some (.arr sz ver false es)) {cs : List Value} (hf : FlatD C.F sz ds cs) (hb : off + ds.length ≤ es.length) :
    off * sz + cs.length ≤ (C.μ id).n ∧
    let C' : Ctx := { w := C.w.setCells (C.μ id).b ((C.μ id).o + off * sz) cs, F := C.F, μ := C.μ, ρ := updL C.ρ [(id, .arr sz ver false (splice es off ds))] }
    Inv B C' ∧ Grow C C' := by
  obtain ⟨o1, ⟨cap, o2, o2'⟩, o3, _⟩ := hI.objs id _ hρ
  obtain ⟨oown, oel⟩ := o3 rfl
  have hcl := hf.length
  have hfit : off * sz + cs.length ≤ (C.μ id).n := by
    rw [hcl, o2, ← Nat.add_mul]
    exact Nat.mul_le_mul_right _ (by omega)
  refine ⟨hfit, ?_⟩
  refine hI.write hρ rfl (off * sz) cs (ob' := .arr sz ver false (splice es off ds)) hfit ⟨Nat.le_refl _, fun _ => ⟨rfl, by rw [length_splice _ _ _ hb]; exact Nat.le_refl _⟩⟩ (fun C' e1 e2 hg ho' => ?_)
  refine ⟨o1, ⟨cap, o2, by rw [length_splice _ _ _ hb]; exact o2'⟩, fun _ => ⟨ho', fun i d hd => ?_⟩, fun e => by cases e⟩
  have hwc := write_cell hI hρ rfl hfit
  rw [splice_get hb] at hd
  have old : (i < off ∨ off + ds.length ≤ i) → es[i]? = some d → ∃ c, c.length = sz ∧ RepD C'.F d c ∧ ∀ (j : Nat) (v : Value), c[j]? = some v → C'.w.cell? ⟨(C.μ id).b, (C.μ id).o + i * sz + j, none⟩ = some v := by
    intro hi hd
    obtain ⟨c, q1, q2, q3⟩ := oel i d hd
    refine ⟨c, q1, RepD.mono hg.F _ _ q2, fun j v hj => ?_⟩
    have hj' : j < sz := by rw [← q1]; exact (List.getElem?_eq_some_iff.1 hj).1
    rw [e1, Nat.add_assoc, hwc, if_neg, ← Nat.add_assoc]
    · exact q3 j v hj
    · rw [hcl]
      intro hcon
      rcases hi with hi | hi
      · have : (i + 1) * sz ≤ off * sz := Nat.mul_le_mul_right _ hi
        rw [Nat.add_mul] at this
        omega
      · have : (off + ds.length) * sz ≤ i * sz := Nat.mul_le_mul_right _ hi
        rw [Nat.add_mul] at this
        omega
  by_cases h1 : i < off
  · rw [if_pos h1] at hd
    exact old (.inl h1) hd
  · rw [if_neg h1] at hd
    by_cases h2 : i < off + ds.length
    · rw [if_pos h2] at hd
      obtain ⟨c, q1, q2, q3⟩ := hf.get hd
      refine ⟨c, q1, RepD.mono hg.F _ _ q2, fun j v hj => ?_⟩
      have hlt := (List.getElem?_eq_some_iff.1 (q3 j v hj)).1
      have e3 : off * sz + (i - off) * sz = i * sz := by rw [← Nat.add_mul]; congr 1; omega
      rw [e1, Nat.add_assoc, hwc, if_pos (by omega), ← q3 j v hj]
      congr 1; omega
    · rw [if_neg h2] at hd
      exact old (.inr (by omega)) hd

theorem FlatD.take {F : Froz} {sz : Nat} : ∀ {ds : List Dat} {cs : List Value}, FlatD F sz ds cs → ∀ n, FlatD F sz (ds.take n) (cs.take (n * sz))
  | [], cs, h, n => by simp only [FlatD] at h; subst h; simp [FlatD]
  | d :: r, cs, h, 0 => by simp [FlatD]
  | d :: r, cs, h, n + 1 => by
    simp only [FlatD] at h
    obtain ⟨c, cs', rfl, h1, h2, h3⟩ := h
    simp only [List.take_succ_cons, FlatD]
    refine ⟨c, cs'.take (n * sz), ?_, h1, h2, h3.take n⟩
    rw [show (n + 1) * sz = c.length + n * sz by rw [h1, Nat.add_mul]; omega, List.take_length_add_append]

theorem op_cpy (hI : Inv B C) (hE : RepE C g a) {c : Call} {x y : Operand} {sT e : TypeId} {q : TI} {ax ay : AX} {id : Id} {ver off len : Nat} {es ds : List Dat} (ho : o.op = .call c) (hc : c.callee = .builtin .copy) (ha : c.args = #[x, y])
    (h0 : c.argTypes[0]? = some sT) (hs : P.underlying sT = some (.slice e)) (hq : tI P e = some q)
    (hx : cX x = some ax) (hy : cX y = some ay) (hX : evX g ax = .rsl id ver q.size off len) (hρ : C.ρ id = some (.arr q.size ver false es)) (hY : srcOf C.ρ q.size (evX g ay) = some ds) (hb : off + len ≤ es.length) :
    Does P o a C.w (Owes B C (.dat (.int .i64 (min ds.length len : Nat))) [(id, .arr q.size ver false (splice es off (ds.take len)))]) := by
  have hrx := cX_rep hE hx
  rw [hX] at hrx
  obtain ⟨o1, ⟨cp, o2, o2'⟩, o3, _⟩ := hI.objs id _ hρ
  obtain ⟨cs, c1, c2, c3⟩ := srcOf_rep (P := P) hI o1 hY (cX_rep hE hy)
  simp only [RepA] at hrx
  obtain ⟨A, p, cap, a1, a2, a3, a4, a5, a6⟩ := hrx
  have hA : A = ⟨ver, q.size, es.length, C.μ id⟩ := by simpa [arrAt, hρ] using a1.symm
  subst hA
  obtain ⟨g1, g2, g3, g4⟩ := a6 rfl
  have hargs : c.args.map a.eval = #[a.eval x, a.eval y] := by rw [ha]; simp
  have hmin : ∀ m, Nat.min ds.length len = m → ds.take len = ds.take m ∧ (ds.take m).length = m := by
    intro m hm
    subst hm
    refine ⟨?_, by simp⟩
    rcases Nat.le_total ds.length len with h | h
    · have : Nat.min ds.length len = ds.length := Nat.min_eq_left h
      rw [this, List.take_of_length_le h, List.take_length]
    · have : Nat.min ds.length len = len := Nat.min_eq_right h
      rw [this]
  obtain ⟨hm1, hm2⟩ := hmin _ rfl
  have hft := c1.take (Nat.min ds.length len)
  obtain ⟨hfit, hw⟩ := arr_write hI hρ hft (off := off) (by rw [hm2]; exact Nat.le_trans (Nat.add_le_add_left (Nat.min_le_right ds.length len) off) hb)
  simp only at hw
  have hcells := c3 (Nat.min ds.length len) (Nat.min_le_left _ _) C.w (fun _ => rfl)
  have hrun := run_write (P := P) hI hρ rfl hfit (hft.one)
  refine .inl ⟨.int .i64 (min ds.length len : Nat), _, ?_, _, rfl, by rw [hm1], hw.1, hw.2, rep_mk_int _ _ _⟩
  have hcopy : (Builtin.copy_ c.argTypes o.type #[a.eval x, a.eval y]).run P C.w = .ok (.int .i64 (min ds.length len : Nat)) (C.w.setCells (C.μ id).b ((C.μ id).o + off * q.size) (cs.take (Nat.min ds.length len * q.size))) := by
    rw [a3]
    unfold Builtin.copy_
    simp only [h0, List.getElem?_toArray, List.getElem?_cons_zero, List.getElem?_cons_succ, Sem.run_bind, run_underlying hs, Result.andThen_ok, c2, run_sizeOf hq, hcells]
    cases p with
    | none =>
      have hz : len = 0 := by
        rcases Nat.eq_zero_or_pos len with h | h
        · exact h
        · have := a5 (by omega); simp at this
      subst hz
      simp [World.setCells, goInt]
    | some p =>
      by_cases hcap : 0 < cap
      · have := g4 hcap
        simp only [Option.some.injEq] at this
        subst this
        simp only [Sem.run_bind, hrun, Result.andThen_ok, Sem.run_pure]
        rfl
      · have hz : len = 0 := by omega
        subst hz
        simp [World.setCells, goInt, storeCells]
  simp only [execOp, ho, resolve, hc, Sem.run_bind, Sem.run_pure, Result.andThen_ok, invoke, builtin, hargs, hcopy]

theorem op_clr (hI : Inv B C) (hE : RepE C g a) {c : Call} {x : Operand} {sT e : TypeId} {q : TI} {ax : AX} {zero : List AVal} {z : Dat} {id : Id} {ver off len : Nat} {es : List Dat} (ho : o.op = .call c) (hc : c.callee = .builtin .clear) (ha : c.args = #[x])
    (h0 : c.argTypes[0]? = some sT) (hs : P.underlying sT = some (.slice e)) (hq : tI P e = some q) (hz : q.zero = some zero) (hd : zeroDat zero = some z) (hw : z.width = q.size)
    (hx : cX x = some ax) (hX : evX g ax = .rsl id ver q.size off len) (hρ : C.ρ id = some (.arr q.size ver false es)) (hb : off + len ≤ es.length) :
    Does P o a C.w (Owes B C (.tup []) [(id, .arr q.size ver false (splice es off (List.replicate len z)))]) := by
  have hrx := cX_rep hE hx
  rw [hX] at hrx
  obtain ⟨v, hv, hvs, hrep⟩ := mk_zero hq hz hd hw
  simp only [RepA] at hrx
  obtain ⟨A, p, cap, a1, a2, a3, a4, a5, a6⟩ := hrx
  have hA : A = ⟨ver, q.size, es.length, C.μ id⟩ := by simpa [arrAt, hρ] using a1.symm
  subst hA
  obtain ⟨g1, g2, g3, g4⟩ := a6 rfl
  have hargs : c.args.map a.eval = #[a.eval x] := by rw [ha]; simp
  have hft : FlatD C.F q.size (List.replicate len z) (List.replicate len v.cells.toList).flatten := by
    rw [← hw]; exact flat_replicate (hrep _) _
  obtain ⟨hfit, hwr⟩ := arr_write hI hρ hft (off := off) (by simpa using hb)
  simp only at hwr
  have hrun := run_write (P := P) hI hρ rfl hfit (hft.one)
  have hflat := zeros_flat v.cells len
  refine .inl ⟨.tuple #[], _, ?_, _, rfl, rfl, hwr.1, hwr.2, by simp [RepA, RepL]⟩
  have hclear : (Builtin.clear_ c.argTypes o.type #[a.eval x]).run P C.w = .ok (.tuple #[]) (C.w.setCells (C.μ id).b ((C.μ id).o + off * q.size) (List.replicate len v.cells.toList).flatten) := by
    rw [a3]
    unfold Builtin.clear_
    simp only [h0, List.getElem?_toArray, List.getElem?_cons_zero, List.getElem?_cons_succ, Sem.run_bind, run_underlying hs, Result.andThen_ok]
    rcases Nat.eq_zero_or_pos len with hl | hl
    · subst hl
      cases p <;> simp [World.setCells]
    · cases p with
      | none => have := a5 (by omega); simp at this
      | some p =>
        have := g4 (by omega)
        simp only [Option.some.injEq] at this
        subst this
        cases len with
        | zero => omega
        | succ n =>
          simp only [Sem.run_bind, hv, Result.andThen_ok, Builtin.zeroCells, hflat, hrun, Sem.run_pure]
  simp only [execOp, ho, resolve, hc, Sem.run_bind, Sem.run_pure, Result.andThen_ok, invoke, builtin, hargs, hclear]


theorem op_mkr (hI : Inv B C) (hE : RepE C g a) {t e : TypeId} {l c : Operand} {q : TI} {al ac : AX} {z : AVal} {ln cn : Int} {site nv : Nat} (ho : o.op = .makeSlice t l c) (hl : cX l = some al) (hc : cX c = some ac)
    (ht : P.underlying t = some (.slice e)) (hq : tI P e = some q) (hz : q.zero = some [z]) (hln : intOf? (evX g al) = some ln) (hcn : intOf? (evX g ac) = some cn)
    (hb : 0 ≤ ln ∧ ln ≤ cn ∧ q.bytes * cn ≤ room ∧ cn ≤ room) (hq1 : q.size = 1) (hzl : z.leaf = true) (hid : newVer C.ρ (site + 1, 0) = some nv) (hzi : z.ids = []) :
    Does P o a C.w (Owes B C (.rsl (site + 1, 0) nv 1 0 ln.toNat) [((site + 1, 0), .rarr nv (List.replicate ln.toNat z))]) := by
  obtain ⟨v, hv, hcs⟩ := tI_zero hq hz
  obtain ⟨z1, z2, z3⟩ := cst_reps (C := C) hcs
  have hvs : v.cells.toList.length = 1 := by have := z1.length; simpa using this
  obtain ⟨k, hk⟩ := intOf_rep hln (cX_rep hE hl)
  obtain ⟨k', hk'⟩ := intOf_rep hcn (cX_rep hE hc)
  obtain ⟨out, o1, o2, o3⟩ := run_makeSlice' (P := P) ht hq hv (by rw [hq1]; simpa using hvs) (k := k) (k' := k') hb C.w
  have hlen : (List.replicate ln.toNat z).length = ln.toNat := by simp
  have hrep : ∀ n, RepL C (List.replicate n z) (List.replicate n v.cells.toList).flatten := by
    intro n
    induction n with
    | zero => simp [RepL]
    | succ n ih =>
      rw [List.replicate_succ, List.replicate_succ, List.flatten_cons]
      exact RepL.append (l := [z]) z1 ih
  have := rarr_new hI hid (ws := List.replicate ln.toNat z) (cs := out) cn.toNat (by rw [List.all_eq_true]; intro x hx; rw [List.eq_of_mem_replicate hx]; exact hzl) (by
    have e1 : out.toList = (List.replicate ln.toNat v.cells.toList).flatten ++ (List.replicate (cn.toNat - ln.toNat) v.cells.toList).flatten := by
      rw [o1, ← List.flatten_append, List.replicate_append_replicate]
      congr 2; omega
    have e2 : ((List.replicate ln.toNat v.cells.toList).flatten).length = ln.toNat := by
      rw [List.length_flatten]; simp at hvs; simp [hvs]
    rw [hlen, e1, List.take_append_of_le_length (by rw [e2]; exact Nat.le_refl _)]
    rw [List.take_of_length_le (by rw [e2]; exact Nat.le_refl _)]
    exact hrep _) (by rw [o2, hq1, Nat.mul_one]) (by rw [hlen]; omega) e
  rw [hlen] at this
  refine .inl ⟨_, _, ?_, this⟩
  simp only [execOp, ho, hk, hk', Sem.run_bind, o3, Result.andThen_ok, Sem.run_pure]

end
end Go.Am
