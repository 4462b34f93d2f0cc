/- Parts of the proofs of the journal's statements, joined: AmStore AmSound AmCall AmFrame AmFrame2 AmCode AmMix AmDraw. -/
import Derived.Test.YtpmlioigoiipaaaP3
import Derived.Orders

/- The abstract machine: the operations that write memory. -/
set_option linter.unusedVariables false
set_option linter.unusedSimpArgs false
namespace Go.Am

theorem splice_get {α : Type} {l v : List α} {off : Nat} (h : off + v.length ≤ l.length) (j : Nat) :
    (splice l off v)[j]? = if j < off then l[j]? else if j < off + v.length then v[j - off]? else l[j]? := by
  unfold splice
  have e1 : (l.take off).length = off := by simp; omega
  by_cases h1 : j < off
  · rw [if_pos h1, List.append_assoc, List.getElem?_append_left (by omega), List.getElem?_take, if_pos h1]
  · rw [if_neg h1]
    by_cases h2 : j < off + v.length
    · rw [if_pos h2, List.getElem?_append_left (by simp [e1]; omega), List.getElem?_append_right (by omega), e1]
    · rw [if_neg h2, List.getElem?_append_right (by simp [e1]; omega), List.getElem?_drop]
      congr 1
      simp [e1]; omega

section
variable {P : Program} {o : Oper} {a : Act} {B : Base} {C : Ctx} {g : Nat → AVal}

theorem setCells_cell {w : World} {b o : Nat} {vs : List Value} (hc : ∀ j, j < vs.length → ∃ v, w.cell? ⟨b, o + j, none⟩ = some v) (x : Nat) :
    (w.setCells b o vs).cell? ⟨b, x, none⟩ = if o ≤ x ∧ x < o + vs.length then vs[x - o]? else w.cell? ⟨b, x, none⟩ := by
  by_cases h : o ≤ x ∧ x < o + vs.length
  · rw [if_pos h]
    have hlt : x - o < vs.length := by omega
    have := World.cell?_setCells_in b vs o w (fun j hj => by obtain ⟨v, hv⟩ := hc j hj; simp [hv]) (x - o) hlt
    rw [show o + (x - o) = x by omega] at this
    rw [this, List.getElem?_eq_getElem hlt]
  · rw [if_neg h]
    exact World.cell?_setCells_out b vs o w ⟨b, x, none⟩ (fun _ _ => by simp; omega)

/-- cells of one object are written -/
theorem Inv.write (hI : Inv B C) {id : Id} {ob ob' : Obj} (h : C.ρ id = some ob) (how : ob.own = true) (off : Nat) (vs : List Value) (hfit : off + vs.length ≤ (C.μ id).n)
    (hkind : match ob, ob' with
      | .box _, .box _ => True
      | .arr sz v _ es, .arr sz' v' _ es' => v ≤ v' ∧ (v = v' → sz = sz' ∧ es.length ≤ es'.length)
      | .rarr v es, .rarr v' es' => v ≤ v' ∧ (v = v' → es.length ≤ es'.length)
      | _, _ => False)
    (hobj : ∀ (C' : Ctx), C'.w = C.w.setCells (C.μ id).b ((C.μ id).o + off) vs → C'.F = C.F → Grow C C' → OwnOK C' (C.μ id) → ObjOK C' (C.μ id) ob') :
    let C' : Ctx := { w := C.w.setCells (C.μ id).b ((C.μ id).o + off) vs, F := C.F, μ := C.μ, ρ := updL C.ρ [(id, ob')] }
    Inv B C' ∧ Grow C C' := by
  intro C'
  have hown := (hI.objs id ob h).ownOK how
  have hg : Grow C C' := by
    refine ⟨fun _ _ _ h => h, fun i L _ hb => ?_, fun i A _ ha => ?_⟩
    · by_cases e : id = i
      · subst e
        cases ob <;> simp [boxAt, h] at hb
        case box cs => cases ob' <;> simp at hkind; simpa [boxAt, C', updL] using hb
      · simpa [boxAt, C', updL, e] using hb
    · by_cases e : id = i
      · subst e
        cases ob with
        | box cs => simp [arrAt, h] at ha
        | arr sz v fz es =>
          simp only [arrAt, h, Option.some.injEq] at ha
          subst ha
          cases ob' with
          | arr sz' v' fz' es' => exact ⟨⟨v', sz', es'.length, C.μ id⟩, by simp [arrAt, C', updL], hkind.1, fun e => ⟨(hkind.2 e).1.symm, rfl, (hkind.2 e).2⟩⟩
          | box cs => exact hkind.elim
          | rarr v' es' => exact hkind.elim
        | rarr v es =>
          simp only [arrAt, h, Option.some.injEq] at ha
          subst ha
          cases ob' with
          | rarr v' es' => exact ⟨⟨v', 1, es'.length, C.μ id⟩, by simp [arrAt, C', updL], hkind.1, fun e => ⟨rfl, rfl, hkind.2 e⟩⟩
          | box cs => exact hkind.elim
          | arr sz' v' fz' es' => exact hkind.elim
      · exact ⟨A, by simpa [arrAt, C', updL, e] using ha, Nat.le_refl _, fun _ => ⟨rfl, rfl, Nat.le_refl _⟩⟩
  refine ⟨?_, hg⟩
  let T : Cells := fun b x => b = (C.μ id).b ∧ (C.μ id).o + off ≤ x ∧ x < (C.μ id).o + off + vs.length
  refine hI.step id T ?_ ?_ (fun b o v hv => .inl hv) (fun b o v hv e => by simp only [C'] at hv; rw [e] at hv; cases hv) ?_ hg ?_ ?_
  · rintro b x ⟨rfl, h1, h2⟩
    exact ⟨ob, h, how, x - (C.μ id).o, by omega, rfl, by omega⟩
  · exact Kept.setCells _ _ _ _ _ fun j hj => ⟨rfl, by omega, by omega⟩
  · intro i hi
    refine ⟨?_, rfl⟩
    simp only [C', updL]
    rw [if_neg (fun e => hi e.symm)]
  · intro o' ho'
    have : o' = ob' := by simpa [C', updL] using ho'.symm
    subst this
    refine hobj C' rfl rfl hg ?_
    intro j hj
    obtain ⟨⟨v, hv⟩, hf, hF⟩ := hown j hj
    refine ⟨?_, ?_, hF⟩
    · have := setCells_cell (w := C.w) (b := (C.μ id).b) (o := (C.μ id).o + off) (vs := vs) (fun j hj => by
        obtain ⟨⟨v, hv⟩, _⟩ := hown (off + j) (by omega)
        exact ⟨v, by rwa [← Nat.add_assoc] at hv⟩) ((C.μ id).o + j)
      show ∃ v, (C.w.setCells (C.μ id).b ((C.μ id).o + off) vs).cell? ⟨(C.μ id).b, (C.μ id).o + j, none⟩ = some v
      rw [this]
      split
      · rename_i hc
        exact ⟨vs[(C.μ id).o + j - ((C.μ id).o + off)], List.getElem?_eq_getElem (by omega)⟩
      · exact ⟨v, hv⟩
    · show (C.w.setCells (C.μ id).b ((C.μ id).o + off) vs).frozen? _ = false
      rw [World.frozen?_setCells]; exact hf
  · intro o' ho' _
    exact .inr (.inr ⟨ob, h, how, rfl⟩)

/-- what the cells of the object hold behind the write -/
theorem write_cell (hI : Inv B C) {id : Id} {ob : Obj} (h : C.ρ id = some ob) (how : ob.own = true) {off : Nat} {vs : List Value} (hfit : off + vs.length ≤ (C.μ id).n) (x : Nat) :
    (C.w.setCells (C.μ id).b ((C.μ id).o + off) vs).cell? ⟨(C.μ id).b, (C.μ id).o + x, none⟩ = if off ≤ x ∧ x < off + vs.length then vs[x - off]? else C.w.cell? ⟨(C.μ id).b, (C.μ id).o + x, none⟩ := by
  have hown := (hI.objs id ob h).ownOK how
  rw [setCells_cell (fun j hj => by
    obtain ⟨⟨v, hv⟩, _⟩ := hown (off + j) (by omega)
    exact ⟨v, by rwa [← Nat.add_assoc] at hv⟩)]
  by_cases hc : off ≤ x ∧ x < off + vs.length
  · rw [if_pos hc, if_pos (by omega)]
    congr 1; omega
  · rw [if_neg hc, if_neg (by omega)]

theorem run_write (hI : Inv B C) {id : Id} {ob : Obj} (h : C.ρ id = some ob) (how : ob.own = true) {off : Nat} {vs : List Value} (hfit : off + vs.length ≤ (C.μ id).n) (h1 : ∀ v ∈ vs, v.oneCell' = true) :
    (storeCells ⟨(C.μ id).b, (C.μ id).o + off, none⟩ vs).run P C.w = .ok () (C.w.setCells (C.μ id).b ((C.μ id).o + off) vs) := by
  have hown := (hI.objs id ob h).ownOK how
  have := run_storeCells_cells (P := P) (C.μ id).b ((C.μ id).o + off) vs 0 C.w (fun j hj => by
      obtain ⟨⟨v, hv⟩, _⟩ := hown (off + j) (by omega)
      rw [show (C.μ id).o + off + 0 + j = (C.μ id).o + (off + j) by omega, hv]; rfl)
    (fun j hj => by
      obtain ⟨_, hf, _⟩ := hown (off + j) (by omega)
      rwa [show (C.μ id).o + off + 0 + j = (C.μ id).o + (off + j) by omega]) h1
  simpa using this

theorem updL_frz_other {ρ : Look} {i : Id} : ∀ (fs : List Id), i ∉ fs → ∀ ρ' : Look, updL ρ' (frz ρ fs) i = ρ' i
  | [], _, ρ' => rfl
  | j :: r, h, ρ' => by
    simp only [List.mem_cons, not_or] at h
    simp only [frz]
    split
    · simp only [updL]
      rw [updL_frz_other r h.2, if_neg (fun e => h.1 e.symm)]
    · exact updL_frz_other r h.2 ρ'

theorem run_storeVar' {t : TypeId} {q : TI} (hq : tI P t = some q) {b x : Nat} {v : Value} (hs : v.cells.size = q.size) {w w' : World} (hr : (storeCells ⟨b, x, none⟩ v.cells.toList).run P w = .ok () w') :
    (storeVar t ⟨b, x, none⟩ v).run P w = .ok () w' := by
  unfold storeVar
  simp only [Sem.run_bind, run_sizeOf hq, Result.andThen_ok, hs, ne_eq, not_true_eq_false, if_false, hr]

theorem op_st (hI : Inv B C) (hE : RepE C g a) {t : TypeId} {x y : Operand} {q : TI} {ax ay : AX} {upd : List (Id × Obj)} (ho : o.op = .store t x y) (hx : cX x = some ax) (hy : cX y = some ay) (hq : tI P t = some q) (hq1 : 1 ≤ q.size)
    (h : storeE C.ρ q.size (evX g ax) (evX g ay) = some upd) : Does P o a C.w (Owes B C (.tup []) upd) := by
  have hrx := cX_rep hE hx
  have hry := cX_rep hE hy
  suffices hs : ∃ b p C', a.eval x = .pointer (some ⟨b, p, none⟩) ∧ (a.eval y).cells.size = q.size ∧ (storeCells ⟨b, p, none⟩ (a.eval y).cells.toList).run P C.w = .ok () C'.w ∧ C'.ρ = updL C.ρ upd ∧ Inv B C' ∧ Grow C C' by
    obtain ⟨b, p, C', h1, h2, h3, h4, h5, h6⟩ := hs
    refine .inr (.inl ⟨C'.w, ?_, C', rfl, h4, h5, h6, ?_⟩)
    · simp only [execOp, ho, Instr.storeAt, h1, Instr.sureAddr, Sem.run_bind, Sem.run_pure, Result.andThen_ok, run_storeVar' hq h2 h3]
    · simp [RepA, undef, RepL]
  generalize evX g ax = X at h hrx
  generalize evX g ay = Y at h hry
  unfold storeE at h
  split at h
  · rename_i id off
    split at h
    · rename_i cs hρ
      split at h
      · rename_i hc
        obtain ⟨c1, c2, c3⟩ := hc
        simp only [Option.some.injEq] at h
        subst h
        simp only [RepA] at hrx
        obtain ⟨L, l1, l2⟩ := hrx
        have hL : L = C.μ id := by simpa [boxAt, hρ] using l1.symm
        subst hL
        obtain ⟨y1, y2⟩ := hry.cells c3
        have hlen : (a.eval y).cells.toList.length = q.size := by rw [y1.length, c1]
        obtain ⟨o1, o2, o3, o4⟩ := hI.objs id _ hρ
        have hfit : off + (a.eval y).cells.toList.length ≤ (C.μ id).n := by rw [hlen, o1]; omega
        have hw := hI.write hρ rfl off (a.eval y).cells.toList (ob' := .box (splice cs off Y.cells)) hfit trivial (fun C' e1 e2 hg ho' => by
          refine ⟨by rw [length_splice _ _ _ (by omega), o1], all_splice o2 c3 off, ho', fun j z hz => ?_⟩
          rw [splice_get (by omega)] at hz
          rw [e1, write_cell hI hρ rfl hfit]
          have hyl : Y.cells.length = (a.eval y).cells.toList.length := y1.length.symm
          by_cases h1 : j < off
          · rw [if_pos h1] at hz
            rw [if_neg (by omega)]
            obtain ⟨v, hv, hr⟩ := o4 j z hz
            exact ⟨v, hv, hr.grow hg⟩
          · rw [if_neg h1] at hz
            by_cases h2 : j < off + Y.cells.length
            · rw [if_pos h2] at hz
              rw [if_pos (by omega)]
              obtain ⟨v, hv, hr⟩ := y1.get hz
              exact ⟨v, hv, hr.grow hg⟩
            · rw [if_neg h2] at hz
              rw [if_neg (by omega)]
              obtain ⟨v, hv, hr⟩ := o4 j z hz
              exact ⟨v, hv, hr.grow hg⟩)
        simp only at hw
        exact ⟨_, _, _, l2, by simpa using hlen, run_write hI hρ rfl hfit y2, rfl, hw.1, hw.2⟩
      · cases h
    · cases h
  · rename_i id ver i off
    split at h
    · rename_i sz ver' es hρ
      split at h
      · rename_i d fs e hd he
        split at h
        · rename_i hc
          obtain ⟨rfl, c2, c3, c4, c5⟩ := hc
          simp only [Option.some.injEq] at h
          subst h
          simp only [RepA] at hrx
          obtain ⟨A, p, a1, a2, a3, a4⟩ := hrx
          have hA : A = ⟨ver, sz, es.length, C.μ id⟩ := by simpa [arrAt, hρ] using a1.symm
          subst hA
          obtain ⟨g1, g2⟩ := a4 rfl
          subst g2
          obtain ⟨C1, k1, k2, k3, k4, k5, k6⟩ := hI.freeze fs
          have hV := dec_rep k5.F k6 hd hry
          have hlen : (a.eval y).cells.toList.length = q.size := by rw [hV.1.length, c2]
          have hρ1 : C1.ρ id = some (.arr sz ver false es) := by rw [k3, updL_frz_other fs c4]; exact hρ
          obtain ⟨o1, ⟨cap, o2, o2'⟩, o3, _⟩ := k4.objs id _ hρ1
          obtain ⟨_, oel⟩ := o3 rfl
          have hi : i < es.length := g1
          have hbound : i * sz + sz ≤ cap * sz := by
            calc i * sz + sz = (i + 1) * sz := by rw [Nat.add_mul]; omega
              _ ≤ cap * sz := Nat.mul_le_mul_right _ (by omega)
          have hfit : i * sz + off + (a.eval y).cells.toList.length ≤ (C1.μ id).n := by rw [hlen, o2]; omega
          have helem : ∀ F, C1.F.le F → ∀ c, RepD F e c → RepD F (if e.isAgg then .agg (splice e.cells off d.cells) else d) (splice c off (a.eval y).cells.toList) := by
            intro F hF c hec
            have hdF := RepD.mono hF _ _ hV.1
            cases hagg : e.isAgg
            · simp only [Bool.false_eq_true, if_false]
              obtain ⟨u, rfl, _, _⟩ := hec.leaf hagg
              have hw1 : sz = 1 := by
                have := hec.length
                simp only [List.length_cons, List.length_nil] at this
                omega
              have : off = 0 ∧ (a.eval y).cells.toList.length = 1 := by omega
              rw [this.1]
              simp only [splice, List.take_zero, List.nil_append, Nat.zero_add, this.2]
              simpa using hdF
            · simp only [if_true, RepD]
              have q1 := hec.cellsAgg
              have q2 := hdF.cellsAgg
              unfold splice
              rw [q2.length]
              exact ((q1.take off).append q2).append (q1.drop _)
          have hw := k4.write hρ1 rfl (i * sz + off) (a.eval y).cells.toList (ob' := .arr sz ver false (es.set i (if e.isAgg then .agg (splice e.cells off d.cells) else d))) hfit
            ⟨Nat.le_refl _, fun _ => ⟨rfl, by simp⟩⟩ (fun C' e1 e2 hg ho' => by
            refine ⟨o1, ⟨cap, o2, by simpa using o2'⟩, fun _ => ⟨ho', fun k z hz => ?_⟩, fun e => by cases e⟩
            have hwc := write_cell k4 hρ1 rfl hfit
            rw [List.getElem?_set] at hz
            split at hz
            · rename_i hik
              subst hik
              simp only [Option.some.injEq] at hz
              subst hz
              obtain ⟨c, q1, q2, q3⟩ := oel i e he
              refine ⟨_, ?_, helem C'.F (by rw [e2]; exact fun _ _ _ h => h) c (by rw [e2]; exact q2), fun j v hj => ?_⟩
              · rw [length_splice _ _ _ (by omega), q1]
              · rw [e1, Nat.add_assoc, hwc]
                rw [splice_get (by omega)] at hj
                by_cases h1 : j < off
                · rw [if_pos h1] at hj
                  rw [if_neg (by omega)]
                  have := q3 j v hj
                  rwa [Nat.add_assoc] at this
                · rw [if_neg h1] at hj
                  by_cases h2 : j < off + (a.eval y).cells.toList.length
                  · rw [if_pos h2] at hj
                    rw [if_pos (by omega), ← hj]
                    congr 1; omega
                  · rw [if_neg h2] at hj
                    rw [if_neg (by omega)]
                    have := q3 j v hj
                    rwa [Nat.add_assoc] at this
            · rename_i hik
              obtain ⟨c, q1, q2, q3⟩ := oel k z hz
              refine ⟨c, q1, RepD.mono hg.F _ _ q2, fun j v hj => ?_⟩
              have hj' : j < sz := by rw [← q1]; exact (List.getElem?_eq_some_iff.1 hj).1
              rw [e1, Nat.add_assoc, hwc, if_neg]
              · have := q3 j v hj
                rwa [Nat.add_assoc] at this
              · intro hcon
                rcases Nat.lt_or_gt_of_ne hik with hlt | hgt
                · have : (i + 1) * sz ≤ k * sz := Nat.mul_le_mul_right _ hlt
                  rw [Nat.add_mul] at this
                  omega
                · have : (k + 1) * sz ≤ i * sz := Nat.mul_le_mul_right _ hgt
                  rw [Nat.add_mul] at this
                  omega)
          simp only at hw
          have hrun := run_write (P := P) k4 hρ1 rfl hfit (fun v hv => hV.1.one v hv)
          refine ⟨(C.μ id).b, (C.μ id).o + i * sz + off, _, a3, by simpa using hlen, ?_, ?_, hw.1, k5.trans hw.2⟩
          · rw [k2, k1, ← Nat.add_assoc] at hrun
            rw [hrun]
            simp only [k1, k2, Nat.add_assoc]
          · rw [k3, updL_append]
        · cases h
      · cases h
    · rename_i ver' es hρ
      split at h
      · rename_i hc
        obtain ⟨rfl, rfl, c3, c4, c5⟩ := hc
        simp only [Option.some.injEq] at h
        subst h
        simp only [RepA] at hrx
        obtain ⟨A, p, a1, a2, a3, a4⟩ := hrx
        have hA : A = ⟨ver, 1, es.length, C.μ id⟩ := by simpa [arrAt, hρ] using a1.symm
        subst hA
        obtain ⟨g1, g2⟩ := a4 rfl
        subst g2
        obtain ⟨o1, o2, o3, o4⟩ := hI.objs id _ hρ
        obtain ⟨y1, y2⟩ := hry.leaf c5
        have hcells : (a.eval y).cells = #[a.eval y] := cells_of_not_agg y2
        have hfit : i + [a.eval y].length ≤ (C.μ id).n := by simp; omega
        have hw := hI.write hρ rfl i [a.eval y] (ob' := .rarr ver (es.set i Y)) hfit ⟨Nat.le_refl _, fun _ => by simp⟩ (fun C' e1 e2 hg ho' => by
          refine ⟨by simpa using o1, ?_, ho', fun j z hz => ?_⟩
          · rw [List.all_eq_true] at o2 ⊢
            intro z hz
            rcases List.mem_or_eq_of_mem_set hz with hz | hz
            · exact o2 z hz
            · subst hz; exact c5
          · rw [e1, write_cell hI hρ rfl hfit]
            rw [List.getElem?_set] at hz
            split at hz
            · rename_i hij
              subst hij
              simp only [Option.some.injEq] at hz
              subst hz
              rw [if_pos (by simp)]
              exact ⟨a.eval y, by simp, hry.grow hg⟩
            · rename_i hij
              rw [if_neg (by simp; omega)]
              obtain ⟨v, hv, hr⟩ := o4 j z hz
              exact ⟨v, hv, hr.grow hg⟩)
        simp only at hw
        have hrun := run_write (P := P) hI hρ rfl hfit (by simpa using y1)
        refine ⟨(C.μ id).b, (C.μ id).o + i * 1 + 0, _, a3, by rw [hcells]; simp [c3], ?_, rfl, hw.1, hw.2⟩
        rw [hcells]
        simpa using hrun
      · cases h
    · cases h
  · cases h

/-! ## A nil slice that is going to grow -/

theorem arr_nil (hI : Inv B C) {id : Id} {nv : Nat} (hid : newVer C.ρ id = some nv) {ob : Obj} {sz : Nat} (hsz : 1 ≤ sz) (hob : ob = .arr sz nv false [] ∨ (ob = .rarr nv [] ∧ sz = 1)) :
    Owes B C (.rsl id nv sz 0 0) [(id, ob)] (.slice none 0 0) C.w := by
  obtain ⟨n1, n2, n3⟩ := newVer_lt hid
  have hlt : ∀ A, arrAt C id = some A → A.ver < nv := by
    intro A hA
    simp only [arrAt] at hA
    split at hA
    · rename_i e; simp only [Option.some.injEq] at hA; subst hA; exact n2 _ _ _ _ e
    · rename_i e; simp only [Option.some.injEq] at hA; subst hA; exact n3 _ _ e
    · cases hA
  obtain ⟨h1, h2, h3⟩ := hI.allocO C.w (Kept.refl _ _) id ob ⟨0, 0, 0⟩ ⟨n1, fun A hA => by
      rcases hob with rfl | ⟨rfl, _⟩ <;> exact hlt A hA⟩ (.inr rfl) (fun C' e1 e2 hg => by
      have hown : OwnOK C' ⟨0, 0, 0⟩ := fun j hj => by simp at hj
      rcases hob with rfl | ⟨rfl, rfl⟩
      · exact ⟨hsz, ⟨0, by simp, by simp⟩, fun _ => ⟨hown, by simp⟩, fun e => by cases e⟩
      · exact ⟨by simp, by simp, hown, by simp⟩)
  refine ⟨{ w := C.w, F := C.F, μ := fun i => if i = id then ⟨0, 0, 0⟩ else C.μ i, ρ := fun i => if i = id then some ob else C.ρ i }, rfl, h3, h1, h2, ?_⟩
  simp only [RepA]
  refine ⟨⟨nv, sz, 0, ⟨0, 0, 0⟩⟩, none, 0, ?_, Nat.le_refl _, rfl, Nat.le_refl _, by simp, fun _ => ⟨rfl, by simp, by simp, by simp⟩⟩
  rcases hob with rfl | ⟨rfl, rfl⟩ <;> simp [arrAt]

theorem op_mvNil (hI : Inv B C) {site nv sz : Nat} {ob : Obj} (ho : o.op = .move (.const (.slice none 0 0)) ∨ o.op = .assign (.const (.slice none 0 0))) (hid : newVer C.ρ (site + 1, 0) = some nv) (hsz : 1 ≤ sz)
    (hob : ob = .arr sz nv false [] ∨ (ob = .rarr nv [] ∧ sz = 1)) : Does P o a C.w (Owes B C (.rsl (site + 1, 0) nv sz 0 0) [((site + 1, 0), ob)]) := by
  refine .inl ⟨_, _, ?_, arr_nil hI hid hsz hob⟩
  rcases ho with ho | ho <;> simp [execOp, ho, Act.eval]

/-! ## append -/

/-- the world behind an append: in place, or in a new block -/
theorem run_app {sT xT e : TypeId} {ty : TypeId} {q : TI} {argTypes : Array TypeId} (h0 : argTypes[0]? = some sT) (h1 : argTypes[1]? = some xT) (hs : P.underlying sT = some (.slice e))
    (hx : (∃ e', P.underlying xT = some (.slice e')) ∨ P.underlying xT = some .string) (hq : tI P e = some q) (hz : q.zero.isSome = true) {w : World} {base : Option Addr} {len cap b p : Nat} {x : Value} {n : Nat} {old news : List Value}
    (hn : ∀ w', (Builtin.lenOf x).run P w' = .ok n w') (hf : ∀ w', (∀ ad, w'.cell? ad = w.cell? ad) → (Builtin.firstCells q.size n x).run P w' = .ok news.toArray w')
    (hnl : news.length = n * q.size) (hone : ∀ v ∈ news, v.oneCell' = true) (hbase : 0 < cap → base = some ⟨b, p, none⟩) (hlc : len ≤ cap)
    (hol : old.length = len * q.size) (hold : ∀ (j : Nat) (v : Value), old[j]? = some v → w.cell? ⟨b, p + j, none⟩ = some v)
    (hown : ∀ j, j < cap * q.size → (∃ v, w.cell? ⟨b, p + j, none⟩ = some v) ∧ w.frozen? ⟨b, p + j, none⟩ = false)
    (hroom : (len + n) * (q.bytes + 1) ≤ room) (hpos : 0 < n) (hsz : ∀ w z, (zeroValue e).run P w = .ok z w → z.cells.size = q.size) :
    (len + n ≤ cap ∧ base = some ⟨b, p, none⟩ ∧ (Builtin.append_ argTypes ty #[.slice base len cap, x]).run P w = .ok (.slice base (len + n) cap) (w.setCells b (p + len * q.size) news)) ∨
    (∃ (cap' : Nat) (cs : Array Value), len + n ≤ cap' ∧ cs.size = cap' * q.size ∧ cs.toList.take ((len + n) * q.size) = old ++ news ∧
      (Builtin.append_ argTypes ty #[.slice base len cap, x]).run P w = .ok (.slice (some ⟨w.heap.size, 0, none⟩) (len + n) cap') (w.drew.alloc (.cells cs e))) := by
  obtain ⟨i, d, i1, i2, i3, i4, _⟩ := tI_info hq
  obtain ⟨z, hzv⟩ := tI_zero_some hq hz
  have hr : room = 1099511627776 := rfl
  have hzeros : ∀ (w : World), (do pure ((← underlying xT) matches .int _) : Sem Bool).run P w = .ok false w := by
    intro w
    rcases hx with ⟨e', hx⟩ | hx <;> simp only [Sem.run_bind, run_underlying hx, Result.andThen_ok] <;> rfl
  by_cases hfit : len + n ≤ cap
  · left
    have hb := hbase (by omega)
    refine ⟨hfit, hb, ?_⟩
    have hst := run_storeCells_cells (P := P) b (p + len * q.size) news 0 w (fun j hj => by
        have : len * q.size + j < cap * q.size := by
          have : (len + n) * q.size ≤ cap * q.size := Nat.mul_le_mul_right _ hfit
          rw [Nat.add_mul] at this
          omega
        obtain ⟨⟨v, hv⟩, _⟩ := hown (len * q.size + j) this
        rw [show p + len * q.size + 0 + j = p + (len * q.size + j) by omega, hv]; rfl)
      (fun j hj => by
        have : len * q.size + j < cap * q.size := by
          have : (len + n) * q.size ≤ cap * q.size := Nat.mul_le_mul_right _ hfit
          rw [Nat.add_mul] at this
          omega
        obtain ⟨_, hfz⟩ := hown (len * q.size + j) this
        rwa [show p + len * q.size + 0 + j = p + (len * q.size + j) by omega]) hone
    simp only [Nat.add_zero] at hst
    have hst' : (storeCells ((⟨b, p, none⟩ : Addr).add (len * q.size)) news).run P w = .ok () (w.setCells b (p + len * q.size) news) := by rw [Addr.add_mk]; exact hst
    unfold Builtin.append_
    simp only [h0, h1, List.getElem?_toArray, List.getElem?_cons_zero, List.getElem?_cons_succ]
    rcases hx with ⟨e', hx⟩ | hx <;>
    simp only [Sem.run_bind, run_underlying hs, Result.andThen_ok, run_sizeOf hq, run_underlying hx, Sem.run_pure, Bool.false_eq_true, if_false, hn, hfit, if_true, Bool.not_false, hf w (fun _ => rfl), hb, hst']
  · right
    have hneed : ¬ (((len + n : Nat) : Int) > IntKind.i64.max ∧ (False ∨ i.bytes = 0)) := by
      intro ⟨h, _⟩
      have : IntKind.i64.max = 9223372036854775807 := by decide
      have : len + n ≤ (len + n) * (q.bytes + 1) := Nat.le_mul_of_pos_right _ (by omega)
      omega
    have hmul : (len + n) * q.bytes ≤ (len + n) * (q.bytes + 1) := Nat.mul_le_mul_left _ (by omega)
    have hgrow : ¬ (Builtin.nextslicecap (len + n) cap * i.bytes > 2 ^ 48) := by
      have := growslice_fits (need := len + n) (old := cap) (bytes := i.bytes) (by omega) (by rw [← i4]; omega)
      omega
    refine ⟨grownCap w (len + n) cap e, old.toArray ++ news.toArray ++ Builtin.zeroCells z.cells (grownCap w (len + n) cap e - (len + n)), grownCap_ge w _ _ _, ?_, ?_, ?_⟩
    · have hge := grownCap_ge w (len + n) cap e
      simp only [Array.size_append, List.size_toArray, size_zeroCells, hol, hnl, hsz _ _ (hzv w), ← Nat.add_mul]
      congr 1; omega
    · simp only [Array.toList_append, List.append_assoc]
      rw [← List.append_assoc, List.take_append_of_le_length (by simp only [List.length_append, hol, hnl, Nat.add_mul]; omega)]
      rw [List.take_of_length_le (by simp only [List.length_append, hol, hnl, Nat.add_mul]; omega)]
    · have hfo : ∀ w', (∀ ad, w'.cell? ad = w.cell? ad) → (Builtin.firstCells q.size len (.slice base len cap)).run P w' = .ok old.toArray w' := by
        intro w' hw'
        refine run_first_slice hol ?_
        intro hp
        have : 0 < cap := by
          rcases Nat.eq_zero_or_pos len with h | h
          · rw [h] at hol; simp at hol; simp [hol] at hp
          · omega
        exact ⟨b, p, hbase this, fun j v hj => by rw [hw']; exact hold j v hj⟩
      have hch : (choose (.appendCap (len + n) cap e)).run P w = .ok (grownCap w (len + n) cap e) w.drew := by
        rw [run_choose]; rfl
      unfold Builtin.append_
      simp only [h0, h1, List.getElem?_toArray, List.getElem?_cons_zero, List.getElem?_cons_succ]
      rcases hx with ⟨e', hx⟩ | hx <;>
      simp only [Sem.run_bind, run_underlying hs, Result.andThen_ok, run_sizeOf hq, run_underlying hx, Sem.run_pure, Bool.false_eq_true, if_false, hn, hfit, run_typeInfo i1, hneed, hgrow, hch, run_askRoom,
        hfo w.drew (fun _ => rfl), Bool.not_false, if_true, hf w.drew (fun _ => rfl), hzv, newRow, run_newObj] <;> rfl


theorem zero_size {e : TypeId} {q : TI} (hq : tI P e = some q) (hok : ∃ l, q.zero = some l ∧ l.length = q.size) : ∀ w z, (zeroValue e).run P w = .ok z w → z.cells.size = q.size := by
  obtain ⟨l, hz, hl⟩ := hok
  obtain ⟨v, hv, hc⟩ := tI_zero hq hz
  intro w z hzv
  rw [hv] at hzv
  cases hzv
  have := allSome_spec hc
  have := congrArg List.length this
  simp at this
  omega

theorem op_app (hI : Inv B C) (hE : RepE C g a) {c : Call} {x y : Operand} {sT xT e : TypeId} {q : TI} {ax ay : AX} {id : Id} {ver len : Nat} {es ds : List Dat} (ho : o.op = .call c) (hc : c.callee = .builtin .append) (ha : c.args = #[x, y])
    (h0 : c.argTypes[0]? = some sT) (h1 : c.argTypes[1]? = some xT) (hs : P.underlying sT = some (.slice e)) (hxt : (∃ e', P.underlying xT = some (.slice e')) ∨ P.underlying xT = some .string) (hq : tI P e = some q) (hok : ∃ l, q.zero = some l ∧ l.length = q.size)
    (hx : cX x = some ax) (hy : cX y = some ay) (hX : evX g ax = .rsl id ver q.size 0 len) (hρ : C.ρ id = some (.arr q.size ver false es)) (hY : srcOf C.ρ q.size (evX g ay) = some ds) (hlen : len = es.length)
    (hroom : (len + ds.length) * (q.bytes + 1) ≤ room) :
    Does P o a C.w (Owes B C (if ds.length = 0 then .rsl id ver q.size 0 len else .rsl id (ver + 1) q.size 0 (len + ds.length)) (if ds.length = 0 then [] else [(id, .arr q.size (ver + 1) false (es ++ ds))])) := by
  have hrx := cX_rep hE hx
  rw [hX] at hrx
  obtain ⟨o1, ⟨cp, o2, o2'⟩, o3, _⟩ := hI.objs id _ hρ
  obtain ⟨oown, oel⟩ := o3 rfl
  obtain ⟨cs, c1, c2, c3⟩ := srcOf_rep (P := P) hI o1 hY (cX_rep hE hy)
  have hrx' := hrx
  simp only [RepA] at hrx
  obtain ⟨A, p, cap, a1, a2, a3, a4, a5, a6⟩ := hrx
  have hA : A = ⟨ver, q.size, es.length, C.μ id⟩ := by simpa [arrAt, hρ] using a1.symm
  subst hA
  obtain ⟨g1, g2, g3, g4⟩ := a6 rfl
  simp only [Nat.zero_add, Nat.zero_mul, Nat.add_zero] at g3 g4
  have hargs : c.args.map a.eval = #[a.eval x, a.eval y] := by rw [ha]; simp
  have hexec : ∀ v w', (Builtin.append_ c.argTypes o.type #[a.eval x, a.eval y]).run P C.w = .ok v w' → (execOp a.eval o).run P C.w = .ok (.value v) w' := by
    intro v w' h
    simp only [execOp, ho, resolve, hc, Sem.run_bind, Sem.run_pure, Result.andThen_ok, invoke, builtin, hargs, h]
  have hzs := zero_size hq hok
  have hz : q.zero.isSome = true := by obtain ⟨l, hl, _⟩ := hok; simp [hl]
  by_cases hd : ds.length = 0
  · simp only [hd, if_true]
    have hds : ds = [] := List.eq_nil_of_length_eq_zero hd
    subst hds
    refine .inl ⟨a.eval x, C.w, hexec _ _ ?_, C, rfl, rfl, hI, Grow.refl C, hrx'⟩
    have hxz : (do pure ((← underlying xT) matches .int _) : Sem Bool).run P C.w = .ok false C.w := by
      rcases hxt with ⟨e', hxt⟩ | hxt <;> simp only [Sem.run_bind, run_underlying hxt, Result.andThen_ok] <;> rfl
    have hf := c3 0 (Nat.zero_le _) C.w (fun _ => rfl)
    simp only [Nat.zero_mul, List.take_zero] at hf
    rw [a3]
    unfold Builtin.append_
    simp only [h0, h1, List.getElem?_toArray, List.getElem?_cons_zero, List.getElem?_cons_succ]
    rcases hxt with ⟨e', hxt⟩ | hxt <;>
    simp only [Sem.run_bind, run_underlying hs, Result.andThen_ok, run_sizeOf hq, run_underlying hxt, Sem.run_pure, Bool.false_eq_true, if_false, c2, a4, if_true, Bool.not_false, hf, List.length_nil, Nat.add_zero] <;>
    (cases p <;> simp only [storeCells, Sem.run_pure, Sem.run_bind, Result.andThen_ok])
  · simp only [hd, if_false]
    obtain ⟨old, f1, f2⟩ := flat_of (F := C.F) (sz := q.size) (fun j => C.w.cell? ⟨(C.μ id).b, j, none⟩) (ds := es) (C.μ id).o (fun i d hd => oel i d hd)
    have hcl := c1.length
    have hn : c1 = c1 := rfl
    have happ := run_app (P := P) (ty := o.type) (w := C.w) (base := p) (len := len) (cap := cap) (b := (C.μ id).b) (p := (C.μ id).o) (x := a.eval y) (n := ds.length) (old := old) (news := cs) h0 h1 hs hxt hq hz c2
      (fun w' hw' => by
        have := c3 ds.length (Nat.le_refl _) w' hw'
        rwa [List.take_of_length_le (by rw [hcl]; exact Nat.le_refl _)] at this) hcl c1.one g4 a4
      (by rw [f1.length, hlen]) f2 (fun j hj => by
        rw [← g3] at hj
        exact ⟨(oown j hj).1, (oown j hj).2.1⟩) hroom (by omega) hzs
    rcases happ with ⟨r1, r2, r3⟩ | ⟨cap', out, r1, r2, r3, r4⟩
    · have hfit : len * q.size + cs.length ≤ (C.μ id).n := by
        rw [g3, hcl, ← Nat.add_mul]
        exact Nat.mul_le_mul_right _ r1
      have hw := hI.write hρ rfl (len * q.size) cs (ob' := .arr q.size (ver + 1) false (es ++ ds)) hfit ⟨Nat.le_succ _, fun e => by omega⟩ (fun C' e1 e2 hg ho' => by
        refine ⟨o1, ⟨cap, g3, by simp; omega⟩, fun _ => ⟨ho', fun i d hd => ?_⟩, fun e => by cases e⟩
        have hwc := write_cell hI hρ rfl hfit
        rcases Nat.lt_or_ge i es.length with hlt | hge
        · rw [List.getElem?_append_left hlt] at hd
          obtain ⟨u, q1, q2, q3⟩ := oel i d hd
          refine ⟨u, q1, RepD.mono hg.F _ _ q2, fun j v hj => ?_⟩
          have hj' : j < q.size := by rw [← q1]; exact (List.getElem?_eq_some_iff.1 hj).1
          have : i * q.size + j < len * q.size := by
            have : (i + 1) * q.size ≤ len * q.size := Nat.mul_le_mul_right _ (by omega)
            rw [Nat.add_mul] at this
            omega
          rw [e1, Nat.add_assoc, hwc, if_neg (by omega), ← Nat.add_assoc]
          exact q3 j v hj
        · rw [List.getElem?_append_right hge] at hd
          obtain ⟨u, q1, q2, q3⟩ := c1.get hd
          refine ⟨u, q1, RepD.mono hg.F _ _ q2, fun j v hj => ?_⟩
          have hj' : j < q.size := by rw [← q1]; exact (List.getElem?_eq_some_iff.1 hj).1
          have hge' : len * q.size + (i - es.length) * q.size = i * q.size := by rw [← Nat.add_mul]; congr 1; omega
          have hlt' := (List.getElem?_eq_some_iff.1 (q3 j v hj)).1
          rw [e1, Nat.add_assoc, hwc, if_pos (by omega), ← q3 j v hj]
          congr 1; omega)
      simp only at hw
      refine .inl ⟨_, _, hexec _ _ (by rw [a3]; exact r3), _, rfl, rfl, hw.1, hw.2, ?_⟩
      simp only [RepA]
      refine ⟨⟨ver + 1, q.size, (es ++ ds).length, C.μ id⟩, p, cap, by simp [arrAt, updL], Nat.le_refl _, rfl, r1, a5, fun _ => ⟨rfl, by simp; omega, by simpa using g3, by simpa using g4⟩⟩
    · obtain ⟨I1, G1⟩ := hI.drew
      have hnv : newVer C.ρ id = some (ver + 1) := by simp [newVer, hρ]
      have hnew := arr_new I1 (id := id) (nv := ver + 1) hnv o1 (ds := es ++ ds) (cs := out) cap' ⟨out, by
        rw [List.length_append, ← hlen, r3]
        exact f1.append c1, r2, rfl⟩ (by simp; omega) e
      obtain ⟨C', w1, w2, w3, w4, w5⟩ := hnew
      refine .inl ⟨_, _, hexec _ _ (by rw [a3]; exact r4), C', w1, w2, w3, G1.trans w4, ?_⟩
      have hl2 : (es ++ ds).length = len + ds.length := by simp [hlen]
      rw [hl2] at w5
      exact w5

theorem op_appNil (hI : Inv B C) (hE : RepE C g a) {c : Call} {x y : Operand} {sT xT e : TypeId} {q : TI} {ax ay : AX} {site nv : Nat} {ds : List Dat} (ho : o.op = .call c) (hc : c.callee = .builtin .append) (ha : c.args = #[x, y])
    (h0 : c.argTypes[0]? = some sT) (h1 : c.argTypes[1]? = some xT) (hs : P.underlying sT = some (.slice e)) (hxt : (∃ e', P.underlying xT = some (.slice e')) ∨ P.underlying xT = some .string) (hq : tI P e = some q) (hok : ∃ l, q.zero = some l ∧ l.length = q.size) (hsz : 1 ≤ q.size)
    (hx : cX x = some ax) (hy : cX y = some ay) (hX : evX g ax = .nils) (hY : srcOf C.ρ q.size (evX g ay) = some ds) (hid : newVer C.ρ (site + 1, 0) = some nv) (hd : ds.length ≠ 0)
    (hroom : ds.length * (q.bytes + 1) ≤ room) :
    Does P o a C.w (Owes B C (.rsl (site + 1, 0) nv q.size 0 ds.length) [((site + 1, 0), .arr q.size nv false ds)]) := by
  have hrx := cX_rep hE hx
  rw [hX] at hrx
  simp only [RepA] at hrx
  obtain ⟨cs, c1, c2, c3⟩ := srcOf_rep (P := P) hI hsz hY (cX_rep hE hy)
  have hargs : c.args.map a.eval = #[a.eval x, a.eval y] := by rw [ha]; simp
  have hexec : ∀ v w', (Builtin.append_ c.argTypes o.type #[a.eval x, a.eval y]).run P C.w = .ok v w' → (execOp a.eval o).run P C.w = .ok (.value v) w' := by
    intro v w' h
    simp only [execOp, ho, resolve, hc, Sem.run_bind, Sem.run_pure, Result.andThen_ok, invoke, builtin, hargs, h]
  have hzs := zero_size hq hok
  have hz : q.zero.isSome = true := by obtain ⟨l, hl, _⟩ := hok; simp [hl]
  have hcl := c1.length
  have happ := run_app (P := P) (ty := o.type) (w := C.w) (base := none) (len := 0) (cap := 0) (b := 0) (p := 0) (x := a.eval y) (n := ds.length) (old := []) (news := cs) h0 h1 hs hxt hq hz c2
    (fun w' hw' => by
      have := c3 ds.length (Nat.le_refl _) w' hw'
      rwa [List.take_of_length_le (by rw [hcl]; exact Nat.le_refl _)] at this) hcl c1.one (by simp) (Nat.le_refl _) (by simp) (by simp) (by simp) (by simpa using hroom) (by omega) hzs
  rcases happ with ⟨r1, r2, r3⟩ | ⟨cap', out, r1, r2, r3, r4⟩
  · omega
  · obtain ⟨I1, G1⟩ := hI.drew
    have hnew := arr_new I1 (id := (site + 1, 0)) (nv := nv) hid hsz (ds := ds) (cs := out) cap' ⟨out, by
      simp only [Nat.zero_add, List.nil_append] at r3
      rw [r3]; exact c1, r2, rfl⟩ (by omega) e
    obtain ⟨C', w1, w2, w3, w4, w5⟩ := hnew
    simp only [Nat.zero_add] at r4
    exact .inl ⟨_, _, hexec _ _ (by rw [hrx]; exact r4), C', w1, w2, w3, G1.trans w4, w5⟩


theorem lits_src (hI : Inv B C) {ws : List AVal} {val : Value} (hr : RepA C (.lits ws) val) : ∃ cs : List Value, RepL C ws cs ∧ ws.all AVal.leaf = true ∧ (∀ v ∈ cs, v.oneCell' = true) ∧ (∀ w, (Builtin.lenOf val).run P w = .ok ws.length w) ∧
    ∀ w, (∀ ad, w.cell? ad = C.w.cell? ad) → (Builtin.firstCells 1 ws.length val).run P w = .ok cs.toArray w := by
  simp only [RepA] at hr
  obtain ⟨b, p, cap, cs, h1, h2, h3, h4, h5, h6⟩ := hr
  subst h1
  refine ⟨cs, h3, h5, h6, fun w => rfl, fun w hw => run_first_slice (by rw [h3.length, Nat.mul_one]) fun _ => ⟨b, p, rfl, fun j v hj => ?_⟩⟩
  rw [hw]
  exact hI.Fw _ _ _ (h4 j v hj)

theorem rarr_new (hI : Inv B C) {id : Id} {nv : Nat} (hid : newVer C.ρ id = some nv) {ws : List AVal} {cs : Array Value} (cap : Nat) (hl : ws.all AVal.leaf = true) (hr : RepL C ws (cs.toList.take ws.length)) (hsize : cs.size = cap) (hcap : ws.length ≤ cap) (t : TypeId) :
    Owes B C (.rsl id nv 1 0 ws.length) [(id, .rarr nv ws)] (.slice (some ⟨C.w.heap.size, 0, none⟩) ws.length cap) (C.w.alloc (.cells cs t)) := by
  obtain ⟨n1, n2, n3⟩ := newVer_lt hid
  obtain ⟨h1, h2, h3⟩ := hI.allocO (C.w.alloc (.cells cs t)) (Kept.alloc _ _ _ _) id (.rarr nv ws) ⟨C.w.heap.size, 0, cs.size⟩
    ⟨n1, fun A hA => by
      simp only [arrAt] at hA
      split at hA
      · rename_i e; simp only [Option.some.injEq] at hA; subst hA; exact n2 _ _ _ _ e
      · rename_i e; simp only [Option.some.injEq] at hA; subst hA; exact n3 _ _ e
      · cases hA⟩ (.inl (Nat.le_refl _)) (fun C' e1 e2 hg => by
      refine ⟨by simpa [hsize] using hcap, hl, own_new C hI cs t C' e1 e2, fun j x hj => ?_⟩
      obtain ⟨c, hc, hx⟩ := hr.get hj
      refine ⟨c, ?_, hx.grow hg⟩
      rw [List.getElem?_take] at hc
      rw [e1]
      split at hc
      · simpa using hc
      · cases hc)
  refine ⟨{ w := C.w.alloc (.cells cs t), F := C.F, μ := fun i => if i = id then ⟨C.w.heap.size, 0, cs.size⟩ else C.μ i, ρ := fun i => if i = id then some (.rarr nv ws) else C.ρ i }, rfl, h3, h1, h2, ?_⟩
  simp only [RepA]
  refine ⟨⟨nv, 1, ws.length, ⟨C.w.heap.size, 0, cs.size⟩⟩, some ⟨C.w.heap.size, 0, none⟩, cap, by simp [arrAt], Nat.le_refl _, rfl, hcap, by simp, fun _ => ⟨rfl, by simp, by simpa using hsize, by simp⟩⟩

theorem op_appR (hI : Inv B C) (hE : RepE C g a) {c : Call} {x y : Operand} {sT xT e : TypeId} {q : TI} {ax ay : AX} {id : Id} {ver len : Nat} {es ws : List AVal} (ho : o.op = .call c) (hc : c.callee = .builtin .append) (ha : c.args = #[x, y])
    (h0 : c.argTypes[0]? = some sT) (h1 : c.argTypes[1]? = some xT) (hs : P.underlying sT = some (.slice e)) (hxt : (∃ e', P.underlying xT = some (.slice e')) ∨ P.underlying xT = some .string) (hq : tI P e = some q) (hok : ∃ l, q.zero = some l ∧ l.length = q.size) (hq1 : q.size = 1)
    (hx : cX x = some ax) (hy : cX y = some ay) (hX : evX g ax = .rsl id ver 1 0 len) (hρ : C.ρ id = some (.rarr ver es)) (hY : evX g ay = .lits ws) (hlen : len = es.length) (hd : ws.length ≠ 0)
    (hroom : (len + ws.length) * (q.bytes + 1) ≤ room) :
    Does P o a C.w (Owes B C (.rsl id (ver + 1) 1 0 (len + ws.length)) [(id, .rarr (ver + 1) (es ++ ws))]) := by
  have hrx := cX_rep hE hx
  rw [hX] at hrx
  have hry := cX_rep hE hy
  rw [hY] at hry
  obtain ⟨o1, o2, oown, oel⟩ := hI.objs id _ hρ
  obtain ⟨cs, c1, c2, c3, c4, c5⟩ := lits_src (P := P) hI hry
  simp only [RepA] at hrx
  obtain ⟨A, p, cap, a1, a2, a3, a4, a5, a6⟩ := hrx
  have hA : A = ⟨ver, 1, es.length, C.μ id⟩ := by simpa [arrAt, hρ] using a1.symm
  subst hA
  obtain ⟨g1, g2, g3, g4⟩ := a6 rfl
  simp only [Nat.zero_add, Nat.zero_mul, Nat.add_zero, Nat.mul_one] at g3 g4
  have hargs : c.args.map a.eval = #[a.eval x, a.eval y] := by rw [ha]; simp
  have hexec : ∀ v w', (Builtin.append_ c.argTypes o.type #[a.eval x, a.eval y]).run P C.w = .ok v w' → (execOp a.eval o).run P C.w = .ok (.value v) w' := by
    intro v w' h
    simp only [execOp, ho, resolve, hc, Sem.run_bind, Sem.run_pure, Result.andThen_ok, invoke, builtin, hargs, h]
  have hzs := zero_size hq hok
  have hz : q.zero.isSome = true := by obtain ⟨l, hl, _⟩ := hok; simp [hl]
  obtain ⟨old, f1, f2⟩ := list_of_cells (w := C.w) (b := (C.μ id).b) es.length (C.μ id).o (fun j hj => by
    obtain ⟨v, hv, _⟩ := oel j es[j] (List.getElem?_eq_getElem hj)
    exact ⟨v, hv⟩)
  have hrold : RepL C es old := repL_of f1 fun i x v hi hv => by
    obtain ⟨u, hu, hx⟩ := oel i x hi
    rw [f2 i v hv] at hu
    cases hu
    exact hx
  have hcl : cs.length = ws.length := c1.length
  have happ := run_app (P := P) (ty := o.type) (w := C.w) (base := p) (len := len) (cap := cap) (b := (C.μ id).b) (p := (C.μ id).o) (x := a.eval y) (n := ws.length) (old := old) (news := cs) h0 h1 hs hxt hq hz c4
    (fun w' hw' => by rw [hq1]; exact c5 w' hw') (by rw [hq1, hcl, Nat.mul_one]) c3 g4 a4
    (by rw [f1, hlen, hq1, Nat.mul_one]) f2 (fun j hj => by
      rw [hq1, Nat.mul_one, ← g3] at hj
      exact ⟨(oown j hj).1, (oown j hj).2.1⟩) hroom (by omega) hzs
  have hall : (es ++ ws).all AVal.leaf = true := by rw [List.all_append, o2, c2]; rfl
  rcases happ with ⟨r1, r2, r3⟩ | ⟨cap', out, r1, r2, r3, r4⟩
  · have hfit : len + cs.length ≤ (C.μ id).n := by rw [g3, hcl]; exact r1
    have hw := hI.write hρ rfl len cs (ob' := .rarr (ver + 1) (es ++ ws)) hfit ⟨Nat.le_succ _, fun e => by omega⟩ (fun C' e1 e2 hg ho' => by
      refine ⟨by simp; omega, hall, ho', fun i d hd => ?_⟩
      have hwc := write_cell hI hρ rfl hfit
      rcases Nat.lt_or_ge i es.length with hlt | hge
      · rw [List.getElem?_append_left hlt] at hd
        obtain ⟨v, hv, hr⟩ := oel i d hd
        exact ⟨v, by rw [e1, hwc, if_neg (by omega)]; exact hv, hr.grow hg⟩
      · rw [List.getElem?_append_right hge] at hd
        obtain ⟨v, hv, hr⟩ := c1.get hd
        have := (List.getElem?_eq_some_iff.1 hv).1
        exact ⟨v, by rw [e1, hwc, if_pos (by omega), ← hv]; congr 1; omega, hr.grow hg⟩)
    simp only at hw
    refine .inl ⟨_, _, hexec _ _ (by rw [a3]; rw [hq1, Nat.mul_one] at r3; exact r3), _, rfl, rfl, hw.1, hw.2, ?_⟩
    simp only [RepA]
    refine ⟨⟨ver + 1, 1, (es ++ ws).length, C.μ id⟩, p, cap, by simp [arrAt, updL], Nat.le_refl _, rfl, r1, a5, fun _ => ⟨rfl, by simp; omega, by simpa using g3, by simpa using g4⟩⟩
  · obtain ⟨I1, G1⟩ := hI.drew
    have hnv : newVer C.ρ id = some (ver + 1) := by simp [newVer, hρ]
    have hl2 : (es ++ ws).length = len + ws.length := by simp [hlen]
    have hnew := rarr_new I1 (id := id) (nv := ver + 1) hnv (ws := es ++ ws) (cs := out) cap' hall (by
      rw [hl2]
      rw [hq1, Nat.mul_one] at r3
      rw [r3]
      exact (hrold.grow G1).append (c1.grow G1)) (by rw [r2, hq1, Nat.mul_one]) (by omega) e
    obtain ⟨C', w1, w2, w3, w4, w5⟩ := hnew
    refine .inl ⟨_, _, hexec _ _ (by rw [a3]; exact r4), C', w1, w2, w3, G1.trans w4, ?_⟩
    rw [hl2] at w5
    exact w5

theorem op_appNilR (hI : Inv B C) (hE : RepE C g a) {c : Call} {x y : Operand} {sT xT e : TypeId} {q : TI} {ax ay : AX} {site nv : Nat} {ws : List AVal} (ho : o.op = .call c) (hc : c.callee = .builtin .append) (ha : c.args = #[x, y])
    (h0 : c.argTypes[0]? = some sT) (h1 : c.argTypes[1]? = some xT) (hs : P.underlying sT = some (.slice e)) (hxt : (∃ e', P.underlying xT = some (.slice e')) ∨ P.underlying xT = some .string) (hq : tI P e = some q) (hok : ∃ l, q.zero = some l ∧ l.length = q.size) (hq1 : q.size = 1)
    (hx : cX x = some ax) (hy : cX y = some ay) (hX : evX g ax = .nils) (hY : evX g ay = .lits ws) (hid : newVer C.ρ (site + 1, 0) = some nv) (hd : ws.length ≠ 0)
    (hroom : ws.length * (q.bytes + 1) ≤ room) :
    Does P o a C.w (Owes B C (.rsl (site + 1, 0) nv 1 0 ws.length) [((site + 1, 0), .rarr nv ws)]) := by
  have hrx := cX_rep hE hx
  rw [hX] at hrx
  simp only [RepA] at hrx
  have hry := cX_rep hE hy
  rw [hY] at hry
  obtain ⟨cs, c1, c2, c3, c4, c5⟩ := lits_src (P := P) hI hry
  have hargs : c.args.map a.eval = #[a.eval x, a.eval y] := by rw [ha]; simp
  have hexec : ∀ v w', (Builtin.append_ c.argTypes o.type #[a.eval x, a.eval y]).run P C.w = .ok v w' → (execOp a.eval o).run P C.w = .ok (.value v) w' := by
    intro v w' h
    simp only [execOp, ho, resolve, hc, Sem.run_bind, Sem.run_pure, Result.andThen_ok, invoke, builtin, hargs, h]
  have hzs := zero_size hq hok
  have hz : q.zero.isSome = true := by obtain ⟨l, hl, _⟩ := hok; simp [hl]
  have hcl : cs.length = ws.length := c1.length
  have happ := run_app (P := P) (ty := o.type) (w := C.w) (base := none) (len := 0) (cap := 0) (b := 0) (p := 0) (x := a.eval y) (n := ws.length) (old := []) (news := cs) h0 h1 hs hxt hq hz c4
    (fun w' hw' => by rw [hq1]; exact c5 w' hw') (by rw [hq1, hcl, Nat.mul_one]) c3 (by simp) (Nat.le_refl _) (by simp) (by simp) (by simp) (by simpa using hroom) (by omega) hzs
  rcases happ with ⟨r1, r2, r3⟩ | ⟨cap', out, r1, r2, r3, r4⟩
  · omega
  · obtain ⟨I1, G1⟩ := hI.drew
    have hnew := rarr_new I1 (id := (site + 1, 0)) (nv := nv) hid (ws := ws) (cs := out) cap' c2 (by
      simp only [Nat.zero_add, List.nil_append, hq1, Nat.mul_one] at r3
      rw [r3]; exact c1.grow G1) (by rw [r2, hq1, Nat.mul_one]) (by omega) e
    obtain ⟨C', w1, w2, w3, w4, w5⟩ := hnew
    simp only [Nat.zero_add] at r4
    exact .inl ⟨_, _, hexec _ _ (by rw [hrx]; exact r4), C', w1, w2, w3, G1.trans w4, w5⟩

/-! ## copy, clear -/

/-- elements written into an array -/
theorem arr_write (hI : Inv B C) {id : Id} {sz ver off : Nat} {es ds : List Dat} (hρ : C.ρ id = some (.arr sz ver false es)) {cs : List Value} (hf : FlatD C.F sz ds cs) (hb : off + ds.length ≤ es.length) :
    off * sz + cs.length ≤ (C.μ id).n ∧
    let C' : Ctx := { w := C.w.setCells (C.μ id).b ((C.μ id).o + off * sz) cs, F := C.F, μ := C.μ, ρ := updL C.ρ [(id, .arr sz ver false (splice es off ds))] }
    Inv B C' ∧ Grow C C' := by
  obtain ⟨o1, ⟨cap, o2, o2'⟩, o3, _⟩ := hI.objs id _ hρ
  obtain ⟨oown, oel⟩ := o3 rfl
  have hcl := hf.length
  have hfit : off * sz + cs.length ≤ (C.μ id).n := by
    rw [hcl, o2, ← Nat.add_mul]
    exact Nat.mul_le_mul_right _ (by omega)
  refine ⟨hfit, ?_⟩
  refine hI.write hρ rfl (off * sz) cs (ob' := .arr sz ver false (splice es off ds)) hfit ⟨Nat.le_refl _, fun _ => ⟨rfl, by rw [length_splice _ _ _ hb]; exact Nat.le_refl _⟩⟩ (fun C' e1 e2 hg ho' => ?_)
  refine ⟨o1, ⟨cap, o2, by rw [length_splice _ _ _ hb]; exact o2'⟩, fun _ => ⟨ho', fun i d hd => ?_⟩, fun e => by cases e⟩
  have hwc := write_cell hI hρ rfl hfit
  rw [splice_get hb] at hd
  have old : (i < off ∨ off + ds.length ≤ i) → es[i]? = some d → ∃ c, c.length = sz ∧ RepD C'.F d c ∧ ∀ (j : Nat) (v : Value), c[j]? = some v → C'.w.cell? ⟨(C.μ id).b, (C.μ id).o + i * sz + j, none⟩ = some v := by
    intro hi hd
    obtain ⟨c, q1, q2, q3⟩ := oel i d hd
    refine ⟨c, q1, RepD.mono hg.F _ _ q2, fun j v hj => ?_⟩
    have hj' : j < sz := by rw [← q1]; exact (List.getElem?_eq_some_iff.1 hj).1
    rw [e1, Nat.add_assoc, hwc, if_neg, ← Nat.add_assoc]
    · exact q3 j v hj
    · rw [hcl]
      intro hcon
      rcases hi with hi | hi
      · have : (i + 1) * sz ≤ off * sz := Nat.mul_le_mul_right _ hi
        rw [Nat.add_mul] at this
        omega
      · have : (off + ds.length) * sz ≤ i * sz := Nat.mul_le_mul_right _ hi
        rw [Nat.add_mul] at this
        omega
  by_cases h1 : i < off
  · rw [if_pos h1] at hd
    exact old (.inl h1) hd
  · rw [if_neg h1] at hd
    by_cases h2 : i < off + ds.length
    · rw [if_pos h2] at hd
      obtain ⟨c, q1, q2, q3⟩ := hf.get hd
      refine ⟨c, q1, RepD.mono hg.F _ _ q2, fun j v hj => ?_⟩
      have hlt := (List.getElem?_eq_some_iff.1 (q3 j v hj)).1
      have e3 : off * sz + (i - off) * sz = i * sz := by rw [← Nat.add_mul]; congr 1; omega
      rw [e1, Nat.add_assoc, hwc, if_pos (by omega), ← q3 j v hj]
      congr 1; omega
    · rw [if_neg h2] at hd
      exact old (.inr (by omega)) hd

theorem FlatD.take {F : Froz} {sz : Nat} : ∀ {ds : List Dat} {cs : List Value}, FlatD F sz ds cs → ∀ n, FlatD F sz (ds.take n) (cs.take (n * sz))
  | [], cs, h, n => by simp only [FlatD] at h; subst h; simp [FlatD]
  | d :: r, cs, h, 0 => by simp [FlatD]
  | d :: r, cs, h, n + 1 => by
    simp only [FlatD] at h
    obtain ⟨c, cs', rfl, h1, h2, h3⟩ := h
    simp only [List.take_succ_cons, FlatD]
    refine ⟨c, cs'.take (n * sz), ?_, h1, h2, h3.take n⟩
    rw [show (n + 1) * sz = c.length + n * sz by rw [h1, Nat.add_mul]; omega, List.take_length_add_append]

theorem op_cpy (hI : Inv B C) (hE : RepE C g a) {c : Call} {x y : Operand} {sT e : TypeId} {q : TI} {ax ay : AX} {id : Id} {ver off len : Nat} {es ds : List Dat} (ho : o.op = .call c) (hc : c.callee = .builtin .copy) (ha : c.args = #[x, y])
    (h0 : c.argTypes[0]? = some sT) (hs : P.underlying sT = some (.slice e)) (hq : tI P e = some q)
    (hx : cX x = some ax) (hy : cX y = some ay) (hX : evX g ax = .rsl id ver q.size off len) (hρ : C.ρ id = some (.arr q.size ver false es)) (hY : srcOf C.ρ q.size (evX g ay) = some ds) (hb : off + len ≤ es.length) :
    Does P o a C.w (Owes B C (.dat (.int .i64 (min ds.length len : Nat))) [(id, .arr q.size ver false (splice es off (ds.take len)))]) := by
  have hrx := cX_rep hE hx
  rw [hX] at hrx
  obtain ⟨o1, ⟨cp, o2, o2'⟩, o3, _⟩ := hI.objs id _ hρ
  obtain ⟨cs, c1, c2, c3⟩ := srcOf_rep (P := P) hI o1 hY (cX_rep hE hy)
  simp only [RepA] at hrx
  obtain ⟨A, p, cap, a1, a2, a3, a4, a5, a6⟩ := hrx
  have hA : A = ⟨ver, q.size, es.length, C.μ id⟩ := by simpa [arrAt, hρ] using a1.symm
  subst hA
  obtain ⟨g1, g2, g3, g4⟩ := a6 rfl
  have hargs : c.args.map a.eval = #[a.eval x, a.eval y] := by rw [ha]; simp
  have hmin : ∀ m, Nat.min ds.length len = m → ds.take len = ds.take m ∧ (ds.take m).length = m := by
    intro m hm
    subst hm
    refine ⟨?_, by simp⟩
    rcases Nat.le_total ds.length len with h | h
    · have : Nat.min ds.length len = ds.length := Nat.min_eq_left h
      rw [this, List.take_of_length_le h, List.take_length]
    · have : Nat.min ds.length len = len := Nat.min_eq_right h
      rw [this]
  obtain ⟨hm1, hm2⟩ := hmin _ rfl
  have hft := c1.take (Nat.min ds.length len)
  obtain ⟨hfit, hw⟩ := arr_write hI hρ hft (off := off) (by rw [hm2]; exact Nat.le_trans (Nat.add_le_add_left (Nat.min_le_right ds.length len) off) hb)
  simp only at hw
  have hcells := c3 (Nat.min ds.length len) (Nat.min_le_left _ _) C.w (fun _ => rfl)
  have hrun := run_write (P := P) hI hρ rfl hfit (hft.one)
  refine .inl ⟨.int .i64 (min ds.length len : Nat), _, ?_, _, rfl, by rw [hm1], hw.1, hw.2, rep_mk_int _ _ _⟩
  have hcopy : (Builtin.copy_ c.argTypes o.type #[a.eval x, a.eval y]).run P C.w = .ok (.int .i64 (min ds.length len : Nat)) (C.w.setCells (C.μ id).b ((C.μ id).o + off * q.size) (cs.take (Nat.min ds.length len * q.size))) := by
    rw [a3]
    unfold Builtin.copy_
    simp only [h0, List.getElem?_toArray, List.getElem?_cons_zero, List.getElem?_cons_succ, Sem.run_bind, run_underlying hs, Result.andThen_ok, c2, run_sizeOf hq, hcells]
    cases p with
    | none =>
      have hz : len = 0 := by
        rcases Nat.eq_zero_or_pos len with h | h
        · exact h
        · have := a5 (by omega); simp at this
      subst hz
      simp [World.setCells, goInt]
    | some p =>
      by_cases hcap : 0 < cap
      · have := g4 hcap
        simp only [Option.some.injEq] at this
        subst this
        simp only [Sem.run_bind, hrun, Result.andThen_ok, Sem.run_pure]
        rfl
      · have hz : len = 0 := by omega
        subst hz
        simp [World.setCells, goInt, storeCells]
  simp only [execOp, ho, resolve, hc, Sem.run_bind, Sem.run_pure, Result.andThen_ok, invoke, builtin, hargs, hcopy]

theorem op_clr (hI : Inv B C) (hE : RepE C g a) {c : Call} {x : Operand} {sT e : TypeId} {q : TI} {ax : AX} {zero : List AVal} {z : Dat} {id : Id} {ver off len : Nat} {es : List Dat} (ho : o.op = .call c) (hc : c.callee = .builtin .clear) (ha : c.args = #[x])
    (h0 : c.argTypes[0]? = some sT) (hs : P.underlying sT = some (.slice e)) (hq : tI P e = some q) (hz : q.zero = some zero) (hd : zeroDat zero = some z) (hw : z.width = q.size)
    (hx : cX x = some ax) (hX : evX g ax = .rsl id ver q.size off len) (hρ : C.ρ id = some (.arr q.size ver false es)) (hb : off + len ≤ es.length) :
    Does P o a C.w (Owes B C (.tup []) [(id, .arr q.size ver false (splice es off (List.replicate len z)))]) := by
  have hrx := cX_rep hE hx
  rw [hX] at hrx
  obtain ⟨v, hv, hvs, hrep⟩ := mk_zero hq hz hd hw
  simp only [RepA] at hrx
  obtain ⟨A, p, cap, a1, a2, a3, a4, a5, a6⟩ := hrx
  have hA : A = ⟨ver, q.size, es.length, C.μ id⟩ := by simpa [arrAt, hρ] using a1.symm
  subst hA
  obtain ⟨g1, g2, g3, g4⟩ := a6 rfl
  have hargs : c.args.map a.eval = #[a.eval x] := by rw [ha]; simp
  have hft : FlatD C.F q.size (List.replicate len z) (List.replicate len v.cells.toList).flatten := by
    rw [← hw]; exact flat_replicate (hrep _) _
  obtain ⟨hfit, hwr⟩ := arr_write hI hρ hft (off := off) (by simpa using hb)
  simp only at hwr
  have hrun := run_write (P := P) hI hρ rfl hfit (hft.one)
  have hflat := zeros_flat v.cells len
  refine .inl ⟨.tuple #[], _, ?_, _, rfl, rfl, hwr.1, hwr.2, by simp [RepA, RepL]⟩
  have hclear : (Builtin.clear_ c.argTypes o.type #[a.eval x]).run P C.w = .ok (.tuple #[]) (C.w.setCells (C.μ id).b ((C.μ id).o + off * q.size) (List.replicate len v.cells.toList).flatten) := by
    rw [a3]
    unfold Builtin.clear_
    simp only [h0, List.getElem?_toArray, List.getElem?_cons_zero, List.getElem?_cons_succ, Sem.run_bind, run_underlying hs, Result.andThen_ok]
    rcases Nat.eq_zero_or_pos len with hl | hl
    · subst hl
      cases p <;> simp [World.setCells]
    · cases p with
      | none => have := a5 (by omega); simp at this
      | some p =>
        have := g4 (by omega)
        simp only [Option.some.injEq] at this
        subst this
        cases len with
        | zero => omega
        | succ n =>
          simp only [Sem.run_bind, hv, Result.andThen_ok, Builtin.zeroCells, hflat, hrun, Sem.run_pure]
  simp only [execOp, ho, resolve, hc, Sem.run_bind, Sem.run_pure, Result.andThen_ok, invoke, builtin, hargs, hclear]


theorem op_mkr (hI : Inv B C) (hE : RepE C g a) {t e : TypeId} {l c : Operand} {q : TI} {al ac : AX} {z : AVal} {ln cn : Int} {site nv : Nat} (ho : o.op = .makeSlice t l c) (hl : cX l = some al) (hc : cX c = some ac)
    (ht : P.underlying t = some (.slice e)) (hq : tI P e = some q) (hz : q.zero = some [z]) (hln : intOf? (evX g al) = some ln) (hcn : intOf? (evX g ac) = some cn)
    (hb : 0 ≤ ln ∧ ln ≤ cn ∧ q.bytes * cn ≤ room ∧ cn ≤ room) (hq1 : q.size = 1) (hzl : z.leaf = true) (hid : newVer C.ρ (site + 1, 0) = some nv) (hzi : z.ids = []) :
    Does P o a C.w (Owes B C (.rsl (site + 1, 0) nv 1 0 ln.toNat) [((site + 1, 0), .rarr nv (List.replicate ln.toNat z))]) := by
  obtain ⟨v, hv, hcs⟩ := tI_zero hq hz
  obtain ⟨z1, z2, z3⟩ := cst_reps (C := C) hcs
  have hvs : v.cells.toList.length = 1 := by have := z1.length; simpa using this
  obtain ⟨k, hk⟩ := intOf_rep hln (cX_rep hE hl)
  obtain ⟨k', hk'⟩ := intOf_rep hcn (cX_rep hE hc)
  obtain ⟨out, o1, o2, o3⟩ := run_makeSlice' (P := P) ht hq hv (by rw [hq1]; simpa using hvs) (k := k) (k' := k') hb C.w
  have hlen : (List.replicate ln.toNat z).length = ln.toNat := by simp
  have hrep : ∀ n, RepL C (List.replicate n z) (List.replicate n v.cells.toList).flatten := by
    intro n
    induction n with
    | zero => simp [RepL]
    | succ n ih =>
      rw [List.replicate_succ, List.replicate_succ, List.flatten_cons]
      exact RepL.append (l := [z]) z1 ih
  have := rarr_new hI hid (ws := List.replicate ln.toNat z) (cs := out) cn.toNat (by rw [List.all_eq_true]; intro x hx; rw [List.eq_of_mem_replicate hx]; exact hzl) (by
    have e1 : out.toList = (List.replicate ln.toNat v.cells.toList).flatten ++ (List.replicate (cn.toNat - ln.toNat) v.cells.toList).flatten := by
      rw [o1, ← List.flatten_append, List.replicate_append_replicate]
      congr 2; omega
    have e2 : ((List.replicate ln.toNat v.cells.toList).flatten).length = ln.toNat := by
      rw [List.length_flatten]; simp at hvs; simp [hvs]
    rw [hlen, e1, List.take_append_of_le_length (by rw [e2]; exact Nat.le_refl _)]
    rw [List.take_of_length_le (by rw [e2]; exact Nat.le_refl _)]
    exact hrep _) (by rw [o2, hq1, Nat.mul_one]) (by rw [hlen]; omega) e
  rw [hlen] at this
  refine .inl ⟨_, _, ?_, this⟩
  simp only [execOp, ho, hk, hk', Sem.run_bind, o3, Result.andThen_ok, Sem.run_pure]

end
end Go.Am

/- The abstract machine: every operation but a call of a function is sound. -/
set_option linter.unusedVariables false
set_option linter.unusedSimpArgs false
namespace Go.Am

section
variable {P : Program} {o : Oper} {a : Act} {B : Base} {C : Ctx} {g : Nat → AVal} {K : Orc} {site : Nat} {m : Mk} {k : AK} {v : AVal} {upd : List (Id × Obj)}

theorem map_pair {α β : Type} {x : Option α} {f : α → β} {y : β} (h : x.map f = some y) : ∃ z, x = some z ∧ f z = y := by
  cases x with
  | none => cases h
  | some z => exact ⟨z, rfl, by simpa using h⟩

theorem snd_pair {x : Option AVal} (h : x.map (·, ([] : List (Id × Obj))) = some (v, upd)) : x = some v ∧ upd = [] := by
  obtain ⟨z, hz, he⟩ := map_pair h
  simp only [Prod.mk.injEq] at he
  exact ⟨by rw [hz, he.1], he.2.symm⟩

theorem zok_spec {q : TI} (h : q.zok = true) : (∃ l, q.zero = some l ∧ l.length = q.size) ∧ 1 ≤ q.size := by
  unfold TI.zok at h
  split at h
  · rename_i l hl
    simp only [Bool.and_eq_true, beq_iff_eq, decide_eq_true_eq] at h
    exact ⟨⟨l, hl, h.1⟩, h.2⟩
  · cases h

theorem elemT_spec {t e : TypeId} (h : elemT P t = some e) : P.underlying t = some (.slice e) := by
  unfold elemT at h
  split at h
  · rename_i e' he
    simp only [Option.some.injEq] at h
    subst h
    exact he
  · cases h

theorem bind_elem {t : TypeId} {q : TI} (h : (elemT P t).bind (tI P) = some q) : ∃ e, P.underlying t = some (.slice e) ∧ tI P e = some q := by
  cases e : elemT P t with
  | none => simp [e] at h
  | some e' => rw [e] at h; exact ⟨e', elemT_spec e, h⟩

theorem bind_elem2 {t : Option TypeId} {q : TI} (h : (t.bind (elemT P)).bind (tI P) = some q) : ∃ s e, t = some s ∧ P.underlying s = some (.slice e) ∧ tI P e = some q := by
  cases t with
  | none => simp at h
  | some s =>
    obtain ⟨e, h1, h2⟩ := bind_elem (t := s) (by simpa using h)
    exact ⟨s, e, rfl, h1, h2⟩

theorem cXs_one {xs : Array Operand} {ax : AX} (h : cXs xs = some [ax]) : ∃ x, xs = #[x] ∧ cX x = some ax := by
  have := allSome_spec h
  have hl := congrArg List.length this
  simp at hl
  cases xs with
  | mk l =>
    match l, hl with
    | [x], _ => exact ⟨x, rfl, by simpa using this⟩

theorem cXs_two {xs : Array Operand} {ax ay : AX} (h : cXs xs = some [ax, ay]) : ∃ x y, xs = #[x, y] ∧ cX x = some ax ∧ cX y = some ay := by
  have := allSome_spec h
  have hl := congrArg List.length this
  simp at hl
  cases xs with
  | mk l =>
    match l, hl with
    | [x, y], _ => exact ⟨x, y, rfl, by simpa using this⟩

theorem snd_mv (hI : Inv B C) (hE : RepE C g a) {x : Operand} (hop : o.op = .move x ∨ o.op = .assign x)
    (hc : cOp P m o = some k) (h : opE K site k g C.ρ = some (v, upd)) : Does P o a C.w (Owes B C v upd) := by
  have hc' : (if m.md = .d then (cX x).map .mv else
      match x with
      | .const (.slice none 0 0) => match (elemT P o.type).bind (tI P) with
        | some i => if 1 ≤ i.size then some (AK.mvNil m.md i.size) else none
        | none => none
      | _ => none) = some k := by
    rcases hop with hop | hop <;> simp only [cOp, hop] at hc <;> rw [← hc] <;> rfl
  replace hc := hc'
  split at hc
  · obtain ⟨ax, hx, rfl⟩ := map_pair hc
    simp only [opE, Option.some.injEq, Prod.mk.injEq] at h
    obtain ⟨rfl, rfl⟩ := h
    exact op_mv hI hE hop hx
  · split at hc
    · split at hc
      · rename_i i hi
        split at hc
        · rename_i hsz
          simp only [Option.some.injEq] at hc
          subst hc
          simp only [opE] at h
          split at h
          · cases h
          · rename_i nv hnv
            cases hmd : m.md <;> simp only [hmd] at h
            · cases h
            · rw [if_pos hsz] at h
              simp only [Option.some.injEq, Prod.mk.injEq] at h
              obtain ⟨rfl, rfl⟩ := h
              exact op_mvNil hI hop hnv hsz (.inl rfl)
            · simp only [Option.some.injEq, Prod.mk.injEq] at h
              obtain ⟨rfl, rfl⟩ := h
              exact op_mvNil hI hop hnv (Nat.le_refl 1) (.inr ⟨rfl, rfl⟩)
        · cases hc
      · cases hc
    · cases hc

theorem snd_bldS (hI : Inv B C) (hE : RepE C g a) {t : TypeId} {n : Nat} {parts : Array (Nat × Operand)} (hop : o.op = .buildSlice t n parts) (hc : cOp P m o = some k) (h : opE K site k g C.ρ = some (v, upd)) : Does P o a C.w (Owes B C v upd) := by
  simp only [cOp, hop] at hc
  split at hc
  · rename_i i xs hi hxs
    split at hc
    · rename_i hcond
      obtain ⟨c1, c2, c3, c4⟩ := hcond
      simp only [Option.some.injEq] at hc
      subst hc
      obtain ⟨e, e1, e2⟩ := bind_elem hi
      simp only [opE] at h
      cases hmd : m.md <;> simp only [hmd] at h
      · split at h
        · rename_i ds fs hds
          split at h
          · rename_i hw
            simp only [Option.some.injEq, Prod.mk.injEq] at h
            obtain ⟨rfl, rfl⟩ := h
            exact op_bldSd hI hE hop e1 e2 c4 hxs c1 c2 hds hw
          · cases h
        · cases h
      · split at h
        · rename_i ds fs hds
          split at h
          · rename_i hw
            split at h
            · rename_i nv hnv
              split at h
              · rename_i hh
                simp only [Option.some.injEq, Prod.mk.injEq] at h
                obtain ⟨rfl, rfl⟩ := h
                exact op_bldSo hI hE hop e1 e2 c3 c4 hxs c1 c2 hds hw hnv hh.2
              · cases h
            · cases h
          · cases h
        · cases h
      · split at h
        · rename_i hh
          simp only [Option.some.injEq, Prod.mk.injEq] at h
          obtain ⟨rfl, rfl⟩ := h
          exact op_bldSr hI hE hop e1 e2 hh.1 c4 hxs c1 (by omega) hh.2
        · cases h
    · cases hc
  · cases hc

theorem snd_mk (hI : Inv B C) (hE : RepE C g a) {t : TypeId} {l c : Operand} (hop : o.op = .makeSlice t l c) (hc : cOp P m o = some k) (h : opE K site k g C.ρ = some (v, upd)) : Does P o a C.w (Owes B C v upd) := by
  simp only [cOp, hop] at hc
  split at hc
  · rename_i i al ac hi hl hcc
    obtain ⟨zero, hz, rfl⟩ := map_pair hc
    obtain ⟨e, e1, e2⟩ := bind_elem hi
    simp only [opE] at h
    split at h
    · rename_i ln cn hln hcn
      split at h
      · rename_i hb
        cases hmd : m.md <;> simp only [hmd] at h
        · split at h
          · rename_i z hzd
            split at h
            · rename_i hw
              simp only [Option.some.injEq, Prod.mk.injEq] at h
              obtain ⟨rfl, rfl⟩ := h
              exact op_mkd hI hE hop hl hcc e1 e2 hz hln hcn hb hzd hw
            · cases h
          · cases h
        · split at h
          · rename_i z hzd
            split at h
            · rename_i hw
              split at h
              · cases h
              · rename_i nv hnv
                simp only [Option.some.injEq, Prod.mk.injEq] at h
                obtain ⟨rfl, rfl⟩ := h
                exact op_mko hI hE hop hl hcc e1 e2 hz hln hcn hb hzd hw hnv
            · cases h
          · cases h
        · split at h
          · rename_i z nv hnv
            split at h
            · rename_i hh
              simp only [Option.some.injEq, Prod.mk.injEq] at h
              obtain ⟨rfl, rfl⟩ := h
              exact op_mkr hI hE hop hl hcc e1 e2 hz hln hcn hb hh.1 hh.2.1 hnv hh.2.2
            · cases h
          · cases h
      · cases h
    · cases h
  · cases hc

theorem snd_app (hI : Inv B C) (hE : RepE C g a) {c : Call} {ax ay : AX} {q : TI} {md : Md} (hop : o.op = .call c) (hcal : c.callee = .builtin .append) (hargs : cXs c.args = some [ax, ay]) (hq : ((c.argTypes[0]?).bind (elemT P)).bind (tI P) = some q)
    (hxt : (∃ e', (c.argTypes[1]?).bind P.underlying = some (.slice e')) ∨ (c.argTypes[1]?).bind P.underlying = some .string) (hz : q.zok = true)
    (h : opE K site (.app md q.size q.bytes ax ay) g C.ρ = some (v, upd)) : Does P o a C.w (Owes B C v upd) := by
  obtain ⟨x, y, ha, hx, hy⟩ := cXs_two hargs
  obtain ⟨sT, e, h0, hs, hqe⟩ := bind_elem2 hq
  obtain ⟨hzl, hsz⟩ := zok_spec hz
  obtain ⟨xT, h1, hxT⟩ : ∃ xT, c.argTypes[1]? = some xT ∧ ((∃ e', P.underlying xT = some (.slice e')) ∨ P.underlying xT = some .string) := by
    cases e1 : c.argTypes[1]? with
    | none => simp [e1] at hxt
    | some xT => exact ⟨xT, rfl, by simpa [e1] using hxt⟩
  simp only [opE] at h
  split at h
  · rename_i id ver sz' off len hX
    split at h
    · rename_i sz'' ver' es hρ
      split at h
      · rename_i ds hds
        split at h
        · rename_i hcond
          obtain ⟨rfl, rfl, rfl, rfl, hlen, hroom⟩ := hcond
          have := op_app hI hE hop hcal ha h0 h1 hs hxT hqe hzl hx hy hX hρ hds hlen hroom
          split at h
          · rename_i hd
            simp only [Option.some.injEq, Prod.mk.injEq] at h
            obtain ⟨rfl, rfl⟩ := h
            simpa only [hd, if_true] using this
          · rename_i hd
            simp only [Option.some.injEq, Prod.mk.injEq] at h
            obtain ⟨rfl, rfl⟩ := h
            simpa only [hd, if_false] using this
        · cases h
      · cases h
    · rename_i ver' es hρ
      split at h
      · rename_i ws hY
        split at h
        · rename_i hcond
          obtain ⟨rfl, e1, e2, rfl, hlen, hd, hroom⟩ := hcond
          simp only [Option.some.injEq, Prod.mk.injEq] at h
          obtain ⟨rfl, rfl⟩ := h
          rw [e2] at e1
          subst e1
          exact op_appR hI hE hop hcal ha h0 h1 hs hxT hqe hzl e2 hx hy hX hρ hY hlen hd hroom
        · cases h
      · cases h
    · cases h
  · rename_i hX
    split at h
    · split at h
      · rename_i ws nv hY hnv
        split at h
        · rename_i hcond
          obtain ⟨e2, hd, hroom⟩ := hcond
          simp only [Option.some.injEq, Prod.mk.injEq] at h
          obtain ⟨rfl, rfl⟩ := h
          exact op_appNilR hI hE hop hcal ha h0 h1 hs hxT hqe hzl e2 hx hy hX hY hnv hd hroom
        · cases h
      · cases h
    · split at h
      · rename_i ds nv hds hnv
        split at h
        · rename_i hcond
          obtain ⟨_, hd, hroom⟩ := hcond
          simp only [Option.some.injEq, Prod.mk.injEq] at h
          obtain ⟨rfl, rfl⟩ := h
          exact op_appNil hI hE hop hcal ha h0 h1 hs hxT hqe hzl hsz hx hy hX hds hnv hd hroom
        · cases h
      · cases h
  · cases h

theorem snd_builtin (hI : Inv B C) (hE : RepE C g a) {c : Call} (hop : o.op = .call c) (hk : ∀ f args sc, k ≠ .call f args sc) (hc : cOp P m o = some k) (h : opE K site k g C.ρ = some (v, upd)) : Does P o a C.w (Owes B C v upd) := by
  simp only [cOp, hop] at hc
  split at hc
  · rename_i ax hcal hargs
    obtain ⟨x, ha, hx⟩ := cXs_one hargs
    split at hc
    · rename_i e hu
      simp only [Option.some.injEq] at hc
      subst hc
      simp only [opE, Bool.false_eq_true, if_false] at h
      obtain ⟨hv, rfl⟩ := snd_pair h
      cases e0 : c.argTypes[0]? with
      | none => simp [e0] at hu
      | some t => exact op_len hI hE hop hcal ha e0 (by simpa [e0] using hu) hx hv
    · rename_i hu
      simp only [Option.some.injEq] at hc
      subst hc
      simp only [opE, if_true] at h
      obtain ⟨hv, rfl⟩ := snd_pair h
      cases e0 : c.argTypes[0]? with
      | none => simp [e0] at hu
      | some t => exact op_lenS hI hE hop hcal ha e0 (by simpa [e0] using hu) hx hv
    · cases hc
  · rename_i ax ay hcal hargs
    split at hc
    · rename_i q e' hq hxt
      split at hc
      · rename_i hz
        simp only [Option.some.injEq] at hc
        subst hc
        exact snd_app hI hE hop hcal hargs hq (.inl ⟨e', hxt⟩) hz h
      · cases hc
    · rename_i q hq hxt
      split at hc
      · rename_i hz
        simp only [Option.some.injEq] at hc
        subst hc
        exact snd_app hI hE hop hcal hargs hq (.inr hxt) hz h
      · cases hc
    · cases hc
  · rename_i ax ay hcal hargs
    obtain ⟨x, y, ha, hx, hy⟩ := cXs_two hargs
    split at hc
    · rename_i q hq
      simp only [Option.some.injEq] at hc
      subst hc
      obtain ⟨sT, e, h0, hs, hqe⟩ := bind_elem2 hq
      simp only [opE] at h
      split at h
      · rename_i id ver sz' off len ds hX hds
        split at h
        · rename_i sz'' ver' es hρ
          split at h
          · rename_i hcond
            obtain ⟨rfl, rfl, rfl, hb⟩ := hcond
            simp only [Option.some.injEq, Prod.mk.injEq] at h
            obtain ⟨rfl, rfl⟩ := h
            exact op_cpy hI hE hop hcal ha h0 hs hqe hx hy hX hρ hds hb
          · cases h
        · cases h
      · cases h
    · cases hc
  · rename_i ax hcal hargs
    obtain ⟨x, ha, hx⟩ := cXs_one hargs
    split at hc
    · rename_i q hq
      split at hc
      case isFalse => cases hc
      rename_i hzk
      replace hzk := zok_spec hzk
      obtain ⟨zero, hz, rfl⟩ := map_pair hc
      obtain ⟨sT, e, h0, hs, hqe⟩ := bind_elem2 hq
      simp only [opE] at h
      split at h
      · rename_i id ver sz off len z hX hzd
        split at h
        · rename_i sz' ver' es hρ
          split at h
          · rename_i hcond
            obtain ⟨rfl, rfl, hb, hw⟩ := hcond
            simp only [Option.some.injEq, Prod.mk.injEq] at h
            obtain ⟨rfl, rfl⟩ := h
            have hrx := cX_rep hE hx
            rw [hX] at hrx
            obtain ⟨o1, _⟩ := hI.objs id _ hρ
            have hszq : sz = q.size := by
              obtain ⟨zv, hzv, hcs⟩ := tI_zero hqe hz
              have h1 := (zeroDat_rep (F := C.F) hzd hcs).length
              have h2 := congrArg List.length (allSome_spec hcs)
              obtain ⟨l, hl1, hl2⟩ := hzk.1
              rw [hz] at hl1
              cases hl1
              simp at h2 h1
              omega
            subst hszq
            exact op_clr hI hE hop hcal ha h0 hs hqe hz hzd hw hx hX hρ hb
          · cases h
        · cases h
      · cases h
    · cases hc
  · rename_i ax r hcal hargs
    simp only [Option.some.injEq] at hc
    subst hc
    simp only [opE] at h
    obtain ⟨hv, rfl⟩ := snd_pair h
    exact op_mm (isMax := true) hI hE hop hcal hargs hv
  · rename_i ax r hcal hargs
    simp only [Option.some.injEq] at hc
    subst hc
    simp only [opE] at h
    obtain ⟨hv, rfl⟩ := snd_pair h
    exact op_mm (isMax := false) hI hE hop hcal hargs hv
  · split at hc
    · split at hc
      · simp only [Option.some.injEq] at hc
        exact absurd hc.symm (hk _ _ _)
      · cases hc
    · cases hc
  · cases hc


/-- every operation but a call of a function -/
theorem op_sound (hI : Inv B C) (hE : RepE C g a) (hk : ∀ f args sc, k ≠ .call f args sc) (hc : cOp P m o = some k) (h : opE K site k g C.ρ = some (v, upd)) : Does P o a C.w (Owes B C v upd) := by
  cases hop : o.op with
  | move x => exact snd_mv hI hE (.inl hop) hc h
  | assign x => exact snd_mv hI hE (.inr hop) hc h
  | pick c x y =>
    simp only [cOp, hop] at hc
    split at hc
    · rename_i ac ax ay hc' hx hy
      simp only [Option.some.injEq] at hc
      subst hc
      simp only [opE] at h
      split at h
      · rename_i t ht
        simp only [Option.some.injEq, Prod.mk.injEq] at h
        obtain ⟨rfl, rfl⟩ := h
        exact op_pick hI hE hop hc' hx hy ht
      · cases h
    · cases hc
  | nilCheck x =>
    simp only [cOp, hop] at hc
    obtain ⟨ax, hx, rfl⟩ := map_pair hc
    simp only [opE] at h
    split at h <;> (try (cases h; done)) <;> simp only [Option.some.injEq, Prod.mk.injEq] at h <;> obtain ⟨rfl, rfl⟩ := h
    · rename_i id off e; rw [← e]; exact op_nilChk hI hE hop hx (.inl ⟨_, _, e⟩)
    · rename_i id ver i off e; rw [← e]; exact op_nilChk hI hE hop hx (.inr (.inl ⟨_, _, _, _, e⟩))
    · rename_i l e; rw [← e]; exact op_nilChk hI hE hop hx (.inr (.inr ⟨_, e⟩))
  | binOp op t x y u =>
    simp only [cOp, hop] at hc
    split at hc
    · rename_i bk ax ay hb hx hy
      simp only [Option.some.injEq] at hc
      subst hc
      simp only [opE] at h
      obtain ⟨hv, rfl⟩ := snd_pair h
      exact op_bin hI hE hop hb hx hy hv
    · cases hc
  | unOp op t x =>
    simp only [cOp, hop] at hc
    obtain ⟨ax, hx, rfl⟩ := map_pair hc
    simp only [opE] at h
    obtain ⟨hv, rfl⟩ := snd_pair h
    exact op_un hI hE hop hx hv
  | convert s d x =>
    simp only [cOp, hop] at hc
    split at hc
    · rename_i k1 k2 ax hs hd hx
      simp only [Option.some.injEq] at hc
      subst hc
      simp only [opE] at h
      split at h
      · rename_i k3 n hn
        simp only [Option.some.injEq, Prod.mk.injEq] at h
        obtain ⟨rfl, rfl⟩ := h
        exact op_cvt hI hE hop hx hs hd hn
      · cases h
    · rename_i e ax hs hd hx
      split at hc
      · rename_i i he hi
        split at hc
        · simp only [Option.some.injEq] at hc
          subst hc
          simp only [opE] at h
          split at h
          · rename_i l hl
            split at h
            · rename_i r hr
              simp only [Option.some.injEq, Prod.mk.injEq] at h
              obtain ⟨rfl, rfl⟩ := h
              exact op_b2s hI hE hop hx hs he hd hl hr
            · cases h
          · cases h
        · cases hc
      · cases hc
    · cases hc
  | fieldAddr t x f =>
    simp only [cOp, hop] at hc
    split at hc
    · rename_i off i ax hf hx
      split at hc
      · cases hc
      · rename_i hq
        simp only [Option.some.injEq] at hc
        subst hc
        simp only [opE] at h
        obtain ⟨hv, rfl⟩ := snd_pair h
        exact op_fAddr hI hE hop hx hf hq hv
    · cases hc
  | field t x f =>
    simp only [cOp, hop] at hc
    split at hc
    · rename_i off i ax hf hx
      split at hc
      · rename_i hq
        simp only [Option.some.injEq] at hc
        subst hc
        simp only [opE] at h
        obtain ⟨hv, rfl⟩ := snd_pair h
        exact op_fld hI hE hop hx hf hq hv
      · cases hc
    · cases hc
  | indexAddr t x i =>
    simp only [cOp, hop] at hc
    split at hc
    · rename_i e ax ai ht hx hi
      obtain ⟨q, hq, rfl⟩ := map_pair hc
      simp only [opE] at h
      split at h
      · rename_i n hn
        obtain ⟨hv, rfl⟩ := snd_pair h
        exact op_iAddr hI hE hop hx hi ht hq hn hv
      · cases h
    · rename_i n e ax ai ht hx hi
      obtain ⟨q, hq, rfl⟩ := map_pair hc
      simp only [opE] at h
      split at h
      · rename_i n' hn
        split at h
        · rename_i hb
          obtain ⟨hv, rfl⟩ := snd_pair h
          exact op_iAddrA hI hE hop hx hi ht hq hn hb hv
        · cases h
      · cases h
    · cases hc
  | index t x i =>
    simp only [cOp, hop] at hc
    split at hc
    · rename_i n e ax ai ht hx hi
      split at hc
      · rename_i q hq
        split at hc
        · rename_i hq1
          simp only [Option.some.injEq] at hc
          subst hc
          simp only [opE] at h
          split at h
          · rename_i n' hn
            split at h
            · rename_i hb
              obtain ⟨hv, rfl⟩ := snd_pair h
              exact op_idx hI hE hop hx hi ht hq hq1 hn hb hv
            · cases h
          · cases h
        · cases hc
      · cases hc
    · rename_i ax ai ht hx hi
      simp only [Option.some.injEq] at hc
      subst hc
      simp only [opE] at h
      split at h
      · rename_i s i' hs hn
        split at h
        · rename_i h0
          obtain ⟨b, hb, he⟩ := map_pair h
          simp only [Prod.mk.injEq] at he
          obtain ⟨rfl, rfl⟩ := he
          exact op_idxS hI hE hop hx hi ht hn hs h0 hb
        · cases h
      · cases h
    · cases hc
  | extract x i =>
    simp only [cOp, hop] at hc
    obtain ⟨ax, hx, rfl⟩ := map_pair hc
    simp only [opE] at h
    split at h
    · rename_i l hl
      obtain ⟨hv, rfl⟩ := snd_pair h
      exact op_ext hI hE hop hx hl hv
    · cases h
  | load t x =>
    simp only [cOp, hop] at hc
    split at hc
    · rename_i i ax hq hx
      split at hc
      · rename_i hq1
        simp only [Option.some.injEq] at hc
        subst hc
        simp only [opE] at h
        obtain ⟨hv, rfl⟩ := snd_pair h
        exact op_ld hI hE hop hx hq hq1 hv
      · cases hc
    · cases hc
  | store t x y =>
    simp only [cOp, hop] at hc
    split at hc
    · rename_i i ax ay hq hx hy
      split at hc
      · rename_i hq1
        simp only [Option.some.injEq] at hc
        subst hc
        simp only [opE] at h
        obtain ⟨u, hu, he⟩ := map_pair h
        simp only [Prod.mk.injEq] at he
        obtain ⟨rfl, rfl⟩ := he
        exact op_st hI hE hop hx hy hq hq1 hu
      · cases hc
    · cases hc
  | box t x =>
    simp only [cOp, hop] at hc
    split at hc
    · rename_i i ax hq hx
      simp only [Option.some.injEq] at hc
      subst hc
      simp only [opE] at h
      split at h
      · cases h
      · rename_i hid
        split at h
        · rename_i hh
          simp only [Option.some.injEq, Prod.mk.injEq] at h
          obtain ⟨rfl, rfl⟩ := h
          exact op_box hI hE hop hx hid hh.2
        · cases h
    · cases hc
  | alloc t =>
    simp only [cOp, hop] at hc
    split at hc
    · rename_i i hq
      obtain ⟨z, hz, rfl⟩ := map_pair hc
      simp only [opE] at h
      split at h
      · cases h
      · rename_i hid
        simp only [Option.some.injEq, Prod.mk.injEq] at h
        obtain ⟨rfl, rfl⟩ := h
        exact op_alc hI hop hq hz hid
    · cases hc
  | build t parts =>
    simp only [cOp, hop] at hc
    split at hc
    · rename_i i ps hq hps
      split at hc
      · rename_i hst
        obtain ⟨z, hz, rfl⟩ := map_pair hc
        simp only [opE] at h
        obtain ⟨cs, hcs, he⟩ := map_pair h
        simp only [Prod.mk.injEq] at he
        obtain ⟨rfl, rfl⟩ := he
        refine op_bld hI hE hop hq hz hps ?_ hcs
        unfold structOk at hst
        split at hst
        · rename_i fs hu
          exact ⟨fs, hu, fun fd hfd => by rw [List.all_eq_true] at hst; exact hst fd hfd⟩
        · cases hst
      · cases hc
    · cases hc
  | buildSlice t n parts => exact snd_bldS hI hE hop hc h
  | makeSlice t l c => exact snd_mk hI hE hop hc h
  | slice t x lo hi mx =>
    cases mx with
    | some _ => simp only [cOp, hop] at hc; cases hc
    | none =>
      simp only [cOp, hop] at hc
      split at hc
      · rename_i str sz ax alo ahi hty hx hlo hhi
        simp only [Option.some.injEq] at hc
        subst hc
        have hlo' : optX lo = some alo := by cases lo <;> exact hlo
        have hhi' : optX hi = some ahi := by cases hi <;> exact hhi
        simp only [opE] at h
        split at h
        · rename_i l hh hl hhv
          obtain ⟨hv, rfl⟩ := snd_pair h
          split at hty
          · rename_i ht
            simp only [Option.some.injEq, Prod.mk.injEq] at hty
            obtain ⟨rfl, rfl⟩ := hty
            simp only [if_true] at hv
            exact op_slcS hI hE hop hx hlo' hhi' ht (by cases alo <;> exact hl) (by cases ahi <;> exact hhv) hv
          · rename_i e ht
            obtain ⟨q, hq, he⟩ := map_pair hty
            simp only [Prod.mk.injEq] at he
            obtain ⟨rfl, rfl⟩ := he
            simp only [Bool.false_eq_true, if_false] at hv
            exact op_slc hI hE hop hx hlo' hhi' ht hq (by cases alo <;> exact hl) (by cases ahi <;> exact hhv) hv
          · cases hty
        · cases h
      · cases hc
  | call c => exact snd_builtin hI hE hop hk hc h
  | _ => simp only [cOp, hop] at hc; cases hc

end
end Go.Am

/- The abstract machine: a call of a function, once the callee is known to be sound. -/
set_option linter.unusedVariables false
set_option linter.unusedSimpArgs false
namespace Go.Am

/-! ## What is handed over -/

theorem collect_spec (ρ : Look) : ∀ (n : Nat) (todo done res : List Id), collect ρ n todo done = some res → done.Nodup → (∀ i ∈ done, ∃ o, ρ i = some o ∧ ∀ j ∈ o.ids, j ∈ done ∨ j ∈ todo) →
    res.Nodup ∧ (∀ i ∈ done, i ∈ res) ∧ (∀ i ∈ todo, i ∈ res) ∧ (∀ i ∈ res, ∃ o, ρ i = some o ∧ ∀ j ∈ o.ids, j ∈ res) ∧ ∃ l, res = done ++ l
  | 0, todo, done, res, h, _, _ => by simp [collect] at h
  | n + 1, [], done, res, h, hn, hc => by
    simp only [collect, Option.some.injEq] at h
    subst h
    refine ⟨hn, fun _ h => h, by simp, fun i hi => ?_, [], by simp⟩
    obtain ⟨o, h1, h2⟩ := hc i hi
    exact ⟨o, h1, fun j hj => (h2 j hj).resolve_right (by simp)⟩
  | n + 1, id :: todo, done, res, h, hn, hc => by
    simp only [collect] at h
    split at h
    · rename_i hid
      obtain ⟨r1, r2, r3, r4, r5⟩ := collect_spec ρ n todo done res h hn (fun i hi => by
        obtain ⟨o, h1, h2⟩ := hc i hi
        refine ⟨o, h1, fun j hj => ?_⟩
        rcases h2 j hj with h3 | h3
        · exact .inl h3
        · cases h3 with
          | head => exact .inl hid
          | tail _ h3 => exact .inr h3)
      refine ⟨r1, r2, fun i hi => ?_, r4, r5⟩
      cases hi with
      | head => exact r2 _ hid
      | tail _ hi => exact r3 i hi
    · rename_i hid
      split at h
      · cases h
      · rename_i o ho
        obtain ⟨r1, r2, r3, r4, l, r5⟩ := collect_spec ρ n (todo ++ o.ids) (done ++ [id]) res h (by
          rw [List.nodup_append]
          exact ⟨hn, by simp, fun a ha b hb => by simp at hb; subst hb; intro e; subst e; exact hid ha⟩) (fun i hi => by
          rcases List.mem_append.1 hi with hi | hi
          · obtain ⟨o', h1, h2⟩ := hc i hi
            refine ⟨o', h1, fun j hj => ?_⟩
            rcases h2 j hj with h3 | h3
            · exact .inl (List.mem_append.2 (.inl h3))
            · cases h3 with
              | head => exact .inl (by simp)
              | tail _ h3 => exact .inr (List.mem_append.2 (.inl h3))
          · simp at hi
            subst hi
            exact ⟨o, ho, fun j hj => .inr (List.mem_append.2 (.inr hj))⟩)
        refine ⟨r1, fun i hi => r2 i (List.mem_append.2 (.inl hi)), fun i hi => ?_, r4, [id] ++ l, by simp [r5]⟩
        cases hi with
        | head => exact r2 _ (by simp)
        | tail _ hi => exact r3 i (List.mem_append.2 (.inl hi))

theorem gather_spec {ρ : Look} : ∀ {order : List Id} {os : List Obj}, gather ρ order = some os → os.length = order.length ∧ ∀ (j : Nat) (i : Id), order[j]? = some i → os[j]? = ρ i
  | [], os, h => by simp [gather] at h; subst h; simp
  | id :: r, os, h => by
    simp only [gather] at h
    split at h
    · rename_i o os' ho hos
      simp only [Option.some.injEq] at h
      subst h
      obtain ⟨h1, h2⟩ := gather_spec hos
      refine ⟨by simp [h1], fun j i hj => ?_⟩
      cases j with
      | zero => simp at hj; subst hj; simp [ho]
      | succ j => simp at hj; simpa using h2 j i hj
    · cases h

theorem indexIn_get : ∀ {order : List Id} {i : Id}, i ∈ order → order[indexIn order i]? = some i
  | [], i, h => by simp at h
  | k :: r, i, h => by
    simp only [indexIn]
    split
    · rename_i e; subst e; rfl
    · rename_i e
      have : i ∈ r := by
        cases h with
        | head => exact absurd rfl e
        | tail _ h => exact h
      simpa using indexIn_get this

theorem indexIn_lt {order : List Id} {i : Id} (h : i ∈ order) : indexIn order i < order.length := (List.getElem?_eq_some_iff.1 (indexIn_get h)).1

theorem indexIn_of {order : List Id} (hn : order.Nodup) : ∀ {j : Nat} {i : Id}, order[j]? = some i → indexIn order i = j := by
  intro j i h
  have h1 := indexIn_get (List.mem_of_getElem? h)
  have h2 := (List.getElem?_eq_some_iff.1 h)
  have h3 := (List.getElem?_eq_some_iff.1 h1)
  obtain ⟨l2, e2⟩ := h2
  obtain ⟨l3, e3⟩ := h3
  exact (List.getElem_inj hn).1 (e3.trans e2.symm)

/-! ## The callee's side -/

/-- what the objects of a context own -/
def OwnSet (C : Ctx) : Cells := fun b x => ∃ id o, C.ρ id = some o ∧ o.own = true ∧ ∃ j, j < (C.μ id).n ∧ b = (C.μ id).b ∧ x = (C.μ id).o + j

/-- the objects of a call by their numbers -/
def posLook (os : List Obj) : Look := fun id => if id.1 = 0 then os[id.2]? else none

def CallOK (P : Program) (f : FuncId) (args : List AVal) (os : List Obj) (v : AVal) (os' : List Obj) : Prop :=
  ∀ (C : Ctx) (vals : Array Value), C.ρ = posLook os → Inv ⟨C.w, C.F, OwnSet C⟩ C → RepL C args vals.toList →
    Calls P f vals C.w fun e w' => ∃ val C', e = .returned val ∧ C'.w = w' ∧ C'.ρ = posLook os' ∧ Inv ⟨C.w, C.F, OwnSet C⟩ C' ∧ RepA C' v val ∧
      Ext (fun i => i) (fun id => id.1 = 0 ∧ id.2 < os.length) C C'

def SoundK (P : Program) (K : Orc) : Prop := ∀ f args os v os', K f args os = some (v, os') → CallOK P f args os v os'

theorem ren_leaf (f : Id → Id) (a : AVal) : (a.ren f).leaf = a.leaf := by cases a <;> rfl

theorem renL_get (f : Id → Id) : ∀ (l : List AVal) (j : Nat), (AVal.renL f l)[j]? = (l[j]?).map (AVal.ren f)
  | [], j => by simp [AVal.renL]
  | a :: r, 0 => by simp [AVal.renL]
  | a :: r, j + 1 => by simp [AVal.renL, renL_get f r j]

theorem idsL_get : ∀ {l : List AVal} {j : Nat} {a : AVal}, l[j]? = some a → ∀ i ∈ a.ids, i ∈ AVal.idsL l
  | [], j, a, h, i, hi => by simp at h
  | b :: r, 0, a, h, i, hi => by simp at h; subst h; simp [AVal.idsL, hi]
  | b :: r, j + 1, a, h, i, hi => by simp at h; simp [AVal.idsL, idsL_get h i hi]

theorem own_ren (f : Id → Id) (o : Obj) : (o.ren f).own = o.own := by cases o <;> rfl

/-- an object under new names -/
theorem ObjOK.ren {C C' : Ctx} {f : Id → Id} {D : Id → Prop} {L : Loc} {o : Obj} (h : ObjOK C L o) (he : Ext f D C C') (hw : C'.w = C.w) (hF : C'.F = C.F) (hi : ∀ i ∈ o.ids, D i) : ObjOK C' L (o.ren f) := by
  have hown : OwnOK C L → OwnOK C' L := fun ho j hj => by rw [hw, hF]; exact ho j hj
  cases o with
  | box cs =>
    refine ⟨by rw [(renL_props f cs).1]; exact h.1, by rw [(renL_props f cs).2]; exact h.2.1, hown h.2.2.1, fun j a ha => ?_⟩
    rw [renL_get] at ha
    obtain ⟨b, hb, rfl⟩ := map_pair ha
    obtain ⟨v, hv, hr⟩ := h.2.2.2 j b hb
    exact ⟨v, by rw [hw]; exact hv, RepA.ext he b v (fun i hib => hi i (idsL_get hb i hib)) hr⟩
  | rarr ver es =>
    refine ⟨by rw [(renL_props f es).1]; exact h.1, by rw [(renL_props f es).2]; exact h.2.1, hown h.2.2.1, fun j a ha => ?_⟩
    rw [renL_get] at ha
    obtain ⟨b, hb, rfl⟩ := map_pair ha
    obtain ⟨v, hv, hr⟩ := h.2.2.2 j b hb
    exact ⟨v, by rw [hw]; exact hv, RepA.ext he b v (fun i hib => hi i (idsL_get hb i hib)) hr⟩
  | arr sz ver fz es =>
    obtain ⟨h1, h2, h3, h4⟩ := h
    refine ⟨h1, h2, fun e => ⟨hown (h3 e).1, ?_⟩, fun e => by rw [hF]; exact h4 e⟩
    rw [hw, hF]
    exact (h3 e).2

section
variable {P : Program} {o : Oper} {a : Act} {B : Base} {C : Ctx} {g : Nat → AVal}

/-- the context in which the callee begins -/
def calleeCtx (C1 : Ctx) (order : List Id) (os : List Obj) : Ctx :=
  { w := C1.w, F := C1.F, μ := fun id => C1.μ (order[id.2]?.getD (0, 0)), ρ := posLook os }

theorem callee_inv {C1 : Ctx} (hI : Inv B C1) {order : List Id} {os : List Obj} (hn : order.Nodup) (hcl : ∀ i ∈ order, ∃ o, C1.ρ i = some o ∧ ∀ j ∈ o.ids, j ∈ order)
    (hos : os.length = order.length) (hget : ∀ (j : Nat) (i : Id), order[j]? = some i → os[j]? = C1.ρ i) :
    Ext (toPos order) (fun i => i ∈ order) C1 (calleeCtx C1 order (os.map (Obj.ren (toPos order)))) ∧
    Inv ⟨C1.w, C1.F, OwnSet (calleeCtx C1 order (os.map (Obj.ren (toPos order))))⟩ (calleeCtx C1 order (os.map (Obj.ren (toPos order)))) := by
  have look : ∀ i, i ∈ order → (calleeCtx C1 order (os.map (Obj.ren (toPos order)))).ρ (toPos order i) = (C1.ρ i).map (Obj.ren (toPos order)) := by
    intro i hi
    have := hget _ _ (indexIn_get hi)
    simp [calleeCtx, posLook, toPos, this]
  have locOf : ∀ i, i ∈ order → (calleeCtx C1 order (os.map (Obj.ren (toPos order)))).μ (toPos order i) = C1.μ i := by
    intro i hi
    simp [calleeCtx, toPos, indexIn_get hi]
  have back : ∀ id o, (calleeCtx C1 order (os.map (Obj.ren (toPos order)))).ρ id = some o → ∃ i o1, i ∈ order ∧ order[id.2]? = some i ∧ id = toPos order i ∧ C1.ρ i = some o1 ∧ o = o1.ren (toPos order) := by
    intro id o ho
    simp only [calleeCtx, posLook] at ho
    split at ho
    · rename_i h0
      rw [List.getElem?_map] at ho
      obtain ⟨o1, h1, h2⟩ := map_pair ho
      have hlt := (List.getElem?_eq_some_iff.1 h1).1
      have hi : order[id.2]? = some order[id.2] := List.getElem?_eq_getElem (by omega)
      refine ⟨order[id.2], o1, List.getElem_mem _, hi, ?_, ?_, h2.symm⟩
      · rw [toPos, indexIn_of hn hi, ← h0]
      · rw [← hget _ _ hi, h1]
    · cases ho
  have hext : Ext (toPos order) (fun i => i ∈ order) C1 (calleeCtx C1 order (os.map (Obj.ren (toPos order)))) := by
    refine ⟨fun _ _ _ h => h, fun i L hi hb => ?_, fun i A hi ha => ?_⟩
    · unfold boxAt at hb ⊢
      rw [look i hi, locOf i hi]
      cases e : C1.ρ i with
      | none => simp [e] at hb
      | some ob => cases ob <;> simp [e] at hb; simpa [Obj.ren] using hb
    · refine ⟨A, ?_, Nat.le_refl _, fun _ => ⟨rfl, rfl, Nat.le_refl _⟩⟩
      unfold arrAt at ha ⊢
      rw [look i hi, locOf i hi]
      cases e : C1.ρ i with
      | none => simp [e] at ha
      | some ob =>
        cases ob with
        | box cs => simp [e] at ha
        | arr sz ver fz es => simpa [e, Obj.ren] using ha
        | rarr ver es => simpa [e, Obj.ren, (renL_props _ es).1] using ha
  refine ⟨hext, ?_⟩
  refine ⟨fun id o ho => ?_, fun i1 i2 o1 o2 ho1 ho2 hw1 hw2 hne j1 j2 hj1 hj2 => ?_, fun id o ho hw j hj => .inl ⟨id, o, ho, hw, j, hj, rfl, rfl⟩, Kept.refl _ _, fun b o v hv => hI.Fw b o v hv, fun _ _ _ h => h, fun _ _ _ h => .inl h⟩
  · obtain ⟨i, o1, hi, _, rfl, h1, rfl⟩ := back id o ho
    rw [locOf i hi]
    obtain ⟨o', h2, h3⟩ := hcl i hi
    rw [h1] at h2
    cases h2
    exact (hI.objs i o1 h1).ren hext rfl rfl h3
  · obtain ⟨a1, b1, c1, _, rfl, d1, rfl⟩ := back i1 o1 ho1
    obtain ⟨a2, b2, c2, _, rfl, d2, rfl⟩ := back i2 o2 ho2
    rw [locOf a1 c1] at hj1 ⊢
    rw [locOf a2 c2] at hj2 ⊢
    rw [own_ren] at hw1 hw2
    exact hI.disj a1 a2 b1 b2 d1 d2 hw1 hw2 (fun e => hne (by rw [e])) j1 j2 hj1 hj2

/-- the arguments, as they are handed over -/
theorem argsE_rep {C1 : Ctx} (hg : Grow C C1) : ∀ {l : List (AVal × Bool)} {vs : List AVal} {fs : List Id} {us : List Value},
    (∀ id ∈ fs, ∀ sz ver fz es, C.ρ id = some (.arr sz ver fz es) → RowD C1.F es (C.μ id).b (C.μ id).o sz) → opE.argsE C.ρ l = some (vs, fs) → RepL C (l.map (·.1)) us → RepL C1 vs us
  | [], vs, fs, us, hfz, h, hr => by
    simp [opE.argsE] at h
    rw [h.1]
    simpa [RepL] using hr
  | (x, byRef) :: l, vs, fs, us, hfz, h, hr => by
    simp only [opE.argsE] at h
    cases e : opE.argsE C.ρ l with
    | none => simp [e] at h
    | some p =>
      simp only [e] at h
      simp only [List.map_cons, RepL] at hr
      obtain ⟨c, cs, rfl, h2, h3⟩ := hr
      split at h
      · simp only [Option.some.injEq, Prod.mk.injEq] at h
        obtain ⟨rfl, rfl⟩ := h
        exact ⟨c, cs, rfl, h2.grow hg, argsE_rep hg hfz e h3⟩
      · cases e1 : dec C.ρ x with
        | none => simp [e1] at h
        | some q =>
          simp only [e1, Option.some.injEq, Prod.mk.injEq] at h
          obtain ⟨rfl, rfl⟩ := h
          refine ⟨c, cs, rfl, ?_, argsE_rep hg (fun id hid => hfz id (by simp [hid])) e h3⟩
          simp only [RepA]
          exact dec_rep hg.F (fun id hid => hfz id (by simp [hid])) e1 h2

theorem scal_rep {C C' : Ctx} {v : AVal} {val : Value} (h : scalV v = true) (hr : RepA C v val) : RepA C' v val := by
  have one : ∀ d v, scalD d = true → RepV C.F d v → RepV C'.F d v := by
    intro d v hd hv
    refine ⟨?_, hv.2⟩
    have := hv.1
    cases d <;> simp [scalD] at hd <;> simpa only [RepD] using this
  cases v with
  | dat d => simp only [RepA] at hr ⊢; exact one d val h hr
  | tup l =>
    simp only [RepA] at hr ⊢
    obtain ⟨cs, h1, h2⟩ := hr
    refine ⟨cs, h1, ?_⟩
    simp only [scalV] at h
    generalize cs.toList = us at h2
    clear h1
    induction l generalizing us with
    | nil => simpa only [RepL] using h2
    | cons x r ih =>
      simp only [RepL] at h2 ⊢
      obtain ⟨c, cs', e1, e2, e3⟩ := h2
      simp only [List.all_cons, Bool.and_eq_true] at h
      refine ⟨c, cs', e1, ?_, ih h.2 cs' e3⟩
      cases x with
      | dat d => simp only [RepA] at e2 ⊢; exact one d c h.1 e2
      | _ => simp at h
  | _ => simp [scalV] at h


end

mutual
theorem RepA.live {C : Ctx} : ∀ (a : AVal) (v : Value), RepA C a v → ∀ i ∈ a.ids, ∃ ob, C.ρ i = some ob
  | .dat d, v, h, i, hi => by simp [AVal.ids] at hi
  | .nils, v, h, i, hi => by simp [AVal.ids] at hi
  | .emp t, v, h, i, hi => by simp [AVal.ids] at hi
  | .nilp, v, h, i, hi => by simp [AVal.ids] at hi
  | .undef, v, h, i, hi => by simp [AVal.ids] at hi
  | .fp l, v, h, i, hi => by simp [AVal.ids] at hi
  | .ref id off, v, h, i, hi => by
    simp only [AVal.ids, List.mem_singleton] at hi
    subst hi
    simp only [RepA] at h
    obtain ⟨L, h1, _⟩ := h
    unfold boxAt at h1
    split at h1
    · rename_i e; exact ⟨_, e⟩
    · cases h1
  | .eref id ver j off, v, h, i, hi => by
    simp only [AVal.ids, List.mem_singleton] at hi
    subst hi
    simp only [RepA] at h
    obtain ⟨A, p, h1, _⟩ := h
    unfold arrAt at h1
    split at h1
    · rename_i e; exact ⟨_, e⟩
    · rename_i e; exact ⟨_, e⟩
    · cases h1
  | .rsl id ver sz off len, v, h, i, hi => by
    simp only [AVal.ids, List.mem_singleton] at hi
    subst hi
    simp only [RepA] at h
    obtain ⟨A, p, cap, h1, _⟩ := h
    unfold arrAt at h1
    split at h1
    · rename_i e; exact ⟨_, e⟩
    · rename_i e; exact ⟨_, e⟩
    · cases h1
  | .lits l, v, h, i, hi => by
    simp only [RepA] at h
    obtain ⟨b, o, cap, cs, _, _, h3, _⟩ := h
    exact RepL.live l cs h3 i (by simpa [AVal.ids] using hi)
  | .agg l, v, h, i, hi => by
    simp only [RepA] at h
    obtain ⟨cs, _, h3, _⟩ := h
    exact RepL.live l _ h3 i (by simpa [AVal.ids] using hi)
  | .tup l, v, h, i, hi => by
    simp only [RepA] at h
    obtain ⟨cs, _, h3⟩ := h
    exact RepL.live l _ h3 i (by simpa [AVal.ids] using hi)
  | .fn f l, v, h, i, hi => by
    simp only [RepA] at h
    obtain ⟨cs, _, h3⟩ := h
    exact RepL.live l _ h3 i (by simpa [AVal.ids] using hi)
theorem RepL.live {C : Ctx} : ∀ (l : List AVal) (cs : List Value), RepL C l cs → ∀ i ∈ AVal.idsL l, ∃ ob, C.ρ i = some ob
  | [], cs, h, i, hi => by simp [AVal.idsL] at hi
  | a :: r, cs, h, i, hi => by
    simp only [RepL] at h
    obtain ⟨c, cs', _, h2, h3⟩ := h
    simp only [AVal.idsL, List.mem_append] at hi
    rcases hi with hi | hi
    · exact RepA.live a c h2 i hi
    · exact RepL.live r cs' h3 i hi
end

theorem cells_live {C : Ctx} {L : Loc} : ∀ (l : List AVal) (k : Nat), (∀ (j : Nat) (a : AVal), l[j]? = some a → ∃ v, C.w.cell? ⟨L.b, L.o + (k + j), none⟩ = some v ∧ RepA C a v) → ∀ i ∈ AVal.idsL l, ∃ ob, C.ρ i = some ob
  | [], k, h, i, hi => by simp [AVal.idsL] at hi
  | a :: r, k, h, i, hi => by
    simp only [AVal.idsL, List.mem_append] at hi
    rcases hi with hi | hi
    · obtain ⟨v, _, hr⟩ := h 0 a rfl
      exact RepA.live a v hr i hi
    · exact cells_live r (k + 1) (fun j b hb => by
        obtain ⟨v, h1, h2⟩ := h (j + 1) b (by simpa using hb)
        exact ⟨v, by rwa [show k + 1 + j = k + (j + 1) by omega], h2⟩) i hi

theorem ObjOK.live {C : Ctx} {L : Loc} {ob : Obj} (h : ObjOK C L ob) : ∀ i ∈ ob.ids, ∃ o', C.ρ i = some o' := by
  cases ob with
  | box cs => exact cells_live cs 0 (fun j a ha => by have := h.2.2.2 j a ha; simpa using this)
  | rarr ver es => exact cells_live es 0 (fun j a ha => by have := h.2.2.2 j a ha; simpa using this)
  | arr sz ver fz es => intro i hi; simp [Obj.ids] at hi

theorem updL_zip : ∀ {ids : List Id} {os : List Obj}, ids.Nodup → ids.length = os.length → ∀ (ρ : Look) (i : Id), updL ρ (ids.zip os) i = if i ∈ ids then os[indexIn ids i]? else ρ i
  | [], os, _, _, ρ, i => by simp [updL]
  | id :: r, [], _, hl, ρ, i => by simp at hl
  | id :: r, o :: os, hn, hl, ρ, i => by
    simp only [List.zip_cons_cons, updL]
    rw [List.nodup_cons] at hn
    rw [updL_zip hn.2 (by simpa using hl)]
    by_cases e : id = i
    · subst e
      simp [hn.1, indexIn]
    · simp only [List.mem_cons, indexIn, e, if_false]
      by_cases hi : i ∈ r
      · simp [hi]
      · have e' : ¬ i = id := fun x => e x.symm
        simp [hi, e']

section
variable {P : Program} {o : Oper} {a : Act} {B : Base} {C : Ctx} {g : Nat → AVal}

theorem ids_spec {order : List Id} {site n : Nat} (hn : order.Nodup) (hm : order.length ≤ n) (hfresh : ∀ j, j < n - order.length → (site + 1, j) ∉ order) :
    ((List.range n).map fun j => fromPos order site (0, j)).Nodup ∧ (∀ j, j < n → ((List.range n).map fun j => fromPos order site (0, j))[j]? = some (fromPos order site (0, j))) ∧
    (∀ i ∈ order, i ∈ ((List.range n).map fun j => fromPos order site (0, j))) ∧
    (∀ i ∈ ((List.range n).map fun j => fromPos order site (0, j)), i ∈ order ∨ ∃ j, j < n - order.length ∧ i = (site + 1, j)) := by
  have val : ∀ j, fromPos order site (0, j) = if h : j < order.length then order[j] else (site + 1, j - order.length) := by
    intro j
    unfold fromPos
    by_cases h : j < order.length
    · simp [h]
    · simp [h, List.getElem?_eq_none (Nat.le_of_not_lt h)]
  refine ⟨?_, fun j hj => by simp [hj], fun i hi => ?_, fun i hi => ?_⟩
  · rw [List.Nodup, List.pairwise_map]
    refine List.Pairwise.imp_of_mem ?_ (List.pairwise_lt_range (n := n))
    intro x y hx hy hlt
    rw [val, val]
    have hy' : y < n := by simpa using hy
    by_cases h1 : x < order.length
    · by_cases h2 : y < order.length
      · rw [dif_pos h1, dif_pos h2]
        intro e
        have := (List.getElem_inj hn).1 e
        omega
      · rw [dif_pos h1, dif_neg h2]
        intro e
        exact hfresh (y - order.length) (by omega) (e ▸ List.getElem_mem h1)
    · have h2 : ¬ y < order.length := by omega
      rw [dif_neg h1, dif_neg h2]
      intro e
      simp only [Prod.mk.injEq] at e
      omega
  · rw [List.mem_map]
    refine ⟨indexIn order i, by have := indexIn_lt hi; simp; omega, ?_⟩
    have := indexIn_get hi
    simp [fromPos, this]
  · rw [List.mem_map] at hi
    obtain ⟨j, hj, rfl⟩ := hi
    rw [val]
    simp at hj
    split
    · exact .inl (List.getElem_mem _)
    · exact .inr ⟨j - order.length, by omega, rfl⟩

/-- the context of the caller behind the call -/
def afterCtx (C1 C' : Ctx) (ids : List Id) (os : List Obj) : Ctx :=
  { w := C'.w, F := C'.F, μ := fun id => if id ∈ ids then C'.μ (0, indexIn ids id) else C1.μ id, ρ := fun id => if id ∈ ids then os[indexIn ids id]? else C1.ρ id }

theorem after_inv {C1 Ce C' : Ctx} (hI : Inv B C1) {order : List Id} {os os' : List Obj} {site : Nat} (hn : order.Nodup) (hcl : ∀ i ∈ order, ∃ o, C1.ρ i = some o ∧ ∀ j ∈ o.ids, j ∈ order)
    (hlen : os.length = order.length) (hCe : Ce = calleeCtx C1 order (os.map (Obj.ren (toPos order)))) (hext : Ext (toPos order) (fun i => i ∈ order) C1 Ce)
    (hget : ∀ (j : Nat) (i : Id), order[j]? = some i → os[j]? = C1.ρ i)
    (hm : order.length ≤ os'.length) (hfresh : ∀ j, j < os'.length - order.length → C1.ρ (site + 1, j) = none)
    (hρ' : C'.ρ = posLook os') (hI' : Inv ⟨Ce.w, Ce.F, OwnSet Ce⟩ C') (hx : Ext (fun i => i) (fun id => id.1 = 0 ∧ id.2 < os.length) Ce C') :
    let ids := (List.range os'.length).map fun j => fromPos order site (0, j)
    let C2 := afterCtx C1 C' ids (os'.map (Obj.ren (fromPos order site)))
    Inv B C2 ∧ Grow C1 C2 ∧ Ext (fromPos order site) (fun id => id.1 = 0 ∧ id.2 < os'.length) C' C2 := by
  intro ids C2
  have hfo : ∀ j, j < os'.length - order.length → (site + 1, j) ∉ order := by
    intro j hj hmem
    obtain ⟨o, h1, _⟩ := hcl _ hmem
    rw [hfresh j hj] at h1; cases h1
  obtain ⟨n1, n2, n3, n4⟩ := ids_spec (site := site) (n := os'.length) hn hm hfo
  have hidx : ∀ j, j < os'.length → indexIn ids (fromPos order site (0, j)) = j := fun j hj => indexIn_of n1 (n2 j hj)
  have hmem : ∀ j, j < os'.length → fromPos order site (0, j) ∈ ids := fun j hj => List.mem_of_getElem? (n2 j hj)
  have hilt : ∀ i, i ∈ ids → indexIn ids i < os'.length := fun i hi => by have := indexIn_lt hi; simpa [ids] using this
  have hfrom : ∀ i, i ∈ ids → fromPos order site (0, indexIn ids i) = i := by
    intro i hi
    have h1 := indexIn_get hi
    have h2 := n2 _ (hilt i hi)
    rw [h1] at h2
    exact (Option.some.inj h2).symm
  have look2 : ∀ j, j < os'.length → C2.ρ (fromPos order site (0, j)) = (os'[j]?).map (Obj.ren (fromPos order site)) := by
    intro j hj
    simp only [C2, afterCtx, hmem j hj, if_true, hidx j hj, List.getElem?_map]
  have loc2 : ∀ j, j < os'.length → C2.μ (fromPos order site (0, j)) = C'.μ (0, j) := by
    intro j hj
    simp only [C2, afterCtx, hmem j hj, if_true, hidx j hj]
  have look' : ∀ id ob, C'.ρ id = some ob → id = (0, id.2) ∧ id.2 < os'.length ∧ os'[id.2]? = some ob := by
    intro id ob hob
    rw [hρ'] at hob
    simp only [posLook] at hob
    split at hob
    · rename_i h0
      exact ⟨by rw [← h0], (List.getElem?_eq_some_iff.1 hob).1, hob⟩
    · cases hob
  have hextB : Ext (fromPos order site) (fun id => id.1 = 0 ∧ id.2 < os'.length) C' C2 := by
    refine ⟨fun _ _ _ h => h, fun i L hi hb => ?_, fun i A hi ha => ?_⟩
    · have ei : i = (0, i.2) := by rw [← hi.1]
      unfold boxAt at hb ⊢
      rw [ei, look2 _ hi.2, loc2 _ hi.2]
      rw [ei, hρ'] at hb
      simp only [posLook, if_true] at hb
      cases e : os'[i.2]? with
      | none => rw [e] at hb; simp at hb
      | some ob => rw [e] at hb; cases ob <;> simp at hb; simpa [Obj.ren] using hb
    · have ei : i = (0, i.2) := by rw [← hi.1]
      refine ⟨A, ?_, Nat.le_refl _, fun _ => ⟨rfl, rfl, Nat.le_refl _⟩⟩
      unfold arrAt at ha ⊢
      rw [ei, look2 _ hi.2, loc2 _ hi.2]
      rw [ei, hρ'] at ha
      simp only [posLook, if_true] at ha
      cases e : os'[i.2]? with
      | none => rw [e] at ha; simp at ha
      | some ob =>
        rw [e] at ha
        cases ob with
        | box cs => simp at ha
        | arr sz ver fz es => simpa [Obj.ren] using ha
        | rarr ver es => simpa [Obj.ren, (renL_props _ es).1] using ha
  have other : ∀ i, i ∉ ids → C2.ρ i = C1.ρ i ∧ C2.μ i = C1.μ i := by
    intro i hi
    simp only [C2, afterCtx, hi, if_false, and_self]
  have hback : ∀ i, i ∈ order → (toPos order i).1 = 0 ∧ (toPos order i).2 < os'.length ∧ (toPos order i).2 < os.length ∧ fromPos order site (toPos order i) = i := by
    intro i hi
    have := indexIn_lt hi
    refine ⟨rfl, by simp only [toPos]; omega, by simp only [toPos]; omega, ?_⟩
    simp [fromPos, toPos, indexIn_get hi]
  have notOrder : ∀ i, i ∈ ids → i ∉ order → C1.ρ i = none := by
    intro i hi ho
    rcases n4 i hi with h | ⟨j, hj, rfl⟩
    · exact absurd h ho
    · exact hfresh j hj
  have hgrow : Grow C1 C2 := by
    refine ⟨fun b x v hv => ?_, fun i L _ hb => ?_, fun i A _ ha => ?_⟩
    · have h1 : Ce.F b x = some v := by subst hCe; exact hv
      exact hI'.Fsub _ _ _ h1
    · by_cases hi : i ∈ ids
      · by_cases ho : i ∈ order
        · obtain ⟨b1, b2, b3, b4⟩ := hback i ho
          have h1 := hext.box i L ho hb
          have h2 := hx.box _ L ⟨b1, b3⟩ h1
          have h3 := hextB.box _ L ⟨b1, b2⟩ h2
          simpa [b4] using h3
        · simp [boxAt, notOrder i hi ho] at hb
      · obtain ⟨q1, q2⟩ := other i hi
        simpa [boxAt, q1, q2] using hb
    · by_cases hi : i ∈ ids
      · by_cases ho : i ∈ order
        · obtain ⟨b1, b2, b3, b4⟩ := hback i ho
          obtain ⟨A1, h1, v1, e1⟩ := hext.arr i A ho ha
          obtain ⟨A2, h2, v2, e2⟩ := hx.arr _ A1 ⟨b1, b3⟩ h1
          obtain ⟨A3, h3, v3, e3⟩ := hextB.arr _ A2 ⟨b1, b2⟩ h2
          refine ⟨A3, by simpa [b4] using h3, by omega, fun e => ?_⟩
          obtain ⟨x1, x2, x3⟩ := e1 (by omega)
          obtain ⟨y1, y2, y3⟩ := e2 (by omega)
          obtain ⟨z1, z2, z3⟩ := e3 (by omega)
          exact ⟨by rw [z1, y1, x1], by rw [z2, y2, x2], by omega⟩
        · simp [arrAt, notOrder i hi ho] at ha
      · obtain ⟨q1, q2⟩ := other i hi
        exact ⟨A, by simpa [arrAt, q1, q2] using ha, Nat.le_refl _, fun _ => ⟨rfl, rfl, Nat.le_refl _⟩⟩
  have hCew : Ce.w = C1.w := by subst hCe; rfl
  have hCeF : Ce.F = C1.F := by subst hCe; rfl
  have hkept : Kept C1.w C2.w (OwnSet Ce) := by have := hI'.kept; simp only at this; rw [hCew] at this; exact this
  -- what the callee owned at its start lies in the caller's objects that were handed over
  have hown0 : ∀ b x, OwnSet Ce b x → ∃ i ob, i ∈ order ∧ C1.ρ i = some ob ∧ ob.own = true ∧ ∃ j, j < (C1.μ i).n ∧ b = (C1.μ i).b ∧ x = (C1.μ i).o + j := by
    rintro b x ⟨id, ob, h1, h2, j, hj, rfl, rfl⟩
    subst hCe
    simp only [calleeCtx, posLook] at h1
    split at h1
    · rename_i h0
      rw [List.getElem?_map] at h1
      obtain ⟨o1, g1, g2⟩ := map_pair h1
      have hlt := (List.getElem?_eq_some_iff.1 g1).1
      have hi : order[id.2]? = some order[id.2] := List.getElem?_eq_getElem (by omega)
      have hμ : (calleeCtx C1 order (os.map (Obj.ren (toPos order)))).μ id = C1.μ order[id.2] := by simp [calleeCtx, hi]
      rw [hμ] at hj ⊢
      refine ⟨order[id.2], o1, List.getElem_mem _, by rw [← hget _ _ hi, g1], by rw [← g2, own_ren] at h2; exact h2, j, hj, rfl, rfl⟩
    · cases h1
  have ownB : ∀ b x, OwnSet Ce b x → B.O b x ∨ B.w.heap.size ≤ b := by
    intro b x h
    obtain ⟨i, ob, _, h2, h3, j, hj, rfl, rfl⟩ := hown0 b x h
    exact hI.own i ob h2 h3 j hj
  have hFnew : ∀ b x v, C2.F b x = some v → C1.F b x = some v ∨ C1.w.heap.size ≤ b ∨ OwnSet Ce b x := by
    intro b x v hv
    rcases hI'.Fnew b x v hv with h | h | h
    · rw [hCeF] at h; exact .inl h
    · exact .inr (.inr h)
    · rw [hCew] at h; exact .inr (.inl h)
  have notOwn : ∀ i ob, i ∉ ids → C1.ρ i = some ob → ob.own = true → ∀ j, j < (C1.μ i).n → ¬ OwnSet Ce (C1.μ i).b ((C1.μ i).o + j) := by
    intro i ob hi h1 h2 j hj hcon
    obtain ⟨i', ob', h3, h4, h5, j', hj', e1, e2⟩ := hown0 _ _ hcon
    exact hI.disj i i' ob ob' h1 h4 h2 h5 (fun e => hi (by rw [e]; exact n3 _ h3)) j j' hj hj' ⟨e1, e2⟩
  -- an object of the callee's, under the caller's name
  have got : ∀ i ob, i ∈ ids → C2.ρ i = some ob → ∃ ob', C'.ρ (0, indexIn ids i) = some ob' ∧ ob = ob'.ren (fromPos order site) ∧ C2.μ i = C'.μ (0, indexIn ids i) := by
    intro i ob hi hob
    have h1 := look2 _ (hilt i hi)
    have h2 := loc2 _ (hilt i hi)
    rw [hfrom i hi] at h1 h2
    rw [hob] at h1
    obtain ⟨ob', h3, h4⟩ := map_pair h1.symm
    refine ⟨ob', ?_, h4.symm, h2⟩
    rw [hρ']
    simpa [posLook] using h3
  have ownLoc : ∀ i ob, i ∈ ids → C2.ρ i = some ob → ob.own = true → ∀ j, j < (C2.μ i).n → OwnSet Ce (C2.μ i).b ((C2.μ i).o + j) ∨ C1.w.heap.size ≤ (C2.μ i).b := by
    intro i ob hi hob hw j hj
    obtain ⟨ob', h1, h2, h3⟩ := got i ob hi hob
    rw [h3] at hj ⊢
    rw [h2, own_ren] at hw
    have := hI'.own _ ob' h1 hw j hj
    simp only [hCew] at this
    exact this
  refine ⟨⟨fun i ob hob => ?_, fun i1 i2 o1 o2 ho1 ho2 hw1 hw2 hne j1 j2 hj1 hj2 => ?_, fun i ob hob hw j hj => ?_, ?_, fun b x v hv => hI'.Fw b x v hv, fun b x v hv => hgrow.F _ _ _ (hI.Fsub _ _ _ hv), fun b x v hv => ?_⟩, hgrow, hextB⟩
  · by_cases hi : i ∈ ids
    · obtain ⟨ob', h1, h2, h3⟩ := got i ob hi hob
      rw [h2, h3]
      exact (hI'.objs _ ob' h1).ren hextB rfl rfl (fun i' hi' => by
        obtain ⟨o'', h5⟩ := (hI'.objs _ ob' h1).live i' hi'
        obtain ⟨e1, e2, _⟩ := look' _ _ h5
        exact ⟨by rw [e1], e2⟩)
    · obtain ⟨q1, q2⟩ := other i hi
      rw [q1] at hob
      rw [q2]
      exact (hI.objs i ob hob).keep hgrow hkept hFnew (fun hw => notOwn i ob hi hob hw)
  · by_cases h1 : i1 ∈ ids
    · by_cases h2 : i2 ∈ ids
      · obtain ⟨a1, b1, c1, d1⟩ := got i1 o1 h1 ho1
        obtain ⟨a2, b2, c2, d2⟩ := got i2 o2 h2 ho2
        rw [d1] at hj1 ⊢
        rw [d2] at hj2 ⊢
        rw [c1, own_ren] at hw1
        rw [c2, own_ren] at hw2
        refine hI'.disj _ _ a1 a2 b1 b2 hw1 hw2 (fun e => hne ?_) j1 j2 hj1 hj2
        have := congrArg (fromPos order site) e
        rwa [hfrom i1 h1, hfrom i2 h2] at this
      · obtain ⟨q1, q2⟩ := other i2 h2
        rw [q1] at ho2
        rw [q2] at hj2 ⊢
        intro ⟨e1, e2⟩
        rcases ownLoc i1 o1 h1 ho1 hw1 j1 hj1 with h | h
        · rw [e1, e2] at h
          exact notOwn i2 o2 h2 ho2 hw2 j2 hj2 h
        · obtain ⟨⟨v, hv⟩, _⟩ := (hI.objs i2 o2 ho2).ownOK hw2 j2 hj2
          have := World.block_lt_of_cell? _ _ hv
          simp only at this
          omega
    · obtain ⟨q1, q2⟩ := other i1 h1
      rw [q1] at ho1
      rw [q2] at hj1 ⊢
      by_cases h2 : i2 ∈ ids
      · intro ⟨e1, e2⟩
        rcases ownLoc i2 o2 h2 ho2 hw2 j2 hj2 with h | h
        · rw [← e1, ← e2] at h
          exact notOwn i1 o1 h1 ho1 hw1 j1 hj1 h
        · obtain ⟨⟨v, hv⟩, _⟩ := (hI.objs i1 o1 ho1).ownOK hw1 j1 hj1
          have := World.block_lt_of_cell? _ _ hv
          simp only at this
          omega
      · obtain ⟨q3, q4⟩ := other i2 h2
        rw [q3] at ho2
        rw [q4] at hj2 ⊢
        exact hI.disj i1 i2 o1 o2 ho1 ho2 hw1 hw2 hne j1 j2 hj1 hj2
  · by_cases hi : i ∈ ids
    · rcases ownLoc i ob hi hob hw j hj with h | h
      · exact ownB _ _ h
      · exact .inr (Nat.le_trans hI.kept.size h)
    · obtain ⟨q1, q2⟩ := other i hi
      rw [q1] at hob
      rw [q2] at hj ⊢
      exact hI.own i ob hob hw j hj
  · refine hI.kept.trans hkept (fun _ _ _ h => h) fun b x hb h => ?_
    rcases ownB b x h with h | h
    · exact h
    · omega
  · rcases hFnew b x v hv with h | h | h
    · exact hI.Fnew _ _ _ h
    · exact .inr (.inr (Nat.le_trans hI.kept.size h))
    · exact .inr (ownB _ _ h)

theorem map_fst_zipIdx (axs : List AX) (bs : Nat → Bool) : ((axs.zipIdx.map fun p => (p.1, bs p.2)).map fun p => p.1) = axs := by
  rw [List.map_map]
  have : ((fun p : AX × Bool => p.1) ∘ fun p : AX × Nat => (p.1, bs p.2)) = Prod.fst := rfl
  rw [this, List.zipIdx_map_fst]

theorem op_call {K : Orc} (hS : SoundK P K) (hI : Inv B C) (hE : RepE C g a) {c : Call} {f : FuncId} {axs : List AX} {args : List (AX × Bool)} {sc : Bool} {site : Nat} {v : AVal} {upd : List (Id × Obj)} (ho : o.op = .call c) (hc : c.callee = .value (.func f))
    (hargs : cXs c.args = some axs) (hfst : args.map (·.1) = axs) (hen : enterable P f = true) (h : opE K site (.call f args sc) g C.ρ = some (v, upd)) : Does P o a C.w (Owes B C v upd) := by
  have hrun : (execOp a.eval o).run P C.w = .ok (.enter f (c.args.map a.eval)) C.w := by
    unfold enterable at hen
    cases hfn : P.funcs[f]? with
    | none => simp [hfn] at hen
    | some fn =>
      rw [hfn] at hen
      simp only [bne_iff_ne, Bool.and_eq_true, ne_eq] at hen
      have hb : fn.body.isNone = false := by cases hb : fn.body <;> simp_all
      have hname : (fn.name == "runtime.NumGoroutine") = false := by simpa using hen.1
      simp only [execOp, ho, resolve, hc, Act.eval, Sem.run_bind, Deferred.ofValue, Sem.run_pure, Result.andThen_ok, invoke, callFunc, run_program, hfn, hname, hb, Bool.false_eq_true, if_false]
      simp
  have hrl : RepL C (axs.map (evX g)) (c.args.map a.eval).toList := by
    have := cXs_rep (C := C) hE hargs
    simpa using this
  have hrl' : RepL C ((args.map fun p => (evX g p.1, p.2)).map (·.1)) (c.args.map a.eval).toList := by
    have e : ((args.map fun p => (evX g p.1, p.2)).map (·.1)) = axs.map (evX g) := by
      rw [← hfst, List.map_map, List.map_map]; rfl
    rw [e]; exact hrl
  refine .inr (.inr ⟨f, _, hrun, ?_⟩)
  simp only [opE] at h
  split at h
  · cases h
  · rename_i vs fs hvs
    obtain ⟨C1, k1, k2, k3, k4, k5, k6⟩ := hI.freeze fs
    have hvr := argsE_rep k5 k6 hvs hrl'
    split at h
    · cases h
    · rename_i order hcol
      obtain ⟨r1, r2, r3, r4, _⟩ := collect_spec C.ρ 64 _ [] order hcol (by simp) (by simp)
      split at h
      · cases h
      · rename_i os hos
        obtain ⟨g1, g2⟩ := gather_spec hos
        split at h
        · cases h
        · rename_i hfo
          have hfo' : ∀ i ∈ order, i ∉ fs := by
            intro i hi hf
            apply hfo
            rw [List.any_eq_true]
            exact ⟨i, hf, by simpa using hi⟩
          have hρ1 : ∀ i ∈ order, C1.ρ i = C.ρ i := fun i hi => by rw [k3, updL_frz_other fs (hfo' i hi)]
          have hcl1 : ∀ i ∈ order, ∃ o, C1.ρ i = some o ∧ ∀ j ∈ o.ids, j ∈ order := fun i hi => by rw [hρ1 i hi]; exact r4 i hi
          have hget1 : ∀ (j : Nat) (i : Id), order[j]? = some i → os[j]? = C1.ρ i := fun j i hj => by rw [hρ1 i (List.mem_of_getElem? hj)]; exact g2 j i hj
          obtain ⟨hext, hinv⟩ := callee_inv k4 r1 hcl1 g1 hget1
          have hargr : RepL (calleeCtx C1 order (os.map (Obj.ren (toPos order)))) (AVal.renL (toPos order) vs) (c.args.map a.eval).toList :=
            RepL.ext hext vs _ (fun i hi => r3 i hi) hvr
          split at h
          · cases h
          · rename_i rv os' hK
            have hcall := hS _ _ _ _ _ hK (calleeCtx C1 order (os.map (Obj.ren (toPos order)))) (c.args.map a.eval) rfl hinv hargr
            have hw1 : (calleeCtx C1 order (os.map (Obj.ren (toPos order)))).w = C.w := k1
            rw [hw1] at hcall
            refine hcall.mono fun e w' ⟨val, C', h1, h2, h3, h4, h5, h6⟩ => ⟨val, h1, ?_⟩
            split at h
            · rename_i hsc
              simp only [Bool.and_eq_true, List.isEmpty_iff] at hsc
              have hord := hsc.2
              subst hord
              split at h
              · rename_i hh
                simp only [Bool.and_eq_true, List.isEmpty_iff] at hh
                simp only [Option.some.injEq, Prod.mk.injEq] at h
                obtain ⟨rfl, rfl⟩ := h
                have hk := h4.kept
                simp only at hk
                have hempty : ∀ b x, ¬ OwnSet (calleeCtx C1 [] (os.map (Obj.ren (toPos [])))) b x := by
                  rintro b x ⟨id, ob, q1, _⟩
                  have : os = [] := List.eq_nil_of_length_eq_zero g1
                  subst this
                  simp [calleeCtx, posLook] at q1
                obtain ⟨i1, i2⟩ := hI.plain (C' := { C with w := C'.w }) (hk.mono fun b x _ hx => hempty b x hx) (fun _ _ _ h => h) (fun _ _ _ h => .inl h) (fun b x v hv e => by simp only at hv; rw [e] at hv; cases hv) rfl rfl
                exact ⟨{ C with w := C'.w }, h2, rfl, i1, i2, scal_rep hh.2 h5⟩
              · cases h
            · split at h
              · cases h
              · rename_i hlen
                split at h
                · cases h
                · rename_i hfr
                  simp only [Option.some.injEq, Prod.mk.injEq] at h
                  obtain ⟨rfl, rfl⟩ := h
                  have hfresh0 : ∀ j, j < os'.length - order.length → C.ρ (site + 1, j) = none := by
                    intro j hj
                    cases e : C.ρ (site + 1, j) with
                    | none => rfl
                    | some ob =>
                      exfalso
                      apply hfr
                      rw [List.any_eq_true]
                      exact ⟨j, by simpa using hj, by simp [e]⟩
                  have hfresh : ∀ j, j < os'.length - order.length → C1.ρ (site + 1, j) = none := by
                    intro j hj
                    rw [k3]
                    have h0 := hfresh0 j hj
                    have : ∀ (fs : List Id) (ρ' : Look), ρ' (site + 1, j) = none → updL ρ' (frz C.ρ fs) (site + 1, j) = none := by
                      intro fs
                      induction fs with
                      | nil => intro ρ' h; exact h
                      | cons i r ih =>
                        intro ρ' h
                        simp only [frz]
                        split
                        · rename_i e
                          simp only [updL]
                          refine ih _ ?_
                          by_cases e' : i = (site + 1, j)
                          · rw [e', h0] at e; cases e
                          · rw [if_neg e']; exact h
                        · exact ih _ h
                    exact this fs C.ρ h0
                  obtain ⟨a1, a2, a3⟩ := after_inv (site := site) k4 r1 hcl1 g1 rfl hext hget1 (by omega) hfresh h3 (by rw [hw1]; exact h4) (by simpa using h6)
                  obtain ⟨n1, n2, n3, n4⟩ := ids_spec (site := site) (n := os'.length) r1 (by omega) (fun j hj hm => by
                    obtain ⟨o', q, _⟩ := hcl1 _ hm
                    rw [hfresh j hj] at q; cases q)
                  refine ⟨_, ?_, ?_, a1, k5.trans a2, ?_⟩
                  · exact h2
                  · rw [updL_append, ← k3]
                    funext i
                    rw [updL_zip n1 (by simp)]
                    rfl
                  · refine RepA.ext a3 rv val (fun i hi => ?_) h5
                    obtain ⟨ob, hob⟩ := RepA.live rv val h5 i hi
                    rw [h3] at hob
                    simp only [posLook] at hob
                    split at hob
                    · rename_i h0
                      exact ⟨h0, (List.getElem?_eq_some_iff.1 hob).1⟩
                    · cases hob

theorem cOp_call {m : Mk} {f : FuncId} {args : List (AX × Bool)} {sc : Bool} (hc : cOp P m o = some (.call f args sc)) :
    ∃ c axs, o.op = .call c ∧ c.callee = .value (.func f) ∧ cXs c.args = some axs ∧ args.map (·.1) = axs ∧ enterable P f = true := by
  unfold cOp at hc
  split at hc
  all_goals (try (repeat' split at hc)) <;> (try (simp at hc; done))
  rename_i _ c hop _ _ f' axs h1 h2 _ fn _ hen
  simp only [Option.some.injEq, AK.call.injEq] at hc
  obtain ⟨rfl, rfl, rfl⟩ := hc
  exact ⟨c, axs, hop, h1, h2, map_fst_zipIdx axs _, hen⟩

theorem op_all {K : Orc} (hS : SoundK P K) (hI : Inv B C) (hE : RepE C g a) {m : Mk} {k : AK} {site : Nat} {v : AVal} {upd : List (Id × Obj)} (hc : cOp P m o = some k) (h : opE K site k g C.ρ = some (v, upd)) : Does P o a C.w (Owes B C v upd) := by
  by_cases hk : ∃ f args sc, k = .call f args sc
  · obtain ⟨f, args, sc, rfl⟩ := hk
    obtain ⟨c, axs, h1, h2, h3, h4, h5⟩ := cOp_call hc
    exact op_call hS hI hE h1 h2 h3 h4 h5 h
  · exact op_sound hI hE (fun f args sc e => hk ⟨f, args, sc, e⟩) hc h

end
end Go.Am

/- The abstract machine: what an operation's answer depends on: the slots that it names, and the objects that it looks at or writes. -/
set_option linter.unusedVariables false
set_option linter.unusedSimpArgs false
namespace Go.Am

section
variable {g g' : Nat → AVal} {ρ ρ' : Look}

theorem evX_congr : ∀ {x : AX}, (∀ t ∈ x.slots, g' t = g t) → evX g' x = evX g x
  | .t n, h => h n (by simp [AX.slots])
  | .c v, _ => rfl

theorem evXs_congr : ∀ {xs : List AX}, (∀ t ∈ AX.slotsL xs, g' t = g t) → xs.map (evX g') = xs.map (evX g)
  | [], _ => rfl
  | x :: r, h => by
    simp only [AX.slotsL, List.mem_append, or_imp, forall_and] at h
    rw [List.map_cons, List.map_cons, evX_congr h.1, evXs_congr h.2]

theorem pairs_congr {args : List (AX × Bool)} (h : ∀ t ∈ AX.slotsL (args.map (·.1)), g' t = g t) : (args.map fun p => (evX g' p.1, p.2)) = (args.map fun p => (evX g p.1, p.2)) := by
  induction args with
  | nil => rfl
  | cons p r ih =>
    simp only [List.map_cons, AX.slotsL, List.mem_append, or_imp, forall_and] at h
    rw [List.map_cons, List.map_cons, ih h.2, evX_congr h.1]

theorem parts_congr {ps : List (Nat × Nat × AX)} (h : ∀ t ∈ AX.slotsL (ps.map fun p => p.2.2), g' t = g t) : (ps.map fun p => (p.1, p.2.1, evX g' p.2.2)) = (ps.map fun p => (p.1, p.2.1, evX g p.2.2)) := by
  induction ps with
  | nil => rfl
  | cons p r ih =>
    simp only [List.map_cons, AX.slotsL, List.mem_append, or_imp, forall_and] at h
    rw [List.map_cons, List.map_cons, ih h.2, evX_congr h.1]

/-- the slots -/
theorem opE_slots (K : Orc) (site : Nat) {k : AK} (ρ : Look) (h : ∀ t ∈ k.slots, g' t = g t) : opE K site k g' ρ = opE K site k g ρ := by
  cases k with
  | mv x => simp only [opE, evX_congr h]
  | mvNil md sz => rfl
  | pick c a b =>
    simp only [AK.slots, List.mem_append, or_imp, forall_and] at h
    simp only [opE, evX_congr h.1.1, evX_congr h.1.2, evX_congr h.2]
  | nilChk x => simp only [opE, evX_congr h]
  | bin bk op x y =>
    simp only [AK.slots, List.mem_append, or_imp, forall_and] at h
    simp only [opE, evX_congr h.1, evX_congr h.2]
  | un op x => simp only [opE, evX_congr h]
  | cvt k x => simp only [opE, evX_congr h]
  | b2s x => simp only [opE, evX_congr h]
  | fAddr off x => simp only [opE, evX_congr h]
  | fld off n agg x => simp only [opE, evX_congr h]
  | iAddr sz x i =>
    simp only [AK.slots, List.mem_append, or_imp, forall_and] at h
    simp only [opE, evX_congr h.1, evX_congr h.2]
  | iAddrA n sz x i =>
    simp only [AK.slots, List.mem_append, or_imp, forall_and] at h
    simp only [opE, evX_congr h.1, evX_congr h.2]
  | idx n sz agg x i =>
    simp only [AK.slots, List.mem_append, or_imp, forall_and] at h
    simp only [opE, evX_congr h.1, evX_congr h.2]
  | idxS x i =>
    simp only [AK.slots, List.mem_append, or_imp, forall_and] at h
    simp only [opE, evX_congr h.1, evX_congr h.2]
  | ext i x => simp only [opE, evX_congr h]
  | len str x => simp only [opE, evX_congr h]
  | mm isMax x r =>
    simp only [AK.slots, List.mem_append, or_imp, forall_and] at h
    simp only [opE, evX_congr h.1, evXs_congr h.2]
  | bld zero parts => simp only [opE, parts_congr h]
  | bldS md sz xs => simp only [opE, evXs_congr h]
  | box n x => simp only [opE, evX_congr h]
  | alc zero => rfl
  | ld n agg a => simp only [opE, evX_congr h]
  | st n a v =>
    simp only [AK.slots, List.mem_append, or_imp, forall_and] at h
    simp only [opE, evX_congr h.1, evX_congr h.2]
  | mk md sz bytes zero l c =>
    simp only [AK.slots, List.mem_append, or_imp, forall_and] at h
    simp only [opE, evX_congr h.1, evX_congr h.2]
  | slc str sz x lo hi =>
    simp only [AK.slots, List.mem_append, or_imp, forall_and] at h
    obtain ⟨⟨h1, h2⟩, h3⟩ := h
    cases lo with
    | none =>
      cases hi with
      | none => simp only [opE, evX_congr h1]
      | some y =>
        have h3' : ∀ t ∈ y.slots, g' t = g t := by simpa [AX.slotsL] using h3
        simp only [opE, evX_congr h1, evX_congr h3']
    | some x' =>
      have h2' : ∀ t ∈ x'.slots, g' t = g t := by simpa [AX.slotsL] using h2
      cases hi with
      | none => simp only [opE, evX_congr h1, evX_congr h2']
      | some y =>
        have h3' : ∀ t ∈ y.slots, g' t = g t := by simpa [AX.slotsL] using h3
        simp only [opE, evX_congr h1, evX_congr h2', evX_congr h3']
  | app md sz bytes x y =>
    simp only [AK.slots, List.mem_append, or_imp, forall_and] at h
    simp only [opE, evX_congr h.1, evX_congr h.2]
  | cpy sz x y =>
    simp only [AK.slots, List.mem_append, or_imp, forall_and] at h
    simp only [opE, evX_congr h.1, evX_congr h.2]
  | clr zero x => simp only [opE, evX_congr h]
  | call f args scalar => simp only [opE, pairs_congr h]

/-! ## The objects -/

theorem elemsOf_congr {sz : Nat} {v : AVal} (h : ∀ i ∈ v.ids, ρ' i = ρ i) : elemsOf ρ' sz v = elemsOf ρ sz v := by
  cases v with
  | rsl id ver sz' off len => simp only [elemsOf, h id (by simp [AVal.ids])]
  | dat d => cases d <;> rfl
  | _ => rfl

theorem srcOf_congr {sz : Nat} {v : AVal} (h : ∀ i ∈ v.ids, ρ' i = ρ i) : srcOf ρ' sz v = srcOf ρ sz v := by
  cases v with
  | dat d => cases d <;> rfl
  | rsl id ver sz' off len =>
    simp only [srcOf]
    exact elemsOf_congr h
  | _ => rfl

theorem decLeaf_congr {v : AVal} (h : ∀ i ∈ v.ids, ρ' i = ρ i) : decLeaf ρ' v = decLeaf ρ v := by
  cases v with
  | rsl id ver sz' off len => simp only [decLeaf, h id (by simp [AVal.ids])]
  | _ => rfl

theorem decLeaves_congr : ∀ {l : List AVal}, (∀ i ∈ AVal.idsL l, ρ' i = ρ i) → decLeaves ρ' l = decLeaves ρ l
  | [], _ => rfl
  | v :: r, h => by
    simp only [AVal.idsL, List.mem_append, or_imp, forall_and] at h
    simp only [decLeaves, decLeaf_congr h.1, decLeaves_congr h.2]

theorem dec_congr {v : AVal} (h : ∀ i ∈ v.ids, ρ' i = ρ i) : dec ρ' v = dec ρ v := by
  cases v with
  | agg l => simp only [dec, decLeaves_congr (l := l) h]
  | rsl id ver sz off len => simp only [dec]; exact decLeaf_congr h
  | _ => rfl

theorem decAll_congr : ∀ {l : List AVal}, (∀ i ∈ AVal.idsL l, ρ' i = ρ i) → decAll ρ' l = decAll ρ l
  | [], _ => rfl
  | v :: r, h => by
    simp only [AVal.idsL, List.mem_append, or_imp, forall_and] at h
    simp only [decAll, dec_congr h.1, decAll_congr h.2]

theorem decLeaf_fs {v : AVal} {d : Dat} {fs : List Id} (h : decLeaf ρ v = some (d, fs)) : ∀ i ∈ fs, i ∈ v.ids := by
  cases v with
  | rsl id ver sz off len =>
    simp only [decLeaf] at h
    split at h
    · split at h
      · simp only [Option.some.injEq, Prod.mk.injEq] at h
        obtain ⟨rfl, rfl⟩ := h
        intro i hi
        simpa [AVal.ids] using hi
      · cases h
    · cases h
  | dat d' => simp [decLeaf] at h; simp [h.2]
  | nils => simp [decLeaf] at h; simp [h.2]
  | emp t => simp [decLeaf] at h; simp [h.2]
  | _ => simp [decLeaf] at h

theorem decLeaves_fs : ∀ {l : List AVal} {ds : List Dat} {fs : List Id}, decLeaves ρ l = some (ds, fs) → ∀ i ∈ fs, i ∈ AVal.idsL l
  | [], ds, fs, h => by simp [decLeaves] at h; simp [h.2]
  | v :: r, ds, fs, h => by
    simp only [decLeaves] at h
    split at h
    · rename_i d f ds' fs' h1 h2
      split at h
      · cases h
      · simp only [Option.some.injEq, Prod.mk.injEq] at h
        obtain ⟨rfl, rfl⟩ := h
        intro i hi
        simp only [List.mem_append, AVal.idsL] at hi ⊢
        exact orMap hi (decLeaf_fs h1 i) (decLeaves_fs h2 i)
    · cases h

theorem dec_fs {v : AVal} {d : Dat} {fs : List Id} (h : dec ρ v = some (d, fs)) : ∀ i ∈ fs, i ∈ v.ids := by
  cases v with
  | agg l =>
    simp only [dec] at h
    split at h
    · rename_i ds fs' h1
      simp only [Option.some.injEq, Prod.mk.injEq] at h
      obtain ⟨rfl, rfl⟩ := h
      exact decLeaves_fs h1
    · cases h
  | _ => simp only [dec] at h; exact decLeaf_fs h

theorem decAll_fs : ∀ {l : List AVal} {ds : List Dat} {fs : List Id}, decAll ρ l = some (ds, fs) → ∀ i ∈ fs, i ∈ AVal.idsL l
  | [], ds, fs, h => by simp [decAll] at h; simp [h.2]
  | v :: r, ds, fs, h => by
    simp only [decAll] at h
    split at h
    · rename_i d f ds' fs' h1 h2
      simp only [Option.some.injEq, Prod.mk.injEq] at h
      obtain ⟨rfl, rfl⟩ := h
      intro i hi
      simp only [List.mem_append, AVal.idsL] at hi ⊢
      exact orMap hi (dec_fs h1 i) (decAll_fs h2 i)
    · cases h

theorem frz_congr : ∀ {fs : List Id}, (∀ i ∈ fs, ρ' i = ρ i) → frz ρ' fs = frz ρ fs
  | [], _ => rfl
  | id :: r, h => by
    simp only [frz, h id (by simp), frz_congr (fs := r) (fun i hi => h i (by simp [hi]))]

theorem loadE_congr {n : Nat} {agg : Bool} {v : AVal} (h : ∀ i ∈ v.ids, ρ' i = ρ i) : loadE ρ' n agg v = loadE ρ n agg v := by
  cases v with
  | ref id off => simp only [loadE, h id (by simp [AVal.ids])]
  | eref id ver i off => simp only [loadE, h id (by simp [AVal.ids])]
  | _ => rfl

theorem storeE_congr {n : Nat} {a v : AVal} (h : ∀ i ∈ a.ids, ρ' i = ρ i) (h' : ∀ i ∈ v.ids, ρ' i = ρ i) : storeE ρ' n a v = storeE ρ n a v := by
  cases a with
  | ref id off => simp only [storeE, h id (by simp [AVal.ids])]
  | eref id ver i off =>
    simp only [storeE, h id (by simp [AVal.ids]), dec_congr h']
    cases hd : dec ρ v with
    | none => rfl
    | some p =>
      obtain ⟨d, fs⟩ := p
      have e := frz_congr (fs := fs) (fun i hi => h' i (dec_fs hd i hi))
      cases ρ id with
      | none => rfl
      | some o =>
        cases o with
        | box cs => rfl
        | rarr ver' es => rfl
        | arr sz ver' fz es =>
          cases fz with
          | true => rfl
          | false =>
            cases he : es[i]? with
            | none => simp only [he]
            | some x => simp only [he, e]
  | _ => rfl

theorem newVer_congr {i : Id} (h : ρ' i = ρ i) : newVer ρ' i = newVer ρ i := by simp only [newVer, h]

theorem argsE_congr : ∀ {l : List (AVal × Bool)}, (∀ i ∈ AVal.idsL (l.map (·.1)), ρ' i = ρ i) → opE.argsE ρ' l = opE.argsE ρ l
  | [], _ => rfl
  | (v, b) :: r, h => by
    simp only [List.map_cons, AVal.idsL, List.mem_append, or_imp, forall_and] at h
    simp only [opE.argsE, argsE_congr h.2, dec_congr h.1]

theorem argsE_fs : ∀ {l : List (AVal × Bool)} {vs : List AVal} {fs : List Id}, opE.argsE ρ l = some (vs, fs) → ∀ i ∈ fs, i ∈ AVal.idsL (l.map (·.1))
  | [], vs, fs, h => by simp [opE.argsE] at h; simp [h.2]
  | (v, b) :: r, vs, fs, h => by
    simp only [opE.argsE] at h
    split at h
    · cases h
    · rename_i vs' fs' h1
      intro i hi
      simp only [List.map_cons, AVal.idsL, List.mem_append]
      split at h
      · simp only [Option.some.injEq, Prod.mk.injEq] at h
        obtain ⟨rfl, rfl⟩ := h
        exact .inr (argsE_fs h1 i hi)
      · split at h
        · rename_i d f h2
          simp only [Option.some.injEq, Prod.mk.injEq] at h
          obtain ⟨rfl, rfl⟩ := h
          rcases List.mem_append.1 hi with hi | hi
          · exact .inl (dec_fs h2 i hi)
          · exact .inr (argsE_fs h1 i hi)
        · cases h

theorem collect_done : ∀ {n : Nat} {todo done res : List Id}, collect ρ n todo done = some res → ∀ i ∈ done, i ∈ res
  | 0, todo, done, res, h => by simp [collect] at h
  | n + 1, [], done, res, h => by
    simp only [collect, Option.some.injEq] at h
    subst h
    exact fun _ h => h
  | n + 1, id :: todo, done, res, h => by
    simp only [collect] at h
    split at h
    · exact collect_done h
    · split at h
      · cases h
      · exact fun i hi => collect_done h i (by simp [hi])

theorem collect_congr : ∀ {n : Nat} {todo done res : List Id}, collect ρ n todo done = some res → (∀ i ∈ res, ρ' i = ρ i) → collect ρ' n todo done = some res
  | 0, todo, done, res, h, _ => by simp [collect] at h
  | n + 1, [], done, res, h, _ => by simpa only [collect] using h
  | n + 1, id :: todo, done, res, h, hr => by
    simp only [collect] at h ⊢
    split at h
    · rename_i hid
      rw [if_pos hid]
      exact collect_congr h hr
    · rename_i hid
      rw [if_neg hid]
      split at h
      · cases h
      · rename_i o ho
        rw [hr id (collect_done h id (by simp)), ho]
        exact collect_congr h hr

theorem gather_congr : ∀ {l : List Id}, (∀ i ∈ l, ρ' i = ρ i) → gather ρ' l = gather ρ l
  | [], _ => rfl
  | id :: r, h => by simp only [gather, h id (by simp), gather_congr (l := r) (fun i hi => h i (by simp [hi]))]

theorem map_fst_pairs {args : List (AX × Bool)} : ((args.map fun p => (evX g p.1, p.2)).map (·.1)) = args.map fun p => evX g p.1 := by
  simp [List.map_map, Function.comp_def]

theorem frz_keys : ∀ {fs : List Id}, ∀ i ∈ (frz ρ fs).map (·.1), i ∈ fs
  | [], i, h => by simp [frz] at h
  | id :: r, i, h => by
    simp only [frz] at h
    split at h
    · simp only [List.map_cons, List.mem_cons] at h ⊢
      exact orMap h (fun h => h) (frz_keys i)
    · exact .tail _ (frz_keys i h)

end
end Go.Am

/- The abstract machine: what an operation's answer depends on, among the objects. -/
set_option linter.unusedVariables false
set_option linter.unusedSimpArgs false
namespace Go.Am

theorem mem_frz_arr {ρ : Look} : ∀ {fs : List Id} {i : Id}, i ∈ (frz ρ fs).map (·.1) → i ∈ fs := fun {fs} {i} h => frz_keys (ρ := ρ) (fs := fs) i h

section
variable {g : Nat → AVal} {ρ ρ' : Look}

theorem opE_objs (K : Orc) (site : Nat) {k : AK} {out : Out} (h : opE K site k g ρ = some out) (hρ : ∀ i, i ∈ touch k g ρ ∨ i ∈ out.2.map (·.1) → ρ' i = ρ i) : opE K site k g ρ' = some out := by
  cases k with
  | mv x => exact h
  | pick c a b => exact h
  | nilChk x => exact h
  | bin bk op x y => exact h
  | un op x => exact h
  | cvt k x => exact h
  | fAddr off x => exact h
  | fld off n agg x => exact h
  | iAddr sz x i => exact h
  | iAddrA n sz x i => exact h
  | idx n sz agg x i => exact h
  | idxS x i => exact h
  | ext i x => exact h
  | len str x => exact h
  | mm isMax x r => exact h
  | bld zero parts => exact h
  | slc str sz x lo hi => exact h
  | mvNil md sz =>
    simp only [opE] at h ⊢
    split at h
    · cases h
    · rename_i nv hnv
      have key : (site + 1, 0) ∈ out.2.map (·.1) := by
        cases md with
        | o =>
          simp only at h
          split at h
          · cases h; simp
          · cases h
        | r => simp only [Option.some.injEq] at h; subst h; simp
        | d => cases h
      rw [newVer_congr (hρ _ (.inr key)), hnv]
      exact h
  | b2s x =>
    simp only [opE] at h ⊢
    rw [elemsOf_congr fun i hi => hρ i (.inl hi)]
    exact h
  | bldS md sz xs =>
    simp only [opE] at h ⊢
    have ht : ∀ i ∈ AVal.idsL (xs.map (evX g)), ρ' i = ρ i := fun i hi => hρ i (.inl hi)
    cases md with
    | r => exact h
    | d =>
      simp only at h ⊢
      rw [decAll_congr ht]
      split at h
      · rename_i ds fs hd
        simp only [frz_congr (fs := fs) fun i hi => ht i (decAll_fs hd i hi)]
        exact h
      · cases h
    | o =>
      simp only at h ⊢
      rw [decAll_congr ht]
      split at h
      · rename_i ds fs hd
        split at h
        · rename_i hw
          rw [if_pos hw]
          split at h
          · rename_i nv hnv
            split at h
            · rename_i hc
              have key : ρ' (site + 1, 0) = ρ (site + 1, 0) := by
                refine hρ _ (.inr ?_)
                simp only [Option.some.injEq] at h
                subst h
                simp
              rw [newVer_congr key, hnv]
              simp only [frz_congr (fs := fs) fun i hi => ht i (decAll_fs hd i hi)]
              rw [if_pos hc]
              exact h
            · cases h
          · cases h
        · cases h
      · cases h
  | box n x =>
    simp only [opE] at h ⊢
    split at h
    · cases h
    · rename_i hn
      split at h
      · rename_i hc
        have key : ρ' (site + 1, 0) = ρ (site + 1, 0) := by
          refine hρ _ (.inr ?_)
          simp only [Option.some.injEq] at h
          subst h
          simp
        rw [key, hn]
        simp only
        rw [if_pos hc]
        exact h
      · cases h
  | alc zero =>
    simp only [opE] at h ⊢
    split at h
    · cases h
    · rename_i hn
      have key : ρ' (site + 1, 0) = ρ (site + 1, 0) := by
        refine hρ _ (.inr ?_)
        simp only [Option.some.injEq] at h
        subst h
        simp
      rw [key, hn]
      exact h
  | ld n agg a =>
    simp only [opE] at h ⊢
    rw [loadE_congr fun i hi => hρ i (.inl hi)]
    exact h
  | st n a v =>
    simp only [opE] at h ⊢
    rw [storeE_congr (fun i hi => hρ i (.inl (List.mem_append.2 (.inl hi)))) (fun i hi => hρ i (.inl (List.mem_append.2 (.inr hi))))]
    exact h
  | mk md sz bytes zero l c =>
    simp only [opE] at h ⊢
    split at h
    · rename_i l' c' hl hc
      split at h
      · rename_i hb
        try simp only [hl, hc]
        rw [if_pos hb]
        cases md with
        | r =>
          simp only at h ⊢
          split at h
          · rename_i z nv hnv
            split at h
            · rename_i hz
              have key : ρ' (site + 1, 0) = ρ (site + 1, 0) := by
                refine hρ _ (.inr ?_)
                simp only [Option.some.injEq] at h
                subst h
                simp
              simp only [newVer_congr key, hnv]
              rw [if_pos hz]
              exact h
            · cases h
          · cases h
        | d => exact h
        | o =>
          simp only at h ⊢
          split at h
          · rename_i z hz
            try simp only [hz]
            split at h
            · rename_i hw
              rw [if_pos hw]
              split at h
              · cases h
              · rename_i nv hnv
                have key : ρ' (site + 1, 0) = ρ (site + 1, 0) := by
                  refine hρ _ (.inr ?_)
                  simp only [Option.some.injEq] at h
                  subst h
                  simp
                simp only [newVer_congr key, hnv]
                exact h
            · cases h
          · cases h
      · cases h
    · cases h
  | app md sz bytes x y =>
    have hx : ∀ i ∈ (evX g x).ids, ρ' i = ρ i := fun i hi => hρ i (.inl (List.mem_append.2 (.inl hi)))
    have hy : ∀ i ∈ (evX g y).ids, ρ' i = ρ i := fun i hi => hρ i (.inl (List.mem_append.2 (.inr hi)))
    simp only [opE] at h ⊢
    rw [srcOf_congr hy]
    split at h
    · rename_i id ver sz' off len hv
      try simp only [hv]
      rw [hx id (by simp [hv, AVal.ids])]
      exact h
    · rename_i hv
      try simp only [hv]
      cases md with
      | r =>
        simp only at h ⊢
        split at h
        · rename_i ws nv hw hnv
          split at h
          · rename_i hc
            have key : ρ' (site + 1, 0) = ρ (site + 1, 0) := by
              refine hρ _ (.inr ?_)
              simp only [Option.some.injEq] at h
              subst h
              simp
            simp only [newVer_congr key, hnv, hw]
            rw [if_pos hc]
            exact h
          · cases h
        · cases h
      | d =>
        simp only at h ⊢
        split at h
        · rename_i ds nv hw hnv
          split at h
          · rename_i hc
            have key : ρ' (site + 1, 0) = ρ (site + 1, 0) := by
              refine hρ _ (.inr ?_)
              simp only [Option.some.injEq] at h
              subst h
              simp
            simp only [newVer_congr key, hnv, hw]
            rw [if_pos hc]
            exact h
          · cases h
        · cases h
      | o =>
        simp only at h ⊢
        split at h
        · rename_i ds nv hw hnv
          split at h
          · rename_i hc
            have key : ρ' (site + 1, 0) = ρ (site + 1, 0) := by
              refine hρ _ (.inr ?_)
              simp only [Option.some.injEq] at h
              subst h
              simp
            simp only [newVer_congr key, hnv, hw]
            rw [if_pos hc]
            exact h
          · cases h
        · cases h
    · cases h
  | cpy sz x y =>
    have hx : ∀ i ∈ (evX g x).ids, ρ' i = ρ i := fun i hi => hρ i (.inl (List.mem_append.2 (.inl hi)))
    have hy : ∀ i ∈ (evX g y).ids, ρ' i = ρ i := fun i hi => hρ i (.inl (List.mem_append.2 (.inr hi)))
    simp only [opE] at h ⊢
    rw [srcOf_congr hy]
    split at h
    · rename_i id ver sz' off len ds hv hs
      try simp only [hv, hs]
      rw [hx id (by simp [hv, AVal.ids])]
      exact h
    · cases h
  | clr zero x =>
    have hx : ∀ i ∈ (evX g x).ids, ρ' i = ρ i := fun i hi => hρ i (.inl hi)
    simp only [opE] at h ⊢
    split at h
    · rename_i id ver sz off len z hv hz
      try simp only [hv, hz]
      rw [hx id (by simp [hv, AVal.ids])]
      exact h
    · cases h
  | call f args scalar =>
    simp only [opE] at h ⊢
    have ht : ∀ i ∈ AVal.idsL ((args.map fun p => (evX g p.1, p.2)).map (·.1)), ρ' i = ρ i := by
      rw [map_fst_pairs]
      exact fun i hi => hρ i (.inl (List.mem_append.2 (.inl hi)))
    rw [argsE_congr ht]
    cases ha : opE.argsE ρ (args.map fun p => (evX g p.1, p.2)) with
    | none => rw [ha] at h; cases h
    | some p =>
      obtain ⟨vs, fs⟩ := p
      rw [ha] at h
      simp only at h ⊢
      cases hcol : collect ρ 64 (AVal.idsL vs) [] with
      | none => rw [hcol] at h; cases h
      | some order =>
        rw [hcol] at h
        have ho : ∀ i ∈ order, ρ' i = ρ i := fun i hi => hρ i (.inl (List.mem_append.2 (.inr (by simp only [ha, hcol]; exact hi))))
        rw [collect_congr hcol ho]
        simp only at h ⊢
        rw [gather_congr ho]
        cases hg : gather ρ order with
        | none => rw [hg] at h; cases h
        | some os =>
          rw [hg] at h
          simp only at h ⊢
          split at h
          · cases h
          · rename_i hany
            rw [if_neg hany]
            cases hK : K f (AVal.renL (toPos order) vs) (os.map (Obj.ren (toPos order))) with
            | none => rw [hK] at h; cases h
            | some q =>
              obtain ⟨v, os'⟩ := q
              rw [hK] at h
              simp only at h ⊢
              split at h
              · rename_i hsc
                rw [if_pos hsc]
                exact h
              · rename_i hsc
                rw [if_neg hsc]
                split at h
                · cases h
                · rename_i hlen
                  rw [if_neg hlen]
                  split at h
                  · cases h
                  · rename_i hfr
                    simp only [Option.some.injEq] at h
                    have key : ∀ j, j < os'.length - order.length → ρ' (site + 1, j) = ρ (site + 1, j) := by
                      intro j hj
                      refine hρ _ (.inr ?_)
                      rw [← h]
                      simp only [List.map_append, List.mem_append]
                      right
                      rw [List.map_fst_zip (by simp)]
                      refine List.mem_map.2 ⟨order.length + j, by simp; omega, ?_⟩
                      have : order[order.length + j]? = none := by simp
                      simp [fromPos, this]
                    have hfr' : ¬ (List.range (os'.length - order.length)).any (fun j => (ρ' (site + 1, j)).isSome) = true := by
                      intro hx
                      rw [List.any_eq_true] at hx
                      obtain ⟨j, hj, hjs⟩ := hx
                      refine hfr (List.any_eq_true.2 ⟨j, hj, ?_⟩)
                      rw [← key j (by simpa using hj)]
                      exact hjs
                    rw [if_neg hfr']
                    have hfz : frz ρ' fs = frz ρ fs := frz_congr fun i hi => ht i (argsE_fs ha i hi)
                    rw [hfz, h]

/-- how an operation touches the store -/
theorem opE_quiet (K : Orc) (site : Nat) {k : AK} {out : Out} (h : opE K site k g ρ = some out) (hk : k.kind ≠ 2) : out.2 = [] := by
  obtain ⟨v, upd⟩ := out
  have mp : ∀ {α : Type} {x : Option α} {f : α → AVal}, (x.map fun a => (f a, ([] : List (Id × Obj)))) = some (v, upd) → upd = [] := by
    intro α x f hx
    cases x with
    | none => cases hx
    | some a => simp only [Option.map_some, Option.some.injEq, Prod.mk.injEq] at hx; exact hx.2.symm
  have sm : ∀ {u : AVal}, some (u, ([] : List (Id × Obj))) = some (v, upd) → upd = [] := by
    intro u hx
    simp only [Option.some.injEq, Prod.mk.injEq] at hx
    exact hx.2.symm
  cases k with
  | mv x => exact sm h
  | mvNil md sz => simp [AK.kind] at hk
  | pick c a b =>
    simp only [opE] at h
    split at h
    · exact sm h
    · cases h
  | nilChk x =>
    simp only [opE] at h
    split at h <;> first | exact sm h | cases h
  | bin bk op x y => exact mp h
  | un op x => exact mp h
  | cvt k x =>
    simp only [opE] at h
    split at h
    · exact sm h
    · cases h
  | b2s x =>
    simp only [opE] at h
    split at h
    · split at h
      · exact sm h
      · cases h
    · cases h
  | fAddr off x => exact mp h
  | fld off n agg x => exact mp h
  | iAddr sz x i =>
    simp only [opE] at h
    split at h
    · exact mp h
    · cases h
  | iAddrA n sz x i =>
    simp only [opE] at h
    split at h
    · split at h
      · exact mp h
      · cases h
    · cases h
  | idx n sz agg x i =>
    simp only [opE] at h
    split at h
    · split at h
      · exact mp h
      · cases h
    · cases h
  | idxS x i =>
    simp only [opE] at h
    split at h
    · split at h
      · exact mp h
      · cases h
    · cases h
  | ext i x =>
    simp only [opE] at h
    split at h
    · exact mp h
    · cases h
  | len str x => exact mp h
  | mm isMax x r => exact mp h
  | bld zero parts => exact mp h
  | bldS md sz xs =>
    simp only [AK.kind] at hk
    split at hk
    · rename_i e
      subst e
      simp only [opE] at h
      split at h
      · exact sm h
      · cases h
    · exact absurd rfl hk
  | box n x => simp [AK.kind] at hk
  | alc zero => simp [AK.kind] at hk
  | ld n agg a => exact mp h
  | st n a v => simp [AK.kind] at hk
  | mk md sz bytes zero l c =>
    simp only [AK.kind] at hk
    split at hk
    · rename_i e
      subst e
      simp only [opE] at h
      split at h
      · split at h
        · split at h
          · split at h
            · exact sm h
            · cases h
          · cases h
        · cases h
      · cases h
    · exact absurd rfl hk
  | slc str sz x lo hi =>
    simp only [opE] at h
    split at h
    · exact mp h
    · cases h
  | app md sz bytes x y => simp [AK.kind] at hk
  | cpy sz x y => simp [AK.kind] at hk
  | clr zero x => simp [AK.kind] at hk
  | call f args scalar => simp [AK.kind] at hk

/-- an operation that does not look at the store -/
theorem opE_blind (K : Orc) (site : Nat) {k : AK} (hk : k.kind = 0) : opE K site k g ρ' = opE K site k g ρ := by
  cases k <;> first | rfl | (simp [AK.kind] at hk; done) | skip
  · rename_i md sz xs
    simp only [AK.kind] at hk
    split at hk
    · rename_i e
      subst e
      rfl
    · cases hk
  · rename_i md sz bytes zero l c
    simp only [AK.kind] at hk
    split at hk
    · rename_i e
      subst e
      rfl
    · cases hk

end
end Go.Am

/- The abstract machine: code in the order of the text is sound. -/
set_option linter.unusedVariables false
set_option linter.unusedSimpArgs false
namespace Go.Am

theorem gO_pO : ∀ (s : Store) (i : Id) (o : Obj) (j : Id), gO (pO s i o) j = if i = j then some o else gO s j
  | [], i, o, j => by simp [pO, gO]
  | (i', o') :: r, i, o, j => by
    simp only [pO]
    split
    · rename_i e
      subst e
      simp only [gO]
      split <;> rfl
    · rename_i e
      simp only [gO, gO_pO r i o j]
      by_cases h : i' = j
      · subst h
        rw [if_pos rfl, if_neg (fun x => e x.symm), if_pos rfl]
      · rw [if_neg h, if_neg h]

theorem gO_pOs : ∀ (upd : List (Id × Obj)) (s : Store), gO (pOs s upd) = updL (gO s) upd
  | [], s => rfl
  | (i, o) :: r, s => by
    simp only [pOs, updL, gO_pOs r]
    congr 1
    funext j
    exact gO_pO s i o j

theorem gE_putE (env : Env) (d : Option Nat) (v : AVal) (t : Nat) : gE (putE env d v) t = if d = some t then v else gE env t := by
  cases d with
  | none => simp [putE]
  | some d => simp [putE, gE]

/-- a state of the abstract machine stands for an activation and a world; C0: the context in which the function was entered -/
structure Good (B : Base) (C0 C : Ctx) (n : Nat) (s : St) (a : Act) : Prop where
  ρ : C.ρ = gO s.objs
  inv : Inv B C
  env : RepE C (gE s.env) a
  size : a.tmps.size = n
  ext : Ext (fun i => i) (fun id => id.1 = 0) C0 C
  defers : a.defers = []

theorem RepE.put {C C' : Ctx} {g : Nat → AVal} {a : Act} (h : RepE C g a) (hg : Grow C C') {n : Nat} (hn : a.tmps.size = n) {d : Option Nat} (hd : d.all (· < n) = true) {v : AVal} {val : Value} (hv : RepA C' v val) :
    RepE C' (fun t => if d = some t then v else g t) (a.put d val) := by
  intro t
  cases d with
  | none => simpa [Act.put] using (h t).grow hg
  | some d =>
    simp only [Option.all_some, decide_eq_true_eq] at hd
    by_cases e : d = t
    · subst e
      simp only [if_true, Act.put]
      have : (a.tmps.setIfInBounds d val).getD d undef = val := by
        simp [Array.getD_eq_getD_getElem?, hn, hd]
      rw [this]; exact hv
    · have e' : ¬ (some d = some t) := fun x => e (Option.some.inj x)
      simp only [e', if_false, Act.put]
      have : (a.tmps.setIfInBounds d val).getD t undef = a.tmps.getD t undef := by
        simp [Array.getD_eq_getD_getElem?, Array.getElem?_setIfInBounds_ne e]
      rw [this]
      exact (h t).grow hg

theorem Ext.thenGrow {C0 C C' : Ctx} {D : Id → Prop} (h : Ext (fun i => i) D C0 C) (hg : Grow C C') : Ext (fun i => i) D C0 C' := by
  refine ⟨fun b o v hv => hg.F _ _ _ (h.F _ _ _ hv), fun id L hd hb => hg.box id L trivial (h.box id L hd hb), fun id A hd ha => ?_⟩
  obtain ⟨A', h1, h2, h3⟩ := h.arr id A hd ha
  obtain ⟨A'', h4, h5, h6⟩ := hg.arr id A' trivial h1
  refine ⟨A'', h4, Nat.le_trans h2 h5, fun e => ?_⟩
  obtain ⟨a1, a2, a3⟩ := h3 (by omega)
  obtain ⟨b1, b2, b3⟩ := h6 (by omega)
  exact ⟨by rw [b1, a1], by rw [b2, a2], by omega⟩

section
variable {P : Program} {B : Base} {C0 : Ctx} {K : Orc} {n : Nat}

/-- one operation behind its guard, at whatever state of slots and objects: in the words of wpOp -/
theorem wpOp_sound (hS : SoundK P K) {ops : Array Oper} {Q : Exit → Act → World → Prop} {i : Nat} {o : Oper} (hi : ops[i]? = some o) {ms : List (Nat × Mk)} {k : AK} {gd : Option (Nat × Bool)} (hc : cOper P n ms ops.toList i o = some (k, gd)) {lg : Bool}
    {C : Ctx} {g : Nat → AVal} {a : Act} (hI : Inv B C) (hE : RepE C g a) (hn : a.tmps.size = n) {out : Out} (h : aoE K ⟨o.dst, k, gd, lg⟩ g C.ρ = some out) {next : Act → World → Prop}
    (hnext : ∀ val C', C'.ρ = updL C.ρ out.2 → Inv B C' → Grow C C' → RepE C' (fun t => if o.dst = some t then out.1 else g t) (a.put o.dst val) → (a.put o.dst val).tmps.size = n → next (a.put o.dst val) C'.w) :
    wpOp P ops Q i next a C.w := by
  unfold wpOp
  simp only [hi]
  have hc0 := hc
  unfold cOper at hc
  have hsize : ∀ val, (a.put o.dst val).tmps.size = n := by
    intro val
    cases o.dst <;> simp [Act.put, hn]
  have hdo : ∀ (hk : cOp P (mkOf ms i) o = some k), (o.dst.all (· < n)) = true → opE K (o.dst.getD 0) k g C.ρ = some out → o.wp P a C.w next Q := by
    intro hk hd hop
    have := op_all (B := B) hS hI hE (v := out.1) (upd := out.2) hk (by simpa using hop)
    refine this.wp fun val w' ⟨C', e1, e2, e3, e4, e5⟩ => ?_
    subst e1
    exact hnext val C' e2 e3 e4 (hE.put e4 hn hd e5) (hsize val)
  have hskip : out = (.tup [], []) → (o.dst.all (· < n)) = true → next (a.put o.dst undef) C.w := by
    intro e hd
    subst e
    refine hnext undef C rfl hI (Grow.refl C) (hE.put (Grow.refl C) hn hd ?_) (hsize undef)
    simp [RepA, RepL, undef]
  cases hgd : o.guard with
  | none =>
    rw [hgd] at hc
    simp only at hc
    split at hc
    · rename_i k' g' hk hg
      simp only [Option.some.injEq] at hg
      subst hg
      split at hc
      · rename_i hd
        simp only [Option.some.injEq, Prod.mk.injEq] at hc
        obtain ⟨rfl, rfl⟩ := hc
        simp only [aoE] at h
        have hw : Region.wanted o (yielded ops a.tmps) = true := by simp [Region.wanted, hgd]
        simp only [hw, if_true]
        exact .inl (hdo hk hd h)
      · cases hc
    · cases hc
  | some jw =>
    obtain ⟨j, want⟩ := jw
    rw [hgd] at hc
    simp only at hc
    split at hc
    · rename_i k' g' hk hg
      split at hg
      · rename_i t ht
        simp only [Option.some.injEq] at hg
        subst hg
        split at hc
        · rename_i hd
          simp only [Option.some.injEq, Prod.mk.injEq] at hc
          obtain ⟨rfl, rfl⟩ := hc
          simp only [aoE] at h
          have hht : ((ops[j]?).bind (·.dst)) = some t := by simpa using ht
          have hy : ∀ v, a.tmps.getD t undef = v → yielded ops a.tmps j = match v with | .bool b => some b | _ => none := by
            intro v hv
            unfold yielded
            rw [hht]
            simp only [Option.bind_some]
            cases e : a.tmps[t]? with
            | none =>
              have : a.tmps.getD t undef = undef := by simp [Array.getD_eq_getD_getElem?, e]
              rw [this] at hv
              subst hv
              rfl
            | some u =>
              have : a.tmps.getD t undef = u := by simp [Array.getD_eq_getD_getElem?, e]
              rw [this] at hv
              subst hv
              cases u <;> rfl
          have hrt := hE t
          split at h
          · rename_i b hb
            rw [hb] at hrt
            have hyb := hy _ (rep_bool hrt)
            simp only at hyb
            have hw : Region.wanted o (yielded ops a.tmps) = (b == want) := by simp [Region.wanted, hgd, hyb]
            rw [hw]
            split at h
            · rename_i hbw
              subst hbw
              simp only [BEq.rfl, if_true]
              exact .inl (hdo hk hd h)
            · rename_i hbw
              have : (b == want) = false := by simpa using hbw
              rw [this]
              simp only [Option.some.injEq] at h
              simpa using hskip h.symm hd
          · rename_i hb
            rw [hb] at hrt
            simp only [RepA, RepL] at hrt
            obtain ⟨cs, h1, h2⟩ := hrt
            have hyb := hy _ h1
            simp only at hyb
            have hw : Region.wanted o (yielded ops a.tmps) = false := by simp [Region.wanted, hgd, hyb]
            rw [hw]
            simp only [Option.some.injEq] at h
            simpa using hskip h.symm hd
          · cases h
        · cases hc
      · cases hg
    · cases hc

end
end Go.Am

/- The abstract machine: operations in any order that the edges allow come to the same answers as in the order of the text, when the unordered ones do not meet. -/
set_option linter.unusedVariables false
set_option linter.unusedSimpArgs false
namespace Go.Am

def dstAt (aos : List AO) (k : Nat) : Option Nat := (aos[k]?).bind (·.dst)
def outAt (outs : List Out) (k : Nat) : Out := (outs[k]?).getD (.undef, [])

def gM (aos : List AO) (outs : List Out) (D : Nat → Bool) (g0 : Nat → AVal) : Nat → Nat → AVal
  | 0 => g0
  | k + 1 => fun t => if D k = true ∧ dstAt aos k = some t then (outAt outs k).1 else gM aos outs D g0 k t

def rM (outs : List Out) (D : Nat → Bool) (ρ0 : Look) : Nat → Look
  | 0 => ρ0
  | k + 1 => if D k = true then updL (rM outs D ρ0 k) (outAt outs k).2 else rM outs D ρ0 k

def keysAt (outs : List Out) (k : Nat) : List Id := (outAt outs k).2.map (·.1)

abbrev every : Nat → Bool := fun _ => true

theorem updL_not : ∀ {upd : List (Id × Obj)} {ρ : Look} {x : Id}, x ∉ upd.map (·.1) → updL ρ upd x = ρ x
  | [], ρ, x, _ => rfl
  | (i, o) :: r, ρ, x, h => by
    simp only [List.map_cons, List.mem_cons, not_or] at h
    rw [updL, updL_not h.2, if_neg (fun e => h.1 e.symm)]

theorem updL_at : ∀ {upd : List (Id × Obj)} {ρ ρ' : Look} {x : Id}, (x ∈ upd.map (·.1) ∨ ρ x = ρ' x) → updL ρ upd x = updL ρ' upd x
  | [], ρ, ρ', x, h => by simpa [updL] using h
  | (i, o) :: r, ρ, ρ', x, h => by
    simp only [updL]
    refine updL_at ?_
    by_cases e : i = x
    · exact .inr (by simp [e])
    · simp only [List.map_cons, List.mem_cons] at h
      rcases h with (h | h) | h
      · exact absurd h.symm e
      · exact .inl h
      · exact .inr (by simp [e, h])

section
variable {aos : List AO} {outs : List Out} {D : Nat → Bool} {g0 : Nat → AVal} {ρ0 : Look}

theorem gM_agree {i t : Nat} (h1 : ∀ k, k < i → dstAt aos k = some t → D k = true) : ∀ (N : Nat), i ≤ N → (∀ k, i ≤ k → k < N → dstAt aos k = some t → D k = false) → gM aos outs D g0 N t = gM aos outs every g0 i t := by
  have low : ∀ n, n ≤ i → gM aos outs D g0 n t = gM aos outs every g0 n t := by
    intro n
    induction n with
    | zero => intro _; rfl
    | succ n ih =>
      intro hn
      simp only [gM, ih (by omega)]
      by_cases hd : dstAt aos n = some t
      · rw [if_pos ⟨h1 n (by omega) hd, hd⟩, if_pos ⟨trivial, hd⟩]
      · rw [if_neg (fun x => hd x.2), if_neg (fun x => hd x.2)]
  intro N hN
  induction N with
  | zero => intro _; have : i = 0 := by omega
            subst this; rfl
  | succ N ih =>
    intro h2
    by_cases e : i = N + 1
    · subst e; exact low _ (Nat.le_refl _)
    · simp only [gM]
      rw [if_neg (fun x => by rw [h2 N (by omega) (by omega) x.2] at x; exact absurd x.1 (by simp))]
      exact ih (by omega) fun k hk hk' => h2 k hk (by omega)

theorem rM_agree {i : Nat} {x : Id} (h1 : ∀ k, k < i → x ∈ keysAt outs k → D k = true) : ∀ (N : Nat), i ≤ N → (∀ k, i ≤ k → k < N → x ∈ keysAt outs k → D k = false) → rM outs D ρ0 N x = rM outs every ρ0 i x := by
  have low : ∀ n, n ≤ i → rM outs D ρ0 n x = rM outs every ρ0 n x := by
    intro n
    induction n with
    | zero => intro _; rfl
    | succ n ih =>
      intro hn
      simp only [rM, if_true]
      by_cases hd : x ∈ keysAt outs n
      · rw [if_pos (h1 n (by omega) hd)]
        exact updL_at (.inl hd)
      · rw [updL_not (upd := (outAt outs n).2) hd]
        split
        · rw [updL_not (upd := (outAt outs n).2) hd, ih (by omega)]
        · exact ih (by omega)
  intro N hN
  induction N with
  | zero => intro _; have : i = 0 := by omega
            subst this; rfl
  | succ N ih =>
    intro h2
    by_cases e : i = N + 1
    · subst e; exact low _ (Nat.le_refl _)
    · simp only [rM]
      have hr := ih (by omega) fun k hk hk' => h2 k hk (by omega)
      by_cases hd : x ∈ keysAt outs N
      · rw [h2 N (by omega) (by omega) hd]
        exact hr
      · split
        · rw [updL_not (upd := (outAt outs N).2) hd]; exact hr
        · exact hr

def addD (D : Nat → Bool) (i : Nat) : Nat → Bool := fun k => D k || k == i

theorem gM_add {i : Nat} (hD : D i = false) (t : Nat) : ∀ (N : Nat), i < N → (∀ k, i < k → k < N → dstAt aos i = some t → dstAt aos k = some t → D k = false) →
    gM aos outs (addD D i) g0 N t = if dstAt aos i = some t then (outAt outs i).1 else gM aos outs D g0 N t := by
  have low : ∀ n, n ≤ i → gM aos outs (addD D i) g0 n t = gM aos outs D g0 n t := by
    intro n
    induction n with
    | zero => intro _; rfl
    | succ n ih =>
      intro hn
      have hne : (n == i) = false := by simp; omega
      simp only [gM, ih (by omega), addD, hne, Bool.or_false]
  intro N
  induction N with
  | zero => intro h; omega
  | succ N ih =>
    intro hN hk
    by_cases e : N = i
    · subst e
      simp only [gM, addD, BEq.rfl, Bool.or_true, true_and, hD, Bool.false_eq_true, false_and, if_false]
      split
      · rfl
      · exact low _ (Nat.le_refl _)
    · have hne : (N == i) = false := by simp; omega
      simp only [gM, addD, hne, Bool.or_false]
      have hr := ih (by omega) fun k h1 h2 => hk k h1 (by omega)
      by_cases hd : dstAt aos i = some t
      · simp only [hd, if_true] at hr ⊢
        by_cases hN' : dstAt aos N = some t
        · rw [hk N (by omega) (by omega) hd hN']
          simpa using hr
        · rw [if_neg (fun x => hN' x.2)]
          exact hr
      · simp only [hd, if_false] at hr ⊢
        split
        · rfl
        · exact hr

theorem rM_add {i : Nat} (hD : D i = false) (x : Id) : ∀ (N : Nat), i < N → (∀ k, i < k → k < N → x ∈ keysAt outs i → x ∈ keysAt outs k → D k = false) →
    rM outs (addD D i) ρ0 N x = updL (rM outs D ρ0 N) (outAt outs i).2 x := by
  have low : ∀ n, n ≤ i → rM outs (addD D i) ρ0 n = rM outs D ρ0 n := by
    intro n
    induction n with
    | zero => intro _; rfl
    | succ n ih =>
      intro hn
      have hne : (n == i) = false := by simp; omega
      simp only [rM, ih (by omega), addD, hne, Bool.or_false]
  intro N
  induction N with
  | zero => intro h; omega
  | succ N ih =>
    intro hN hk
    by_cases e : N = i
    · subst e
      simp only [rM, addD, BEq.rfl, Bool.or_true, if_true, hD, Bool.false_eq_true, if_false]
      have := low N (Nat.le_refl _)
      rw [this]
    · have hne : (N == i) = false := by simp; omega
      simp only [rM]
      have hs : addD D i N = D N := by simp [addD, hne]
      rw [hs]
      have hr := ih (by omega) fun k h1 h2 => hk k h1 (by omega)
      by_cases hx : x ∈ keysAt outs i
      · have hup : ∀ ρ ρ' : Look, updL ρ (outAt outs i).2 x = updL ρ' (outAt outs i).2 x := fun _ _ => updL_at (.inl hx)
        by_cases hN' : x ∈ keysAt outs N
        · rw [hk N (by omega) (by omega) hx hN']
          simpa using hr
        · split
          · rw [updL_not (upd := (outAt outs N).2) hN', hr]
            exact hup _ _
          · exact hr
      · rw [updL_not (upd := (outAt outs i).2) hx] at hr ⊢
        split
        · exact updL_at (.inr hr)
        · exact hr

end

/-! ## The order of the text -/

section
variable {K : Orc}

theorem gM_cons (o : AO) (r : List AO) (out : Out) (outs : List Out) (g0 : Nat → AVal) : ∀ j, gM (o :: r) (out :: outs) every g0 (j + 1) = gM r outs every (fun t => if o.dst = some t then out.1 else g0 t) j
  | 0 => by
    funext t
    simp [gM, dstAt, outAt]
  | j + 1 => by
    funext t
    rw [gM, gM_cons o r out outs g0 j, gM]
    simp [dstAt, outAt]

theorem rM_cons (out : Out) (outs : List Out) (ρ0 : Look) : ∀ j, rM (out :: outs) every ρ0 (j + 1) = rM outs every (updL ρ0 out.2) j
  | 0 => by simp [rM, outAt]
  | j + 1 => by
    rw [rM, rM_cons out outs ρ0 j, rM]
    simp [outAt]

theorem logAt_append_left {l l' : Log} {i : Nat} (h : ∀ p ∈ l, p.1 ≠ i) : logAt (l ++ l') i = logAt l' i := by
  induction l with
  | nil => rfl
  | cons p r ih =>
    obtain ⟨j, a⟩ := p
    have hj : ¬ j = i := h (j, a) (by simp)
    simp only [List.cons_append, logAt, hj, if_false]
    exact ih fun p hp => h p (by simp [hp])

/-- what a run in the order of the text has done -/
theorem runOps_spec : ∀ (r : List AO) (i : Nat) (s : St) (lg : Log) (s' : St) (lg' : Log), runOps K i r s lg = some (s', lg') →
    ∃ (outs : List Out) (lgs : Log), outs.length = r.length ∧ lg' = lg ++ lgs ∧ (∀ p ∈ lgs, i ≤ p.1) ∧
      (∀ j o, r[j]? = some o → aoE K o (gM r outs every (gE s.env) j) (rM outs every (gO s.objs) j) = some (outAt outs j) ∧
        (o.lg = true → logAt lgs (i + j) = (touch o.k (gM r outs every (gE s.env) j) (rM outs every (gO s.objs) j), keysAt outs j))) ∧
      gE s'.env = gM r outs every (gE s.env) r.length ∧ gO s'.objs = rM outs every (gO s.objs) r.length
  | [], i, s, lg, s', lg', h => by
    simp only [runOps, Option.some.injEq, Prod.mk.injEq] at h
    obtain ⟨rfl, rfl⟩ := h
    exact ⟨[], [], rfl, by simp, by simp, by simp, rfl, rfl⟩
  | o :: r, i, s, lg, s', lg', h => by
    simp only [runOps] at h
    split at h
    · cases h
    · rename_i out ho
      obtain ⟨outs, lgs, h1, h2, h3, h4, h5, h6⟩ := runOps_spec r _ _ _ _ _ h
      have eg : gE (putE s.env o.dst out.1) = fun t => if o.dst = some t then out.1 else gE s.env t := by
        funext t; exact gE_putE _ _ _ _
      simp only [eg, gO_pOs] at h4 h5 h6
      refine ⟨out :: outs, logOf o i (gE s.env) (gO s.objs) out ++ lgs, by simp [h1], by rw [h2, List.append_assoc], ?_, ?_, ?_, ?_⟩
      · intro p hp
        rcases List.mem_append.1 hp with hp | hp
        · unfold logOf at hp
          split at hp
          · simp at hp; subst hp; exact Nat.le_refl _
          · cases hp
        · have := h3 p hp; omega
      · intro j o' hj
        cases j with
        | zero =>
          simp at hj
          subst hj
          refine ⟨by simpa [gM, rM, outAt] using ho, fun hl => ?_⟩
          simp [logOf, hl, logAt, gM, rM, keysAt, outAt]
        | succ j =>
          simp at hj
          obtain ⟨a1, a2⟩ := h4 j o' hj
          rw [gM_cons, rM_cons]
          refine ⟨by simpa [outAt] using a1, fun hl => ?_⟩
          rw [logAt_append_left, show i + (j + 1) = i + 1 + j by omega, a2 hl]
          · simp [keysAt, outAt]
          · intro p hp
            unfold logOf at hp
            split at hp
            · simp at hp; subst hp; simp
            · cases hp
      · rw [h5, List.length_cons, gM_cons]
      · rw [h6, List.length_cons, rM_cons]

end

/-! ## The bits -/

theorem maskOf_bit {acc : List Nat} : ∀ {l : List Nat} {j : Nat}, (maskOf acc l).testBit j = true → ∃ e ∈ l, j = e ∨ (acc.getD e 0).testBit j = true
  | [], j, h => by simp [maskOf] at h
  | e :: r, j, h => by
    simp only [maskOf, Nat.testBit_or, Bool.or_eq_true] at h
    rcases h with (h | h) | h
    · rw [Nat.testBit_two_pow] at h
      exact ⟨e, by simp, .inl (of_decide_eq_true h).symm⟩
    · exact ⟨e, by simp, .inr h⟩
    · obtain ⟨e', h1, h2⟩ := maskOf_bit h
      exact ⟨e', by simp [h1], h2⟩

theorem befs_spec : ∀ (ops : List Oper) (acc : List Nat), ∃ l, befs ops acc = acc ++ l ∧ l.length = ops.length ∧
    ∀ j o, ops[j]? = some o → (befs ops acc).getD (acc.length + j) 0 = maskOf ((befs ops acc).take (acc.length + j)) (edges o)
  | [], acc => ⟨[], by simp [befs], rfl, by simp⟩
  | o :: r, acc => by
    obtain ⟨l, h1, h2, h3⟩ := befs_spec r (acc ++ [maskOf acc (edges o)])
    simp only [befs]
    refine ⟨maskOf acc (edges o) :: l, by rw [h1]; simp, by simp [h2], fun j o' hj => ?_⟩
    cases j with
    | zero =>
      simp at hj
      subst hj
      rw [h1]
      simp
    | succ j =>
      simp at hj
      have := h3 j o' hj
      rw [show acc.length + (j + 1) = (acc ++ [maskOf acc (edges o)]).length + j by simp; omega]
      exact this

theorem befs_closed {ops : List Oper} {D : Nat → Bool} (hD : ∀ i o, ops[i]? = some o → D i = true → ∀ e ∈ edges o, D e = true) : ∀ (i : Nat) (o : Oper), ops[i]? = some o → (∀ e ∈ edges o, D e = true) →
    ∀ j, ((befs ops []).getD i 0).testBit j = true → D j = true := by
  intro i
  induction i using Nat.strongRecOn with
  | _ i ih =>
    intro o ho he j hj
    obtain ⟨l, h1, h2, h3⟩ := befs_spec ops []
    have h4 := h3 i o ho
    simp only [List.length_nil, Nat.zero_add] at h4
    rw [h4] at hj
    obtain ⟨e, he1, he2⟩ := maskOf_bit hj
    have hDe := he e he1
    rcases he2 with rfl | he2
    · exact hDe
    · by_cases hei : e < i
      · have hbe : ((befs ops []).take i).getD e 0 = (befs ops []).getD e 0 := by
          simp [List.getD_eq_getElem?_getD, List.getElem?_take, hei]
        rw [hbe] at he2
        have hlt : i < ops.length := (List.getElem?_eq_some_iff.1 ho).1
        have hoe : ops[e]? = some ops[e] := by simp
        exact ih e hei ops[e] hoe (hD e _ hoe hDe) j he2
      · have : ((befs ops []).take i).getD e 0 = 0 := by
          simp only [List.getD_eq_getElem?_getD, List.getElem?_take, hei, if_false]
          rfl
        rw [this] at he2
        simp at he2

theorem clashes_spec {aos : List AO} {bs : List Nat} : ∀ {n : Nat}, clashes aos bs n = false → ∀ i j, i < j → j < n → ((bs.getD j 0).testBit i = true) ∨ ∀ a b, aos[i]? = some a → aos[j]? = some b → slotClash a b = false
  | 0, _, i, j, _, h => by omega
  | n + 1, h, i, j, hij, hj => by
    simp only [clashes, Bool.or_eq_false_iff] at h
    by_cases e : j = n
    · subst e
      have := h.2
      rw [List.any_eq_false] at this
      have h' := this i (by simpa using hij)
      cases hb : (bs.getD j 0).testBit i with
      | true => exact .inl rfl
      | false =>
        right
        intro a b ha hb'
        simp only [hb, ha, hb', Bool.not_false, Bool.true_and, Bool.not_eq_true] at h'
        exact h'
    · exact clashes_spec h.1 i j hij (by omega)

theorem pairsOf_spec {ops : List Oper} {ks : List AK} {bs : List Nat} : ∀ {n : Nat} (i j : Nat), i < j → j < n → ((bs.getD j 0).testBit i = true) ∨ (i, j) ∈ pairsOf ops ks bs n ∨
    ∀ a b, ks[i]? = some a → ks[j]? = some b → (a.kind = 2 → b.kind = 0) ∧ (b.kind = 2 → a.kind = 0)
  | 0, i, j, _, h => by omega
  | n + 1, i, j, hij, hj => by
    by_cases e : j = n
    · subst e
      cases hb : (bs.getD j 0).testBit i with
      | true => exact .inl rfl
      | false =>
        right
        cases ha : ks[i]? with
        | none => exact .inr fun a b h _ => by cases h
        | some a =>
          cases hc : ks[j]? with
          | none => exact .inr fun a b _ h => by cases h
          | some b =>
            by_cases hq : ((a.kind == 2 && b.kind != 0) || (b.kind == 2 && a.kind != 0)) = true
            · left
              simp only [pairsOf, List.mem_append]
              right
              rw [List.mem_filterMap]
              refine ⟨i, by simpa using hij, ?_⟩
              simp only [hb, ha, hc, Bool.false_eq_true, if_false, hq, if_true]
            · right
              intro a' b' h1 h2
              cases h1
              cases h2
              simp at hq
              exact ⟨fun h => hq.1 h, fun h => hq.2 h⟩
    · rcases pairsOf_spec (ops := ops) (ks := ks) (bs := bs) (n := n) i j hij (by omega) with h | h | h
      · exact .inl h
      · exact .inr (.inl (by simp only [pairsOf, List.mem_append]; exact .inl h))
      · exact .inr (.inr h)

end Go.Am

/- The abstract machine: regions are sound, in the order of the text and in every order that a draw may give. -/
set_option linter.unusedVariables false
set_option linter.unusedSimpArgs false
namespace Go.Am

structure GoodF (B : Base) (C0 C : Ctx) (n : Nat) (g : Nat → AVal) (ρ : Look) (a : Act) : Prop where
  ρ : C.ρ = ρ
  inv : Inv B C
  env : RepE C g a
  size : a.tmps.size = n
  ext : Ext (fun i => i) (fun id => id.1 = 0) C0 C
  defers : a.defers = []

theorem Good.f {B : Base} {C0 C : Ctx} {n : Nat} {s : St} {a : Act} (h : Good B C0 C n s a) : GoodF B C0 C n (gE s.env) (gO s.objs) a := ⟨h.ρ, h.inv, h.env, h.size, h.ext, h.defers⟩

theorem GoodF.good {B : Base} {C0 C : Ctx} {n : Nat} {s : St} {a : Act} (h : GoodF B C0 C n (gE s.env) (gO s.objs) a) : Good B C0 C n s a := ⟨h.ρ, h.inv, h.env, h.size, h.ext, h.defers⟩

theorem cOpers_get {P : Program} {n : Nat} {ms : List (Nat × Mk)} {ops : List Oper} : ∀ {r : List Oper} {i : Nat} {l : List (AK × Option (Nat × Bool))}, cOpers P n ms ops i r = some l →
    l.length = r.length ∧ ∀ j o, r[j]? = some o → ∃ k g, l[j]? = some (k, g) ∧ cOper P n ms ops (i + j) o = some (k, g)
  | [], i, l, h => by
    simp only [cOpers, Option.some.injEq] at h
    subst h
    simp
  | o :: r, i, l, h => by
    simp only [cOpers] at h
    split at h
    · rename_i x l' h1 h2
      simp only [Option.some.injEq] at h
      subst h
      obtain ⟨e1, e2⟩ := cOpers_get h2
      refine ⟨by simp [e1], fun j o' hj => ?_⟩
      cases j with
      | zero =>
        simp at hj
        subst hj
        exact ⟨x.1, x.2, rfl, h1⟩
      | succ j =>
        simp at hj
        obtain ⟨k, g, e3, e4⟩ := e2 j o' hj
        exact ⟨k, g, by simpa using e3, by rw [show i + (j + 1) = i + 1 + j by omega]; exact e4⟩
    · cases h

theorem aosOf_get {ps : List (Nat × Nat)} : ∀ {r : List Oper} {l : List (AK × Option (Nat × Bool))} {i : Nat}, l.length = r.length →
    (aosOf ps i r l).length = r.length ∧ ∀ (j : Nat) (o : Oper) (k : AK) (g : Option (Nat × Bool)), r[j]? = some o → l[j]? = some (k, g) → (aosOf ps i r l)[j]? = some (⟨o.dst, k, g, ps.any fun p => p.1 == i + j || p.2 == i + j⟩ : AO)
  | [], l, i, h => by cases l <;> simp [aosOf]
  | o :: r, [], i, h => by simp at h
  | o :: r, (k, g) :: l, i, h => by
    obtain ⟨e1, e2⟩ := aosOf_get (ps := ps) (r := r) (l := l) (i := i + 1) (by simpa using h)
    refine ⟨by simp [aosOf, e1], fun j o' k' g' h1 h2 => ?_⟩
    cases j with
    | zero =>
      simp at h1 h2
      obtain ⟨rfl, rfl⟩ := h2
      subst h1
      simp [aosOf]
    | succ j =>
      simp at h1 h2
      have := e2 j o' k' g' h1 h2
      simp only [aosOf, List.getElem?_cons_succ]
      rw [this, show i + 1 + j = i + (j + 1) by omega]

section
variable {P : Program} {B : Base} {C0 : Ctx} {K : Orc} {n : Nat}

theorem wpOp_good (hS : SoundK P K) {ops : Array Oper} {Q : Exit → Act → World → Prop} {i : Nat} {o : Oper} (hi : ops[i]? = some o) {ms : List (Nat × Mk)} {k : AK} {gd : Option (Nat × Bool)} (hc : cOper P n ms ops.toList i o = some (k, gd)) {lg : Bool}
    {C : Ctx} {g : Nat → AVal} {ρ : Look} {a : Act} (h : GoodF B C0 C n g ρ a) {out : Out} (ho : aoE K ⟨o.dst, k, gd, lg⟩ g ρ = some out) {next : Act → World → Prop}
    (hnext : ∀ a' C', GoodF B C0 C' n (fun t => if o.dst = some t then out.1 else g t) (updL ρ out.2) a' → next a' C'.w) :
    wpOp P ops Q i next a C.w := by
  refine wpOp_sound hS hi hc h.inv h.env h.size (by rw [h.ρ]; exact ho) fun val C' e1 e2 e3 e4 e5 => ?_
  refine hnext _ C' ⟨by rw [e1, h.ρ], e2, e4, e5, h.ext.thenGrow e3, ?_⟩
  have := h.defers
  cases o.dst <;> simpa [Act.put] using this

/-- a region in the order of the text -/
theorem seq_sound (hS : SoundK P K) {ops : Array Oper} {Q : Exit → Act → World → Prop} {ms : List (Nat × Mk)} {l : List (AK × Option (Nat × Bool))} (hl : cOpers P n ms ops.toList 0 ops.toList = some l) {ps : List (Nat × Nat)} :
    ∀ (m i : Nat) (s : St) (lg : Log) (s' : St) (lg' : Log) (C : Ctx) (a : Act), i + m = ops.size → runOps K i ((aosOf ps 0 ops.toList l).drop i) s lg = some (s', lg') → GoodF B C0 C n (gE s.env) (gO s.objs) a →
      (∀ a' C', GoodF B C0 C' n (gE s'.env) (gO s'.objs) a' → Q .normal a' C'.w) → wpOps P ops Q (List.range' i m) a C.w := by
  obtain ⟨hlen, hget⟩ := cOpers_get hl
  obtain ⟨alen, aget⟩ := aosOf_get (ps := ps) (i := 0) hlen
  intro m
  induction m with
  | zero =>
    intro i s lg s' lg' C a hi h hG hQ
    rw [List.drop_of_length_le (by rw [alen]; simp; omega)] at h
    simp only [runOps, Option.some.injEq, Prod.mk.injEq] at h
    obtain ⟨rfl, rfl⟩ := h
    simp only [List.range'_zero, wpOps]
    exact hQ a C hG
  | succ m ih =>
    intro i s lg s' lg' C a hi h hG hQ
    have hlt : i < ops.size := by omega
    have ho : ops[i]? = some ops[i] := by simp [hlt]
    have ho' : ops.toList[i]? = some ops[i] := by simp [hlt]
    obtain ⟨k, g, e1, e2⟩ := hget i _ ho'
    rw [Nat.zero_add] at e2
    have ea := aget i _ k g ho' e1
    have hd : (aosOf ps 0 ops.toList l).drop i = ⟨ops[i].dst, k, g, ps.any fun p => p.1 == 0 + i || p.2 == 0 + i⟩ :: (aosOf ps 0 ops.toList l).drop (i + 1) := by
      have hl2 : i < (aosOf ps 0 ops.toList l).length := by rw [alen]; simpa using hlt
      rw [List.drop_eq_getElem_cons hl2]
      congr 1
      rw [List.getElem?_eq_getElem hl2] at ea
      exact Option.some.inj ea
    rw [hd] at h
    simp only [runOps] at h
    split at h
    · cases h
    · rename_i out hout
      rw [List.range'_succ, wpOps_cons]
      refine wpOp_good hS ho e2 hG hout fun a' C' hG' => ?_
      refine ih (i + 1) _ _ _ _ C' a' (by omega) h ?_ hQ
      have eg : gE (putE s.env ops[i].dst out.1) = fun t => if ops[i].dst = some t then out.1 else gE s.env t := by
        funext t; exact gE_putE _ _ _ _
      simp only [eg, gO_pOs]
      exact hG'

theorem countP_lt_of {α : Type} {p q : α → Bool} (h : ∀ x, q x = true → p x = true) : ∀ {l : List α} {x : α}, x ∈ l → p x = true → q x = false → l.countP q < l.countP p
  | y :: r, x, hx, hp, hq => by
    have hle : r.countP q ≤ r.countP p := by
      clear hx
      induction r with
      | nil => simp
      | cons z r ih =>
        simp only [List.countP_cons]
        have := h z
        cases hz : q z <;> cases hz' : p z <;> simp_all <;> omega
    simp only [List.countP_cons]
    cases hx with
    | head => simp [hp, hq]; omega
    | tail _ hx =>
      have := countP_lt_of h hx hp hq
      have := h y
      cases hz : q y <;> cases hz' : p y <;> simp_all <;> omega

theorem meets_mem {a b : List Id} {x : Id} (ha : x ∈ a) (hb : x ∈ b) : meets a b = true := by
  simp only [meets, List.any_eq_true]
  exact ⟨x, ha, by simpa using hb⟩

theorem aoE_quiet {o : AO} {g : Nat → AVal} {ρ : Look} {out : Out} (h : aoE K o g ρ = some out) (hk : o.k.kind ≠ 2) : out.2 = [] := by
  unfold aoE at h
  split at h
  · exact opE_quiet K _ h hk
  · split at h
    · split at h
      · exact opE_quiet K _ h hk
      · cases h; rfl
    · cases h; rfl
    · cases h

theorem aoE_frame {o : AO} {g g' : Nat → AVal} {ρ ρ' : Look} {out : Out} (h : aoE K o g ρ = some out) (hs : ∀ t ∈ o.seen, g' t = g t) (hρ : o.k.kind ≠ 0 → ∀ i, i ∈ touch o.k g ρ ∨ i ∈ out.2.map (·.1) → ρ' i = ρ i) : aoE K o g' ρ' = some out := by
  have hop : opE K (o.dst.getD 0) o.k g ρ = some out → opE K (o.dst.getD 0) o.k g' ρ' = some out := by
    intro h
    rw [opE_slots K _ ρ' (fun t ht => hs t (List.mem_append.2 (.inl ht)))]
    by_cases hk : o.k.kind = 0
    · rw [opE_blind K _ hk]; exact h
    · exact opE_objs K _ h (hρ hk)
  unfold aoE at h ⊢
  cases hg : o.guard with
  | none => rw [hg] at h; exact hop h
  | some tw =>
    obtain ⟨t, want⟩ := tw
    rw [hg] at h
    simp only at h ⊢
    rw [hs t (by simp [AO.seen, hg])]
    split at h
    · rename_i b hb
      split at h
      · rename_i hbw
        rw [if_pos hbw]
        exact hop h
      · rename_i hbw
        rw [if_neg hbw]
        exact h
    · exact h
    · cases h

theorem edgesOk_spec : ∀ {r : List Oper} {i : Nat}, edgesOk i r = true → ∀ j o, r[j]? = some o → ∀ e ∈ edges o, e < i + j
  | [], i, h, j, o, ho => by simp at ho
  | o :: r, i, h, j, o', ho => by
    simp only [edgesOk, Bool.and_eq_true, List.all_eq_true, decide_eq_true_eq] at h
    cases j with
    | zero =>
      simp at ho
      subst ho
      simpa using h.1
    | succ j =>
      simp at ho
      have := edgesOk_spec h.2 j o' ho
      intro e he
      have := this e he
      omega

/-- what the compiler has checked of a region that is drawn, and what its run in the order of the text has shown -/
structure Drawn (K : Orc) (P : Program) (n : Nat) (ms : List (Nat × Mk)) (ops : Array Oper) (aos : List AO) (outs : List Out) (g0 : Nat → AVal) (ρ0 : Look) : Prop where
  len : aos.length = ops.size
  ao : ∀ i o, ops[i]? = some o → ∃ k gd lg, aos[i]? = some ⟨o.dst, k, gd, lg⟩ ∧ cOper P n ms ops.toList i o = some (k, gd)
  run : ∀ j o, aos[j]? = some o → aoE K o (gM aos outs every g0 j) (rM outs every ρ0 j) = some (outAt outs j)
  edge : ∀ i o, ops[i]? = some o → ∀ e ∈ edges o, e < i
  slot : ∀ i j, i < j → j < ops.size → ((befs ops.toList []).getD j 0).testBit i = true ∨ ∀ a b, aos[i]? = some a → aos[j]? = some b → slotClash a b = false
  objs : ∀ i j, i < j → j < ops.size → ((befs ops.toList []).getD j 0).testBit i = true ∨ ∀ a b, aos[i]? = some a → aos[j]? = some b →
    ((a.k.kind = 2 → b.k.kind = 0) ∧ (b.k.kind = 2 → a.k.kind = 0)) ∨
    (∀ x, (x ∈ touch a.k (gM aos outs every g0 i) (rM outs every ρ0 i) ∨ x ∈ keysAt outs i) → x ∈ keysAt outs j → False) ∧
    (∀ x, (x ∈ touch b.k (gM aos outs every g0 j) (rM outs every ρ0 j) ∨ x ∈ keysAt outs j) → x ∈ keysAt outs i → False)

section
variable {ms : List (Nat × Mk)} {ops : Array Oper} {aos : List AO} {outs : List Out} {g0 : Nat → AVal} {ρ0 : Look} {D : Nat → Bool}

theorem Drawn.dst (H : Drawn K P n ms ops aos outs g0 ρ0) {i : Nat} {o : Oper} (ho : ops[i]? = some o) : dstAt aos i = o.dst := by
  obtain ⟨k, gd, lg, h, _⟩ := H.ao i o ho
  simp [dstAt, h]

theorem Drawn.before (H : Drawn K P n ms ops aos outs g0 ρ0) (hD : ∀ i o, ops[i]? = some o → D i = true → ∀ e ∈ edges o, D e = true) {i : Nat} {o : Oper} (ho : ops[i]? = some o) (he : ∀ e ∈ edges o, D e = true) {j : Nat}
    (hj : ((befs ops.toList []).getD i 0).testBit j = true) : D j = true :=
  befs_closed (ops := ops.toList) (D := D) (fun i o h => hD i o (by simpa using h)) i o (by simpa using ho) he j hj

/-- an unlisted operation that is ready sees the slots that it saw in the order of the text -/
theorem Drawn.sees (H : Drawn K P n ms ops aos outs g0 ρ0) (hD : ∀ i o, ops[i]? = some o → D i = true → ∀ e ∈ edges o, D e = true) {i : Nat} {o : Oper} (ho : ops[i]? = some o) (he : ∀ e ∈ edges o, D e = true) (hi : D i = false)
    {a : AO} (ha : aos[i]? = some a) {t : Nat} (ht : t ∈ a.seen) : gM aos outs D g0 ops.size t = gM aos outs every g0 i t := by
  have hlt : i < ops.size := (Array.getElem?_eq_some_iff.1 ho).1
  refine gM_agree (fun k hk hd => ?_) ops.size (Nat.le_of_lt hlt) fun k hk hk' hd => ?_
  · rcases H.slot k i hk hlt with h | h
    · exact H.before hD ho he h
    · obtain ⟨b, hb⟩ : ∃ b, aos[k]? = some b := ⟨aos[k]'(by rw [H.len]; omega), by simp⟩
      have := h b a hb ha
      simp only [dstAt, hb, Option.bind_some] at hd
      simp [slotClash, hd] at this
      exact absurd ht this.1.1
  · by_cases e : k = i
    · subst e; exact hi
    · rcases H.slot i k (by omega) hk' with h | h
      · cases hDk : D k with
        | false => rfl
        | true =>
          have hok : ops[k]? = some ops[k] := by simp [hk']
          have := H.before hD hok (hD k _ hok hDk) h
          rw [hi] at this
          cases this
      · obtain ⟨b, hb⟩ : ∃ b, aos[k]? = some b := ⟨aos[k]'(by rw [H.len]; omega), by simp⟩
        have := h a b ha hb
        simp only [dstAt, hb, Option.bind_some] at hd
        simp [slotClash, hd] at this
        exact absurd ht this.2

theorem Drawn.quiet (H : Drawn K P n ms ops aos outs g0 ρ0) {k : Nat} {b : AO} (hb : aos[k]? = some b) (hk : b.k.kind ≠ 2) : keysAt outs k = [] := by
  have := aoE_quiet (H.run k b hb) hk
  simp [keysAt, this]

/-- and the objects -/
theorem Drawn.meets (H : Drawn K P n ms ops aos outs g0 ρ0) (hD : ∀ i o, ops[i]? = some o → D i = true → ∀ e ∈ edges o, D e = true) {i : Nat} {o : Oper} (ho : ops[i]? = some o) (he : ∀ e ∈ edges o, D e = true) (hi : D i = false)
    {a : AO} (ha : aos[i]? = some a) {x : Id} (hk0 : a.k.kind ≠ 0) (hx : x ∈ touch a.k (gM aos outs every g0 i) (rM outs every ρ0 i) ∨ x ∈ keysAt outs i) :
    (∀ k, k < i → x ∈ keysAt outs k → D k = true) ∧ (∀ k, i ≤ k → k < ops.size → x ∈ keysAt outs k → D k = false) := by
  have hlt : i < ops.size := (Array.getElem?_eq_some_iff.1 ho).1
  refine ⟨fun k hk hd => ?_, fun k hk hk' hd => ?_⟩
  · rcases H.objs k i hk hlt with h | h
    · exact H.before hD ho he h
    · obtain ⟨b, hb⟩ : ∃ b, aos[k]? = some b := ⟨aos[k]'(by rw [H.len]; omega), by simp⟩
      rcases h b a hb ha with h | h
      · by_cases hb2 : b.k.kind = 2
        · exact absurd (h.1 hb2) hk0
        · rw [H.quiet hb hb2] at hd; cases hd
      · exact (h.2 x hx hd).elim
  · by_cases e : k = i
    · subst e; exact hi
    · rcases H.objs i k (by omega) hk' with h | h
      · cases hDk : D k with
        | false => rfl
        | true =>
          have hok : ops[k]? = some ops[k] := by simp [hk']
          have := H.before hD hok (hD k _ hok hDk) h
          rw [hi] at this
          cases this
      · obtain ⟨b, hb⟩ : ∃ b, aos[k]? = some b := ⟨aos[k]'(by rw [H.len]; omega), by simp⟩
        rcases h a b ha hb with h | h
        · by_cases hb2 : b.k.kind = 2
          · exact absurd (h.2 hb2) hk0
          · rw [H.quiet hb hb2] at hd; cases hd
        · exact (h.1 x hx hd).elim

theorem Drawn.answers (H : Drawn K P n ms ops aos outs g0 ρ0) (hD : ∀ i o, ops[i]? = some o → D i = true → ∀ e ∈ edges o, D e = true) {i : Nat} {o : Oper} (ho : ops[i]? = some o) (he : ∀ e ∈ edges o, D e = true) (hi : D i = false)
    {a : AO} (ha : aos[i]? = some a) : aoE K a (gM aos outs D g0 ops.size) (rM outs D ρ0 ops.size) = some (outAt outs i) := by
  have hlt : i < ops.size := (Array.getElem?_eq_some_iff.1 ho).1
  refine aoE_frame (H.run i a ha) (fun t ht => H.sees hD ho he hi ha ht) fun hk x hx => ?_
  obtain ⟨h1, h2⟩ := H.meets hD ho he hi ha hk hx
  exact rM_agree h1 ops.size (Nat.le_of_lt hlt) h2

theorem Drawn.adds (H : Drawn K P n ms ops aos outs g0 ρ0) (hD : ∀ i o, ops[i]? = some o → D i = true → ∀ e ∈ edges o, D e = true) {i : Nat} {o : Oper} (ho : ops[i]? = some o) (he : ∀ e ∈ edges o, D e = true) (hi : D i = false) :
    gM aos outs (addD D i) g0 ops.size = (fun t => if o.dst = some t then (outAt outs i).1 else gM aos outs D g0 ops.size t) ∧ rM outs (addD D i) ρ0 ops.size = updL (rM outs D ρ0 ops.size) (outAt outs i).2 := by
  have hlt : i < ops.size := (Array.getElem?_eq_some_iff.1 ho).1
  obtain ⟨k0, gd, lg, ha, hc⟩ := H.ao i o ho
  refine ⟨?_, ?_⟩
  · funext t
    rw [gM_add hi t ops.size hlt, H.dst ho]
    intro k hk hk' hdi hdk
    rcases H.slot i k hk hk' with h | h
    · cases hDk : D k with
      | false => rfl
      | true =>
        have hok : ops[k]? = some ops[k] := by simp [hk']
        have := H.before hD hok (hD k _ hok hDk) h
        rw [hi] at this
        cases this
    · obtain ⟨b, hb⟩ : ∃ b, aos[k]? = some b := ⟨aos[k]'(by rw [H.len]; omega), by simp⟩
      have := h _ b ha hb
      rw [H.dst ho] at hdi
      simp only [dstAt, hb, Option.bind_some] at hdk
      simp [slotClash, hdi, hdk] at this
  · funext x
    refine rM_add hi x ops.size hlt fun k hk hk' hxi hxk => ?_
    have hk0 : k0.kind ≠ 0 := by
      intro h0
      have := H.quiet ha (by simp [h0])
      rw [this] at hxi
      cases hxi
    exact (H.meets hD ho he hi ha hk0 (.inr hxi)).2 k (Nat.le_of_lt hk) hk' hxk

theorem mem_edges {o : Oper} {e : Nat} : e ∈ edges o ↔ ∃ x ∈ o.after, Region.binds .any x = true ∧ x.on = e := by
  unfold edges
  simp only [List.mem_filterMap, Array.mem_toList_iff]
  constructor
  · rintro ⟨x, h1, h2⟩
    split at h2
    · rename_i hb
      exact ⟨x, h1, hb, by simpa using h2⟩
    · cases h2
  · rintro ⟨x, h1, h2, h3⟩
    exact ⟨x, h1, by rw [if_pos h2, h3]⟩

/-- every order -/
theorem any_sound (hS : SoundK P K) (H : Drawn K P n ms ops aos outs g0 ρ0) {Q : Exit → Act → World → Prop} (hQ : ∀ a' C', GoodF B C0 C' n (gM aos outs every g0 ops.size) (rM outs every ρ0 ops.size) a' → Q .normal a' C'.w) :
    ∀ (fuel : Nat) (listed : Array Bool) (a : Act) (C : Ctx), listed.size = ops.size →
      (∀ i o, ops[i]? = some o → listed.getD i false = true → ∀ e ∈ edges o, listed.getD e false = true) →
      GoodF B C0 C n (gM aos outs (fun i => listed.getD i false) g0 ops.size) (rM outs (fun i => listed.getD i false) ρ0 ops.size) a →
      (List.range ops.size).countP (fun i => !listed.getD i false) ≤ fuel → wpAny P .any ops Q fuel listed a C.w := by
  intro fuel
  have tf : ∀ (listed : Array Bool) (i : Nat), listed.size = ops.size → i < ops.size → listed.getD i true = listed.getD i false := by
    intro listed i hs hi
    have : i < listed.size := by omega
    simp [Array.getD, this]
  have done : ∀ (listed : Array Bool) (a : Act) (C : Ctx), listed.size = ops.size → Region.ready .any ops listed = [] →
      GoodF B C0 C n (gM aos outs (fun i => listed.getD i false) g0 ops.size) (rM outs (fun i => listed.getD i false) ρ0 ops.size) a → Q .normal a C.w := by
    intro listed a C hs hr hG
    have all : ∀ i, i < ops.size → listed.getD i false = true := by
      intro i
      induction i using Nat.strongRecOn with
      | _ i ih =>
        intro hi
        cases hf : listed.getD i false with
        | true => rfl
        | false =>
          have : i ∈ Region.ready .any ops listed := by
            rw [mem_ready]
            have hok : ops[i]? = some ops[i] := by simp [hi]
            refine ⟨by rw [tf listed i hs hi, hf], ops[i], hok, fun e he hb => ?_⟩
            have := H.edge i _ hok e.on (mem_edges.2 ⟨e, he, hb, rfl⟩)
            exact ih e.on this (by omega)
          rw [hr] at this
          cases this
    have e1 : gM aos outs (fun i => listed.getD i false) g0 ops.size = gM aos outs every g0 ops.size := by
      funext t
      exact gM_agree (fun k hk _ => all k hk) ops.size (Nat.le_refl _) (fun k h1 h2 _ => by omega)
    have e2 : rM outs (fun i => listed.getD i false) ρ0 ops.size = rM outs every ρ0 ops.size := by
      funext t
      exact rM_agree (fun k hk _ => all k hk) ops.size (Nat.le_refl _) (fun k h1 h2 _ => by omega)
    rw [e1, e2] at hG
    exact hQ a C hG
  induction fuel with
  | zero =>
    intro listed a C hs hD hG hc
    have hr : Region.ready .any ops listed = [] := by
      rw [List.eq_nil_iff_forall_not_mem]
      intro j hj
      obtain ⟨h0, o, ho, _⟩ := mem_ready.1 hj
      have hlt : j < ops.size := (Array.getElem?_eq_some_iff.1 ho).1
      rw [tf listed j hs hlt] at h0
      have : 0 < (List.range ops.size).countP (fun i => !listed.getD i false) := by
        rw [List.countP_pos_iff]
        exact ⟨j, by simpa using hlt, by simp only [h0, Bool.not_false]⟩
      omega
    exact ⟨hr, done listed a C hs hr hG⟩
  | succ fuel ih =>
    intro listed a C hs hD hG hc
    refine ⟨fun hr => done listed a C hs hr hG, fun i hi => ?_⟩
    obtain ⟨h0, o, ho, hall⟩ := mem_ready.1 hi
    have hlt : i < ops.size := (Array.getElem?_eq_some_iff.1 ho).1
    rw [tf listed i hs hlt] at h0
    have he : ∀ e ∈ edges o, listed.getD e false = true := by
      intro e hee
      obtain ⟨x, h1, h2, rfl⟩ := mem_edges.1 hee
      exact hall x h1 h2
    obtain ⟨k, gd, lg, ha, hco⟩ := H.ao i o ho
    have hans := H.answers (D := fun i => listed.getD i false) hD ho he h0 ha
    obtain ⟨ag, ar⟩ := H.adds (D := fun i => listed.getD i false) hD ho he h0
    refine wpOp_good hS ho hco hG hans fun a' C' hG' => ?_
    rw [← ag, ← ar] at hG'
    have hset : addD (fun i => listed.getD i false) i = fun j => (listed.setIfInBounds i true).getD j false := by
      funext j
      by_cases e : j = i
      · subst e
        have : j < listed.size := by omega
        simp [addD, this]
      · have := getD_set_ne (listed := listed) (i := i) (j := j) false (fun x => e x.symm)
        rw [this]
        simp [addD, e]
    rw [hset] at hG'
    refine ih (listed.setIfInBounds i true) a' C' (by simpa using hs) ?_ hG' ?_
    · intro j o' ho' hj e hee
      refine getD_set_true ?_
      by_cases hji : j = i
      · subst hji
        rw [ho] at ho'
        cases ho'
        exact he e hee
      · rw [getD_set_ne false (fun x => hji x.symm)] at hj
        exact hD j o' ho' hj e hee
    · have := countP_lt_of (p := fun j => !listed.getD j false) (q := fun j => !(listed.setIfInBounds i true).getD j false) (l := List.range ops.size) (x := i)
        (fun j hj => by
          cases hl : listed.getD j false with
          | false => rfl
          | true =>
            have := getD_set_true (i := i) hl
            simp only [this] at hj
            cases hj) (by simpa using hlt) (by simp only [h0, Bool.not_false]) (by
          have : i < listed.size := by omega
          simp [this])
      omega

end
end
end Go.Am
