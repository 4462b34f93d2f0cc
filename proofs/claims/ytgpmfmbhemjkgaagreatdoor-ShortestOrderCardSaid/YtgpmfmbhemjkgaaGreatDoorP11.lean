/- Parts of the proofs of the statement, joined and made short: EW32 EW33 EW34 EW35 EW36 EW37 EW38 EW39 EW40 EW41 EW42 EW43 EW44 EW45 EW46 EW47 EW48 EW49 EW50 EW51 EW52 EW53 EW54 EW55 EW56 EW57 EW58 EW59 EW60 EW61 EW62 EW63 EL1 EN1 EN2. -/
import Derived.Test.YtgpmfmbhemjkgaaGreatDoorP10
set_option linter.unusedVariables false
set_option linter.unusedSimpArgs false
set_option linter.unusedSectionVars false
set_option maxRecDepth 10000
set_option maxHeartbeats 8000000
namespace Go.Am.E
open Go.Proofs Go.Ex Go.Rc
abbrev qA (n : Nat) : TObj:=.plain (.arr 1 0 false (List.replicate n (.sl [])))
abbrev pbox (p : Pg) : TObj:=.plain (.box ((PDl p).map AVal.dat))
abbrev iv (p : Pg) : List Int:=p.vs.map (·.2)
abbrev E183 (p : Pg) (k : Nat) : Env:=[(1,.ref ((2,0),0,0) 0),(2,.ref ((3,0),0,0) 0),(7,.ref ((8,0),0,0) 0),(26,.dat (.sl (p.vs.map VD))),(27,.dat (N p.vs.length)),(28,.dat (N k))]
def X183 (p : Pg) : Nat → zta7
 | 0 => [((2,0),pbox p),((3,0),nil4),((8,0),.plain (.box [.nils,.nils,.rsl ((8,1),0,0) 0 1 0 p.cs.length,.nils])),((8,1),qA p.cs.length)]
 | k + 1 => [((2,0),pbox p),((3,0),nil4),((8,0),.plain (.box [.rsl ((8,1),0,0) k 1 0 (k + 1),.nils,.rsl ((8,2),0,0) 0 1 0 p.cs.length,.nils])),((8,1),aI k ((iv p).take (k + 1))),((8,2),qA p.cs.length)]
theorem loop92_0 (p : Pg) (hl : p.vs.length < 100000000) (s : St) (hs : hd [1,2,7,26,27,28] [1,2,7,26] s = some ⟨E183 p 0,X183 p 0⟩) :
  Ev (zga7 (exec K l92_0) s) fun q => q.1 = .exit 0 ∧ hd [1,2,7] [] q.2 = some ⟨(E183 p 0).take 3,X183 p p.vs.length⟩:=by
 refine zjb7 (live:=[1,2,7,26,27,28]) (drop:=[1,2,7,26]) p.vs (by omega) (fun k => ⟨E183 p k,X183 p k⟩) (fun _ q => q.1 = .exit 0 ∧ hd [1,2,7] [] q.2 = some ⟨(E183 p 0).take 3,X183 p p.vs.length⟩)
  (fun i y s h1 h2 h3 ix hs => ?_) (fun s hs => ?_) s hs
 ·have e:=zhe7 (l:=iv p) (i:=i) (x:=y.2) (by simp [h1])
  obtain ⟨n,v⟩:=y
  cases i with
  | zero =>
   simp [X183,E183] at hs
   have h4 : 0 < p.vs.length:=by omega
   simp [hs,X183,h1,h2,h4,e,VD]
  | succ i =>
   have hr : (i + 1 + 1) * 9 ≤ 1099511627776:=by omega
   have hi : i + 1 ≤ p.vs.length:=by omega
   have h4 : i + 1 < p.vs.length:=by omega
   have h5 : (i : Int) + 1 < p.vs.length:=by omega
   have wS : IntKind.wrap .i64 ((i : Int) + 1 + 1) = i + 1 + 1:=wrap_i64 (by omega) (by omega)
   simp [X183,E183] at hs
   simp [hs,X183,h1,h2,h3,e,VD,hr,hi,h4,h5,wS]
 ·cases c : p.vs.length <;> rw [c] at hs <;> simp [X183,E183,c] at hs <;> simp [hs,X183,c]
abbrev F183 (p : Pg) (k : Nat) : Env:=[(2,.ref ((3,0),0,0) 0),(7,.ref ((8,0),0,0) 0),(42,.dat (N p.ms.length)),(43,.dat (N k))]
def Y183a (p : Pg) : Nat → zta7
 | 0 => [((3,0),nil4),((8,0),.plain (.box [.nils,.nils,.rsl ((8,1),0,0) 0 1 0 p.cs.length,.nils])),((8,1),qA p.cs.length)]
 | k + 1 => [((3,0),nil4),((8,0),.plain (.box [.nils,.rsl ((8,1),0,0) k 1 0 (k + 1),.rsl ((8,2),0,0) 0 1 0 p.cs.length,.nils])),((8,1),aI k (List.replicate (k + 1) (-1))),((8,2),qA p.cs.length)]
theorem loop92_1a (p : Pg) (hl : p.ms.length < 100000000) (s : St) (hs : hd [2,7,42,43] [2,7] s = some ⟨F183 p 0,Y183a p 0⟩) :
  Ev (zga7 (exec K l92_1) s) fun q => q.1 = .exit 2 ∧ hd [2,7] [] q.2 = some ⟨(F183 p 0).take 2,Y183a p p.ms.length⟩:=by
 refine zjb7 (live:=[2,7,42,43]) (drop:=[2,7]) p.ms (by omega) (fun k => ⟨F183 p k,Y183a p k⟩) (fun _ q => q.1 = .exit 2 ∧ hd [2,7] [] q.2 = some ⟨(F183 p 0).take 2,Y183a p p.ms.length⟩)
  (fun i y s h1 h2 h3 ix hs => ?_) (fun s hs => ?_) s hs
 ·cases i with
  | zero =>
   simp [Y183a,F183] at hs
   have h4 : 0 < p.ms.length:=by omega
   simp [hs,Y183a,h4]
  | succ i =>
   have hr : (i + 1 + 1) * 9 ≤ 1099511627776:=by omega
   have h5 : (i : Int) + 1 < p.ms.length:=by omega
   have wS : IntKind.wrap .i64 ((i : Int) + 1 + 1) = i + 1 + 1:=wrap_i64 (by omega) (by omega)
   simp [Y183a,F183] at hs
   simp [hs,Y183a,hr,h5,wS,List.replicate_succ']
 ·cases c : p.ms.length <;> rw [c] at hs <;> simp [Y183a,F183,c] at hs <;> simp [hs,Y183a,c]
def Y183b (p : Pg) (n : Nat) : Nat → zta7
 | 0 => [((3,0),nil4),((8,0),.plain (.box [.rsl ((8,1),0,0) n 1 0 (n + 1),.nils,.rsl ((8,2),0,0) 0 1 0 p.cs.length,.nils])),((8,1),aI n (iv p)),((8,2),qA p.cs.length)]
 | k + 1 => [((3,0),nil4),((8,0),.plain (.box [.rsl ((8,1),0,0) n 1 0 (n + 1),.rsl ((8,2),0,0) k 1 0 (k + 1),.rsl ((8,3),0,0) 0 1 0 p.cs.length,.nils])),((8,1),aI n (iv p)),((8,2),aI k (List.replicate (k + 1) (-1))),((8,3),qA p.cs.length)]
theorem loop92_1b (p : Pg) (n : Nat) (hl : p.ms.length < 100000000) (s : St) (hs : hd [2,7,42,43] [2,7] s = some ⟨F183 p 0,Y183b p n 0⟩) :
  Ev (zga7 (exec K l92_1) s) fun q => q.1 = .exit 2 ∧ hd [2,7] [] q.2 = some ⟨(F183 p 0).take 2,Y183b p n p.ms.length⟩:=by
 refine zjb7 (live:=[2,7,42,43]) (drop:=[2,7]) p.ms (by omega) (fun k => ⟨F183 p k,Y183b p n k⟩) (fun _ q => q.1 = .exit 2 ∧ hd [2,7] [] q.2 = some ⟨(F183 p 0).take 2,Y183b p n p.ms.length⟩)
  (fun i y s h1 h2 h3 ix hs => ?_) (fun s hs => ?_) s hs
 ·cases i with
  | zero =>
   simp [Y183b,F183] at hs
   have h4 : 0 < p.ms.length:=by omega
   simp [hs,Y183b,h4]
  | succ i =>
   have hr : (i + 1 + 1) * 9 ≤ 1099511627776:=by omega
   have h5 : (i : Int) + 1 < p.ms.length:=by omega
   have wS : IntKind.wrap .i64 ((i : Int) + 1 + 1) = i + 1 + 1:=wrap_i64 (by omega) (by omega)
   simp [Y183b,F183] at hs
   simp [hs,Y183b,hr,h5,wS,List.replicate_succ']
 ·cases c : p.ms.length <;> rw [c] at hs <;> simp [Y183b,F183,c] at hs <;> simp [hs,Y183b,c]
theorem map_c {α : Type} (f : α → Dat) (d : Dat) (hf : ∀ x,f x = d) : ∀ l : List α,l.map f = List.replicate l.length d
 | [] => rfl
 | a :: r => by rw [List.map_cons,map_c f d hf r,hf,List.length_cons,List.replicate_succ]
theorem rep_q (l : List Str) : List.map (Ns ∘ fun _ => []) l = List.replicate l.length (Dat.sl []):=map_c _ _ (fun _ => rfl) l
theorem rep_m (l : List Str) : List.map (N ∘ fun _ => -1) l = List.replicate l.length (N (-1)):=map_c _ _ (fun _ => rfl) l
def newP' (p : Pg) : AVal:=if chP p = 0 then .tup [.dat (MD (newM p)),.dat (N 0)] else .tup [.dat MD0,.dat (N (chP p))]
theorem run92 (p : Pg) (h : Fit p) : K 92 [.dat (PD p)] [] = some (newP' p,[]):=by
 obtain ⟨a,b,h1⟩:=run54 p h
 refine ce rfl ?_
 unfold newP'
 rcases Classical.propComplete (chP p = 0) with c1 | c1
 ·have lm:=chP_lim (by rw [c1]; trivial : chP p = 0)
  have r1 : 24 * (p.cs.length : Int) ≤ 1099511627776:=by omega
  have r2 : (p.cs.length : Int) ≤ 1099511627776:=by omega
  simp [h1,c1,r1,r2]
  simp only [zaa7]
  refine (loop92_0 p (by omega) _ (by simp [h1,c1,r1,r2,X183])).mono ?_
  rintro ⟨y,s⟩ ⟨rfl,hq⟩
  cases cv : p.vs.length with
  | zero =>
   have e1 : p.vs = []:=List.eq_nil_of_length_eq_zero cv
   simp [cv,X183] at hq
   simp [hq]
   simp only [zaa7]
   refine (loop92_1a p (by omega) _ (by simp [hq,Y183a])).mono ?_
   rintro ⟨y,s⟩ ⟨rfl,hq⟩
   cases cm : p.ms.length with
   | zero =>
    have e2 : p.ms = []:=List.eq_nil_of_length_eq_zero cm
    simp [cm,Y183a] at hq
    simp [hq,newM,e1,e2,rep_q,rep_m]
   | succ m =>
    simp [cm,Y183a] at hq
    simp [hq,newM,e1,cm,rep_q,rep_m]
  | succ n =>
   simp [cv,X183] at hq
   have e3 : List.take (n + 1) (iv p) = iv p:=List.take_of_length_le (by simp [cv])
   simp [hq]
   simp only [zaa7]
   refine (loop92_1b p n (by omega) _ (by simp [hq,Y183b,e3])).mono ?_
   rintro ⟨y,s⟩ ⟨rfl,hq⟩
   cases cm : p.ms.length with
   | zero =>
    have e2 : p.ms = []:=List.eq_nil_of_length_eq_zero cm
    simp [cm,Y183b] at hq
    simp [hq,newM,e2,cv,rep_q,rep_m]
   | succ m =>
    simp [cm,Y183b] at hq
    simp [hq,newM,cm,cv,rep_q,rep_m]
 ·simp [h1,c1]
end Go.Am.E

set_option maxRecDepth 10000
set_option maxHeartbeats 8000000
namespace Go.Am.E
open Go.Proofs Go.Ex Go.Rc
attribute [-simp] splice
attribute [local simp] zwb7
abbrev SXl (s : Sa) : List Dat:=[.sl (s.th.map TD),Ns s.me.va,Ns s.me.ow,.sl (s.me.qu.map Ns),Ns s.me.sg,.sl (s.bu.map BD)]
abbrev SX (s : Sa) : Dat:=.agg (SXl s)
structure Bb (b : Bu) : Prop where
 t : b.t < 100000000000000
 t' : -100000000000000 < b.t
 f : b.f < 100000000000000
 f' : -100000000000000 < b.f
 es : b.es.length < 1000000000
structure Sb (s : Sa) : Prop where
 th : s.th.length < 1000000000
 ts : ∀ t ∈ s.th,Tb t
 me : Mb s.me
 bu : s.bu.length < 1000000000
 bs : ∀ b ∈ s.bu,Bb b
theorem vldT_ok {p : Pg} {bd : Int} (hp : chP p = 0) (hb : 1 ≤ bd ∧ bd ≤ 32) (t : Th) : vldT p bd t = okT p bd t:=by
 have : stdE p bd = 0:=by unfold stdE; rw [if_neg (by omega),if_neg (by omega)]
 unfold vldT
 rw [this]
 rfl
theorem penP_ok {p : Pg} (hp : chP p = 0) (t : Th) : penP p t = insP (penT p t):=by
 unfold penP penT
 rw [vldT_ok hp (by omega)]
 split <;> rfl
def rnP (p : Pg) (s : Sa) (id : Int) : AVal:=match fndT s.th id with
 | none => .tup [.dat (.agg D17),.dat ID0,.dat (.bool false)]
 | some k => match s.th[k]? with
  | none => .junk
  | some t => match penT p t with
   | some i => .tup [.dat (TD t),.dat (ID i),.dat (.bool true)]
   | none => .tup [.dat (TD t),.dat ID0,.dat (.bool false)]
theorem zhf7 : ∀ {l : List Th} {id : Int} {k : Nat},fndT l id = some k → ∃ t,l[k]? = some t ∧ t.id = id
 | t :: r,id,k,h => by
  simp only [fndT] at h
  split at h
  ·rename_i c
   obtain rfl:=Option.some.inj h
   exact ⟨t,rfl,c⟩
  ·cases hf : fndT r id with
   | none => rw [hf] at h; cases h
   | some j =>
    rw [hf] at h
    obtain rfl:=Option.some.inj h
    obtain ⟨u,h1,h2⟩:=zhf7 hf
    exact ⟨u,by simpa using h1,h2⟩
theorem run122 (p : Pg) (hf : Fit p) (hp : chP p = 0) (s : Sa) (hs : Sb s) (id : Int) : K 122 [.dat (PD p),.dat (SX s),.dat (N id)] [] = some (rnP p s id,[]):=by
 have h1:=run129 s.th id (by have:=hs.th; omega)
 refine ce rfl ?_
 unfold rnP
 unfold fndP at h1
 cases c1 : fndT s.th id with
 | none =>
  simp only [c1] at h1
  simp [h1]
 | some k =>
  simp only [c1] at h1
  obtain ⟨t,t1,t2⟩:=zhf7 c1
  have t3:=(List.getElem?_eq_some_iff.1 t1).2
  have k1:=(List.getElem?_eq_some_iff.1 t1).1
  have k2 : (k : Int) < s.th.length:=by omega
  have h2:=run107 p hf t (hs.ts t (List.mem_of_getElem? t1))
  rw [penP_ok hp] at h2
  cases c2 : penT p t with
  | none =>
   rw [c2] at h2
   simp only [insP] at h2
   simp [h1,h2,t1,t3,k1,k2,c2]
  | some i =>
   rw [c2] at h2
   simp only [insP] at h2
   simp [h1,h2,t1,t3,k1,k2,c2]
end Go.Am.E

set_option maxRecDepth 10000
set_option maxHeartbeats 8000000
namespace Go.Am.E
open Go.Proofs Go.Ex Go.Rc
attribute [-simp] splice
attribute [local simp] zwb7
abbrev sbx (s : Sa) : TObj:=.plain (.box ((SXl s).map AVal.dat))
def oldT (L : List Th) (i : Nat) (t : Th) : Bool:=match i with
 | 0 => true
 | j + 1 => match L[j]? with
  | some u => decide (u.id < t.id)
  | none => true
def vsF (p : Pg) (bd : Int) (L : List Th) (i : Nat) (t : Th) : Option Unit:=if (okT p bd t && oldT L i t) = true then none else some ()
theorem srt_scan (p : Pg) (bd : Int) (L : List Th) : ∀ (r pre : List Th),L = pre ++ r → scan (vsF p bd L) r pre.length = if (r.all (okT p bd) && (match pre.getLast? with
  | none => srtT r
  | some u => srtT (u :: r))) = true then none else some ()
 | [],pre,_ => by cases pre.getLast? <;> simp [scan,srtT]
 | t :: r,pre,h => by
  have ih:=srt_scan p bd L r (pre ++ [t]) (by rw [h]; simp)
  rw [List.length_append,List.length_singleton,List.getLast?_append] at ih
  simp only [List.getLast?_singleton,Option.some_or] at ih
  simp only [scan,vsF,List.all_cons]
  have ho : oldT L pre.length t = match pre.getLast? with
    | none => true
    | some u => decide (u.id < t.id):=by
   rcases List.eq_nil_or_concat pre with rfl | ⟨q,u,rfl⟩
   ·rfl
   ·rw [h]; simp [oldT]
  rw [ho]
  rcases Bool.eq_false_or_eq_true (okT p bd t) with c | c
  ·rcases hp : pre.getLast? with _ | u
   ·simp only [c,Bool.and_self,if_true,Bool.true_and]
    rw [ih]
    congr
   ·by_cases c2 : u.id < t.id
    ·simp only [c,c2,decide_true,Bool.and_self,if_true,Bool.true_and,srtT]
     rw [ih]
     congr
    ·simp only [c,c2,decide_false,Bool.and_false,if_false,Bool.false_eq_true,srtT,Bool.false_and]
  ·simp only [c,Bool.false_and,if_false,Bool.false_eq_true]
theorem srt_scan0 (p : Pg) (bd : Int) (L : List Th) : scan (vsF p bd L) L 0 = if (L.all (okT p bd) && srtT L) = true then none else some ():=srt_scan p bd L L [] rfl
theorem run106 (p : Pg) (hf : Fit p) (bd : Int) (hb : 1 ≤ bd ∧ bd ≤ 32) (s : Sa) (hs : Sb s) : K 106 [.dat (PD p),.dat (N bd),.dat (SX s)] [] = some (.dat (.bool (valS p bd s)),[]):=by
 have h1:=run165 p hf s.me hs.me
 have hth:=hs.th
 refine ce rfl ?_
 unfold valS
 cases c1 : valM p s.me <;> rw [c1] at h1
 ·simp [h1]
 have hp : chP p = 0:=by simp only [valM,Bool.and_eq_true,decide_eq_true_eq] at c1; exact c1.1.1
 rcases hbu : s.bu with _ | ⟨b,bs⟩
 rotate_left
 ·have c2 : (0 : Int) < bs.length + 1:=by omega
  simp [h1,hbu,c2]
 simp [h1,hbu]
 simp only [zaa7]
 refine (znb7 (live:=[1,3,5,21,22,23]) (drop:=[3,5,21]) s.th (vsF p bd s.th) (by have:=hs.th; omega) (fun k => ⟨[(1,.dat (N bd)),(3,.ref ((4,0),0,0) 0),(5,.ref ((6,0),0,0) 0),(21,.dat (.sl (s.th.map TD))),(22,.dat (N s.th.length)),(23,.dat (N k))],[((4,0),pbox p),((6,0),sbx s)]⟩)
  (fun q => q.1 = .exit 0 ∧ ∃ os,hd [] [] q.2 = some ⟨[],os⟩) (fun _ q => q.1 = .ret ∧ endK [.t 6] false 0 q = some (.dat (.bool false),[]))
  (fun i y s' g1 g2 g3 ix hs' => ?_) (fun s' hs' => ?_) _ (by simp [h1,hbu])).mono ?_
 ·have h2:=run166 p hf bd y (hs.ts y (List.mem_of_getElem? g1))
  rw [vldT_ok hp hb] at h2
  cases c2 : okT p bd y <;> rw [c2] at h2
  ·simp [hs',g1,g2,g3,ix,h2,vsF,c2,hbu]
  ·cases i with
   | zero =>
    have h4 : 0 < s.th.length:=by omega
    simp at hs'
    simp [hs',g1,g2,h4,h2,vsF,c2,hbu,oldT]
   | succ j =>
    obtain ⟨u,u1,u2⟩:=zib7 s.th (i:=j) (by omega)
    have w : IntKind.wrap .i64 (j : Int) = j:=wrap_i64 (by omega) (by omega)
    have wS : IntKind.wrap .i64 ((j : Int) + 1 + 1) = j + 1 + 1:=wrap_i64 (by omega) (by omega)
    have j1 : (j : Int) + 1 < s.th.length:=by omega
    have j2 : (j : Int) < s.th.length:=by omega
    have j3 : (0 : Int) < (j : Int) + 1:=by omega
    simp at hs'
    by_cases c3 : u.id < y.id
    ·have c3' : ¬ y.id ≤ u.id:=by omega
     simp [hs',g1,g2,h2,vsF,c2,hbu,oldT,u1,u2,w,wS,j1,j2,j3,c3,c3']
    ·have c3' : y.id ≤ u.id:=by omega
     simp [hs',g1,g2,h2,vsF,c2,hbu,oldT,u1,u2,w,wS,j1,j2,j3,c3,c3']
 ·simp [hs']
 ·rintro ⟨y,s'⟩ hq
  rw [srt_scan0] at hq
  rcases Bool.eq_false_or_eq_true (s.th.all (okT p bd) && srtT s.th) with c | c
  ·rw [if_pos c] at hq
   obtain ⟨rfl,os,hq⟩:=hq
   simp at c
   simp [hq,c.2]
   exact c.1
  ·rw [if_neg (by simp [c])] at hq
   obtain ⟨rfl,hq⟩:=hq
   simp at c
   simp [hq]
   exact c
end Go.Am.E

set_option maxRecDepth 10000
set_option maxHeartbeats 8000000
namespace Go.Am.E
open Go.Proofs Go.Ex Go.Rc
abbrev EV (e : Evt) : AVal:=.agg [.dat (N e.ag),.dat (N e.idx),.dat (N e.kind),.dat (N e.obj),.dat (N e.mux),.dat (N e.ent),.dat (N e.ord),.dat (N e.rd),.dat (N e.wr)]
theorem run187 (b : Bool) : K 187 [.dat (.bool b)] [] = some (.dat (N (tr b)),[]):=ce rfl (by cases b <;> simp [tr])
def waiE (t : Th) (i : In) (e : Evt) : Evt:=if t.ph = 0 then { e with kind:=12,mux:=i.n } else if t.ph = 1 then { e with kind:=13 } else { e with kind:=9,obj:=i.n }
theorem run188 (t : Th) (i : In) (e : Evt) : K 188 [.dat (TD t),.dat (ID i),.dat (ED e)] [] = some (EV (waiE t i e),[]):=by
 refine ce rfl ?_
 unfold waiE
 by_cases c1 : t.ph = 0
 ·simp [c1]
 ·by_cases c2 : t.ph = 1 <;> simp [c1,c2]
structure Pn (p : Pg) (m : Me) (i : In) : Prop where
 hp : chP p = 0
 hm : valM p m = true
 ii : ∃ n,insE p n i = 0
theorem Pn.reg {p : Pg} {m : Me} {i : In} (h : Pn p m i) : rgs i:=by
 obtain ⟨n,hn⟩:=h.ii
 exact (chI_ok (zaf7 hn).1).2.1
theorem Pn.len {p : Pg} {m : Me} {i : In} (h : Pn p m i) : frmM m = true ∧ m.va.length = p.vs.length ∧ m.ow.length = p.ms.length ∧ m.qu.length = p.cs.length:=by
 have:=h.hm
 simp only [valM,Bool.and_eq_true,decide_eq_true_eq] at this
 exact ⟨this.1.2,this.2⟩
theorem inE_in {m : Me} {i : Int} {n : Nat} (h : frmM m = true) (h0 : 0 ≤ i) (h1 : i < n) : inE m i n = 0:=by
 unfold inE
 rw [if_neg (by simp [h]),if_neg (by omega)]
theorem Pn.va {p : Pg} {m : Me} {i : In} (h : Pn p m i) (ho : i.op = 8 ∨ i.op = 9 ∨ i.op = 10 ∨ i.op = 11 ∨ i.op = 12 ∨ i.op = 14) : inE m i.o m.va.length = 0:=by
 obtain ⟨n,hn⟩:=h.ii
 obtain ⟨l1,l2,l3,l4⟩:=h.len
 have h1:=(zaf7 hn).2.2.1
 have e : nob p i.op = p.vs.length:=by unfold nob; rw [if_pos ho]
 rw [e] at h1
 have:=h1 (by omega)
 exact inE_in l1 (by omega) (by omega)
theorem Pn.ow {p : Pg} {m : Me} {i : In} (h : Pn p m i) (ho : i.op = 15 ∨ i.op = 16 ∨ i.op = 17) : inE m i.o m.ow.length = 0:=by
 obtain ⟨n,hn⟩:=h.ii
 obtain ⟨l1,l2,l3,l4⟩:=h.len
 have h1:=(zaf7 hn).2.2.1
 have e : nob p i.op = p.ms.length:=by unfold nob; rw [if_neg (by omega),if_pos ho]
 rw [e] at h1
 have:=h1 (by omega)
 exact inE_in l1 (by omega) (by omega)
theorem Pn.qu {p : Pg} {m : Me} {i : In} (h : Pn p m i) (ho : i.op = 18 ∨ i.op = 19 ∨ i.op = 20) : inE m i.o m.qu.length = 0:=by
 obtain ⟨n,hn⟩:=h.ii
 obtain ⟨l1,l2,l3,l4⟩:=h.len
 have h1:=(zaf7 hn).2.2.1
 have e : nob p i.op = p.cs.length:=by unfold nob; rw [if_neg (by omega),if_neg (by omega),if_pos ho]
 rw [e] at h1
 have:=h1 (by omega)
 exact inE_in l1 (by omega) (by omega)
def accE (m : Me) (t : Th) (i : In) (e : Evt) : Evt :=
 let v:=geti m.va i.o
 let e : Evt:={ e with ord:=i.r,rd:=v,kind:=5 }
 if i.op = 8 then { e with kind:=1 }
 else if i.op = 14 then { e with kind:=8 }
 else if i.op = 9 then { e with kind:=2,rd:=0,wr:=reg t i.b }
 else if i.op = 10 then { e with wr:=reg t i.b }
 else if i.op = 11 then { e with wr:=Go.Ex.appF 1 v (reg t i.b) }
 else if v = reg t i.b then { e with wr:=reg t i.c } else { e with kind:=6 }
theorem run190 (p : Pg) (s : Sa) (hs : Sb s) (t : Th) (i : In) (e : Evt) (h : Pn p s.me i) (ho : i.op = 8 ∨ i.op = 9 ∨ i.op = 10 ∨ i.op = 11 ∨ i.op = 12 ∨ i.op = 14) : K 190 [.dat (SX s),.dat (TD t),.dat (ID i),.dat (ED e)] [] = some (EV (accE s.me t i e),[]):=by
 have h1:=run171 s.me hs.me i.o
 unfold redP at h1
 rw [if_pos (h.va ho)] at h1
 obtain ⟨r1,r2,r3⟩:=h.reg
 refine ce rfl ?_
 unfold accE
 generalize geti s.me.va i.o = v at *
 rcases ho with o | o | o | o | o | o
 ·simp [h1,o]
 ·rw [o] at r2
  obtain ⟨j,hj,j1,j2,j3,j4⟩:=rg8 (r2 rfl)
  simp [h1,o,hj,j1,j2,j3,j4,zrb7,zkd7,reg]
 ·rw [o] at r2
  obtain ⟨j,hj,j1,j2,j3,j4⟩:=rg8 (r2 rfl)
  simp [h1,o,hj,j1,j2,j3,j4,zrb7,zkd7,reg]
 ·rw [o] at r2
  obtain ⟨j,hj,j1,j2,j3,j4⟩:=rg8 (r2 rfl)
  simp [h1,o,hj,j1,j2,j3,j4,zrb7,zkd7,reg,run172]
 ·rw [o] at r2 r3
  obtain ⟨j,hj,j1,j2,j3,j4⟩:=rg8 (r2 rfl)
  obtain ⟨k,hk,k1,k2,k3,k4⟩:=rg8 (r3 rfl)
  by_cases c : v = t.rg j <;> simp [h1,o,hj,j1,j2,j3,j4,hk,k1,k2,k3,k4,zrb7,zkd7,reg,c]
 ·simp [h1,o]
end Go.Am.E

set_option maxRecDepth 10000
set_option maxHeartbeats 8000000
namespace Go.Am.E
open Go.Proofs Go.Ex Go.Rc
theorem accL_eq (s : Sa) (t : Th) (i : In) : accL s t i = accE s.me t i ⟨t.id,t.st,0,i.o,-1,-1,0,0,0⟩:=rfl
theorem geti_q {m : Me} {c : Int} (h : inE m c m.qu.length = 0) : ∃ (k : Nat) (q : List Int),c = k ∧ k < m.qu.length ∧ (k : Int) < m.qu.length ∧ m.qu[k]? = some q ∧ (∀ h : k < m.qu.length,m.qu[k] = q) ∧ getq m c = q:=by
 obtain ⟨-,g1,g2⟩:=inE_ok h
 obtain ⟨q,q1,q2⟩:=zib7 m.qu (i:=c.toNat) (by omega)
 exact ⟨c.toNat,q,by omega,by omega,by omega,q1,q2,by unfold getq; rw [q1]; rfl⟩
theorem run123 (p : Pg) (s : Sa) (hs : Sb s) (t : Th) (ht : Tb t) (i : In) (h : Pn p s.me i) (hv : vis i.op = true) : K 123 [.dat (SX s),.dat (TD t),.dat (ID i)] [] = some (EV (labS s t i),[]):=by
 have hv : 8 ≤ i.op ∧ i.op ≤ 22:=by simpa [vis] using hv
 have h7:=run188 t i ⟨t.id,t.st,0,i.o,-1,-1,0,0,0⟩
 have r2:=h.reg.2.1
 refine ce rfl ?_
 unfold labS
 by_cases o13 : i.op = 13
 ·simp [o13]
 by_cases o15 : i.op = 15
 ·simp [o15]
 by_cases o16 : i.op = 16
 ·simp [o16]
 by_cases o17 : i.op = 17
 ·have h1:=run173 s.me hs.me i.o
  simp [o17,h1,run187]
 by_cases o18 : i.op = 18
 ·unfold waiE at h7
  by_cases c1 : t.ph = 0
  ·simp [c1] at h7
   simp [o18,c1,h7]
  ·by_cases c2 : t.ph = 1
   ·simp [c2] at h7
    simp [o18,c2,h7]
   ·simp [c1,c2] at h7
    simp [o18,c1,c2,h7]
 by_cases o19 : i.op = 19
 ·obtain ⟨k,q,hk,k1,k2,q1,q2,hq⟩:=geti_q (h.qu (by omega))
  have e : min (1 : Int) (q.length : Int) = if (q.length : Int) < 1 then (q.length : Int) else 1:=by split <;> omega
  rw [hk] at hq
  simp [o19,hk,k1,k2,q1,q2,hq,e]
 by_cases o20 : i.op = 20
 ·obtain ⟨k,q,hk,k1,k2,q1,q2,hq⟩:=geti_q (h.qu (by omega))
  rw [hk] at hq
  simp [o20,hk,k1,k2,q1,q2,hq]
 by_cases o21 : i.op = 21
 ·have h1:=run189 t ht.id
  unfold chdP at h1
  cases c : chd t <;> simp only [c] at h1 <;> simp [o21,h1]
 by_cases o22 : i.op = 22
 ·rw [o22] at r2
  obtain ⟨j,hj,j1,j2,j3,j4⟩:=rg8 (r2 rfl)
  simp [o22,hj,j1,j2,j3,j4,zrb7,zkd7,reg]
 have h9:=run190 p s hs t i ⟨t.id,t.st,0,i.o,-1,-1,0,0,0⟩ h (by omega)
 rw [← accL_eq] at h9
 simp only [ED,EDl,List.cons_append,List.nil_append] at h9
 simp only [EV,o13,o15,o16,o17,o18,o19,o20,o21,o22,if_false]
 generalize accL s t i = a at *
 simp [o13,o15,o16,o17,o18,o19,o20,o21,o22,h9]
theorem run108 (p : Pg) (s : Sa) (hs : Sb s) (t : Th) (ht : Tb t) (i : In) (h : Pn p s.me i) (hv : vis i.op = true) : K 108 [.dat (SX s),.dat (TD t),.dat (ID i)] [] = some (.dat (.bool (enaS s t i)),[]):=by
 have r2:=h.reg.2.1
 have hth:=hs.th
 refine ce rfl ?_
 unfold enaS
 by_cases o14 : i.op = 14
 ·have h1:=run171 s.me hs.me i.o
  unfold redP at h1
  rw [if_pos (h.va (by omega))] at h1
  rw [o14] at r2
  obtain ⟨j,hj,j1,j2,j3,j4⟩:=rg8 (r2 rfl)
  simp [o14,h1,run172,hj,j1,j2,j3,j4,zrb7,zkd7,reg]
 by_cases o15 : i.op = 15
 ·have h1:=run173 s.me hs.me i.o
  simp [o15,h1]
 by_cases o18 : i.op = 18
 ·have h1:=run173 s.me hs.me i.n
  have h2:=run28 s.me.sg t.id (by have:=hs.me.sg; omega)
  by_cases c1 : t.ph = 1
  ·generalize s.me.sg.contains t.id = R at *
   simp [o18,c1,h2]
  ·by_cases c2 : t.ph = 2 <;> simp [o18,c1,c2,h1]
 by_cases o22 : i.op = 22
 ·rw [o22] at r2
  obtain ⟨j,hj,j1,j2,j3,j4⟩:=rg8 (r2 rfl)
  have h1:=run129 s.th (t.rg j) (by omega)
  unfold fndP at h1
  cases c : fndT s.th (t.rg j) with
  | none =>
   simp only [c] at h1
   simp [o22,hj,j1,j2,j3,j4,zrb7,zkd7,reg,h1,c]
  | some k =>
   simp only [c] at h1
   obtain ⟨u,t1,t2⟩:=zhf7 c
   have t3:=(List.getElem?_eq_some_iff.1 t1).2
   have k1:=(List.getElem?_eq_some_iff.1 t1).1
   have k2 : (k : Int) < s.th.length:=by omega
   by_cases c2 : u.ss = 2
   ·simp [o22,hj,j1,j2,j3,j4,zrb7,zkd7,reg,h1,c,t1,t3,k1,k2,c2]
   ·by_cases c3 : u.ss = 3 <;> simp [o22,hj,j1,j2,j3,j4,zrb7,zkd7,reg,h1,c,t1,t3,k1,k2,c2,c3]
 simp [o14,o15,o18,o22]
end Go.Am.E

set_option maxRecDepth 10000
set_option maxHeartbeats 8000000
namespace Go.Am.E
open Go.Proofs Go.Ex Go.Rc
attribute [-simp] splice
attribute [local simp] zwb7
structure Vs (p : Pg) (bd : Int) (s : Sa) : Prop where
 m : valM p s.me = true
 b : s.bu = []
 t : ∀ t ∈ s.th,okT p bd t = true
 s : srtT s.th = true
theorem valS_ok {p : Pg} {bd : Int} {s : Sa} (h : valS p bd s = true) : Vs p bd s ∧ chP p = 0:=by
 simp only [valS,Bool.and_eq_true,List.all_eq_true,List.isEmpty_iff] at h
 refine ⟨⟨h.1.1.1,h.1.1.2,h.1.2,h.2⟩,?_⟩
 have:=h.1.1.1
 simp only [valM,Bool.and_eq_true,decide_eq_true_eq] at this
 exact this.1.1
theorem penT_pn {p : Pg} {m : Me} {t : Th} {i : In} (hp : chP p = 0) (hm : valM p m = true) (hb : Tb t) (h : penT p t = some i) : Pn p m i ∧ vis i.op = true ∧ t.ss = 1 ∧ okT p 32 t = true ∧ insT p t = some i:=by
 unfold penT at h
 split at h
 ·rename_i c
  obtain ⟨hfr,j,hj,hv,-⟩:=okT_run c.2 c.1
  rw [hj] at h
  obtain rfl:=Option.some.inj h
  have hr:=frmT_in hb hfr
  exact ⟨⟨hp,hm,_,(insT_ok hp hr.i hj).1⟩,hv,c.1,c.2,hj⟩
 ·cases h
def agT (p : Pg) (s : Sa) (t : Th) : Option Int:=match penT p t with
 | some i => if enaS s t i then some t.id else none
 | none => none
def ags' (p : Pg) (s : Sa) (k : Nat) : List Int:=(s.th.take k).filterMap (agT p s)
theorem ags'_len (p : Pg) (s : Sa) (k : Nat) : (ags' p s k).length ≤ s.th.length:=by
 have:=List.length_filterMap_le (agT p s) (s.th.take k)
 unfold ags'
 simp at this
 omega
theorem run70 (p : Pg) (hf : Fit p) (s : Sa) (hs : Sb s) : K 70 [.dat (PD p),.dat (SX s)] [] = some (.dat (Ns (if valS p 32 s = true then agsS p s else [])),[]):=by
 have h1:=run106 p hf 32 (by omega) s hs
 have hth:=hs.th
 refine ce rfl ?_
 cases c1 : valS p 32 s <;> rw [c1] at h1
 ·simp [h1]
 obtain ⟨V,hp⟩:=valS_ok c1
 have ea : agsS p s = ags' p s s.th.length:=by unfold agsS ags'; rw [List.take_length]; rfl
 rw [if_pos rfl,ea]
 simp [h1]
 simp only [zaa7]
 refine (zjb7 (live:=[2,3,5,15,16,17]) (drop:=[2,3,5,15]) s.th (by omega) (fun k => ⟨[(2,.ref ((3,0),0,0) 0),(3,.ref ((4,0),0,0) 0),(5,.rsl ((6,0),0,0) (ags' p s k).length 1 0 (ags' p s k).length),(15,.dat (.sl (s.th.map TD))),(16,.dat (N s.th.length)),(17,.dat (N k))],
   [((3,0),pbox p),((4,0),sbx s),((6,0),aI (ags' p s k).length (ags' p s k))]⟩)
  (fun _ q => q.1 = .exit 0 ∧ ∃ os,hd [5] [] q.2 = some ⟨[(5,.rsl ((6,0),0,0) (ags' p s s.th.length).length 1 0 (ags' p s s.th.length).length)],os⟩ ∧ gT os (6,0) = some (aI (ags' p s s.th.length).length (ags' p s s.th.length)))
  (fun i y s' g1 g2 g3 ix hs' => ?_) (fun s' hs' => ?_) _ (by simp [h1,ags'])).mono ?_
 ·have hy:=List.mem_of_getElem? g1
  have h2:=run107 p hf y (hs.ts y hy)
  rw [penP_ok hp] at h2
  have e : ags' p s (i + 1) = ags' p s i ++ (match agT p s y with | some a => [a] | none => []):=by
   unfold ags'; rw [zhe7 g1,List.filterMap_append]; congr 1
   cases c : agT p s y <;> simp [c]
  have hl:=ags'_len p s i
  have r : ((ags' p s i).length + 1) * 9 ≤ 1099511627776:=by omega
  cases c2 : penT p y with
  | none =>
   have e2 : agT p s y = none:=by unfold agT; rw [c2]
   rw [c2] at h2
   simp only [e2,List.append_nil] at e
   simp only [insP] at h2
   simp [hs',g1,g2,g3,ix,h2,e]
  | some j =>
   obtain ⟨P,hv,-,-,-⟩:=penT_pn hp V.m (hs.ts y hy) c2
   have h3:=run108 p s hs y (hs.ts y hy) j P hv
   rw [c2] at h2
   simp only [insP] at h2
   cases c3 : enaS s y j
   ·have e2 : agT p s y = none:=by unfold agT; rw [c2]; simp [c3]
    simp only [e2,List.append_nil] at e
    rw [c3] at h3
    simp [hs',g1,g2,g3,ix,h2,h3,e]
   ·have e2 : agT p s y = some y.id:=by unfold agT; rw [c2]; simp [c3]
    simp only [e2] at e
    rw [c3] at h3
    simp [hs',g1,g2,g3,ix,h2,h3,e,r]
 ·simp [hs']
 ·rintro ⟨y,s'⟩ ⟨rfl,os,hq,ho⟩
  simp [hq,ho]
end Go.Am.E

set_option maxRecDepth 10000
set_option maxHeartbeats 8000000
namespace Go.Am.E
open Go.Proofs Go.Ex Go.Rc
abbrev ED0 : Dat:=.agg [N 0,N 0,N 0,N 0,N 0,N 0,N 0,N 0,N 0]
def lblS (p : Pg) (s : Sa) (a : Int) : Option Evt:=if valS p 32 s = true then (match Go.Ex.runS p s a with
 | some (_,t,i) => some (labS s t i)
 | none => none) else none
def evP : Option Evt → AVal
 | some e => .tup [.dat (ED e),.dat (.bool true)]
 | none => .tup [.dat ED0,.dat (.bool false)]
theorem run236 (p : Pg) (hf : Fit p) (s : Sa) (hs : Sb s) (a : Int) : K 236 [.dat (PD p),.dat (SX s),.dat (N a)] [] = some (evP (lblS p s a),[]):=by
 have h1:=run106 p hf 32 (by omega) s hs
 refine ce rfl ?_
 unfold lblS
 cases c1 : valS p 32 s <;> rw [c1] at h1
 ·simp [h1,evP]
 obtain ⟨V,hp⟩:=valS_ok c1
 have h2:=run122 p hf hp s hs a
 unfold rnP at h2
 unfold Go.Ex.runS
 cases c2 : fndT s.th a with
 | none =>
  simp only [c2] at h2
  simp [h1,h2,evP]
 | some k =>
  obtain ⟨t,t1,t2⟩:=zhf7 c2
  simp only [c2,t1] at h2
  cases c3 : penT p t with
  | none =>
   simp only [c3] at h2
   simp [h1,h2,evP,t1,c3]
  | some i =>
   simp only [c3] at h2
   have ht:=hs.ts t (List.mem_of_getElem? t1)
   obtain ⟨P,hv,-,-,-⟩:=penT_pn hp V.m ht c3
   have h3:=run123 p s hs t ht i P hv
   simp [h1,h2,h3,evP,t1,c3]
theorem Mb.sq {m : Me} (h : Mb m) (c : Int) : m.sg.length + (getq m c).length < 1000000000:=by
 have h1:=h.sg
 have : (getq m c).length < 400000000:=by
  unfold getq
  cases c1 : m.qu[c.toNat]? with
  | none => simp
  | some q => exact h.qs q (List.mem_of_getElem? c1)
 omega
theorem ownM_mb {m : Me} (h : Mb m) (i v : Int) : Mb (ownM m i v):=⟨h.va,by simp [ownM]; exact h.ow,h.qu,h.qs,h.sg⟩
theorem run125e (m : Me) (h : Mb m) (t : Th) (i : In) (e : Evt) (he : effE m t e ≠ 0) : ∃ r,K 125 [.dat (MD m),.dat (TD t),.dat (ID i),.dat (ED e)] [] = some (.tup [.dat MD0,.dat (N r),.dat (N (effE m t e))],[]):=by
 unfold effE at he ⊢
 by_cases k5 : e.kind = 5
 ·simp [k5] at he
  have h1:=run183e m h e.obj e.wr he
  by_cases o : i.op = 12
  ·refine ⟨1,ce rfl ?_⟩
   simp [k5,h1,o]
  ·refine ⟨e.rd,ce rfl ?_⟩
   simp [k5,h1,o]
 by_cases k2 : e.kind = 2
 ·simp [k2] at he
  have h1:=run183e m h e.obj e.wr he
  refine ⟨0,ce rfl ?_⟩
  simp [k2,h1]
 by_cases k11 : e.kind = 11
 ·by_cases r0 : e.rd = 0
  ·simp [k11,r0] at he
  ·simp [k11,r0] at he
   have h1:=run192 m h e.obj t.id
   unfold memP at h1
   rw [if_neg he] at h1
   refine ⟨1,ce rfl ?_⟩
   simp [k11,r0,h1]
 by_cases k9 : e.kind = 9
 ·simp [k9] at he
  have h1:=run192 m h e.obj t.id
  unfold memP at h1
  rw [if_neg he] at h1
  refine ⟨0,ce rfl ?_⟩
  simp [k9,h1]
 by_cases k10 : e.kind = 10
 ·simp [k10] at he
  have h1:=run193 m h e.obj t.id
  unfold memP at h1
  rw [if_neg he] at h1
  refine ⟨0,ce rfl ?_⟩
  simp [k10,h1]
 by_cases k12 : e.kind = 12
 ·simp [k12] at he
  have h1:=run193 m h e.mux t.id
  have h2:=run194 (ownM m e.mux (-1)) (ownM_mb h e.mux (-1)) e.obj t.id
  unfold memP at h1 h2
  refine ⟨0,ce rfl ?_⟩
  by_cases c : ownE m e.mux t.id t.id = 0
  ·simp [c] at he
   rw [if_pos c] at h1
   rw [if_neg he] at h2
   simp [k12,h1,h2,c]
  ·rw [if_neg c] at h1
   simp [k12,h1,c]
 by_cases k13 : e.kind = 13
 ·simp [k13] at he
  have h1:=run195 m h t.id
  unfold memP at h1
  rw [if_neg he] at h1
  refine ⟨0,ce rfl ?_⟩
  simp [k13,h1]
 by_cases k14 : e.kind = 14
 ·simp [k14] at he
  have h1:=run196 m h e.obj (h.sq e.obj)
  unfold wakP at h1
  rw [if_neg he] at h1
  refine ⟨0,ce rfl ?_⟩
  simp [k14,h1]
 by_cases k15 : e.kind = 15
 ·simp [k15] at he
  have h1:=run197 m h e.obj (h.sq e.obj)
  unfold wakP at h1
  rw [if_neg he] at h1
  refine ⟨0,ce rfl ?_⟩
  simp [k15,h1]
 simp [k5,k2,k11,k9,k10,k12,k13,k14,k15] at he
theorem run125 (m : Me) (h : Mb m) (t : Th) (i : In) (e : Evt) (he : effE m t e = 0) : K 125 [.dat (MD m),.dat (TD t),.dat (ID i),.dat (ED e)] [] = some (.tup [.dat (MD (effM m t e)),.dat (N (resS i e)),.dat (N 0)],[]):=by
 refine ce rfl ?_
 unfold effE at he
 unfold effM resS
 by_cases k5 : e.kind = 5
 ·simp [k5] at he
  have h1:=run183 m h e.obj e.wr he
  by_cases o : i.op = 12 <;> simp [k5,h1,o,zac7,dat_own]
 by_cases k2 : e.kind = 2
 ·simp [k2] at he
  have h1:=run183 m h e.obj e.wr he
  simp [k2,h1,zac7,dat_own]
 by_cases k1 : e.kind = 1
 ·simp [k1]
 by_cases k8 : e.kind = 8
 ·simp [k8]
 by_cases k11 : e.kind = 11
 ·by_cases r0 : e.rd = 0
  ·simp [k11,r0]
  ·simp [k11,r0] at he
   have h1:=run192 m h e.obj t.id
   unfold memP at h1
   rw [if_pos he] at h1
   simp [k11,r0,h1]
 by_cases k9 : e.kind = 9
 ·simp [k9] at he
  have h1:=run192 m h e.obj t.id
  unfold memP at h1
  rw [if_pos he] at h1
  simp [k9,h1]
 by_cases k10 : e.kind = 10
 ·simp [k10] at he
  have h1:=run193 m h e.obj t.id
  unfold memP at h1
  rw [if_pos he] at h1
  simp [k10,h1]
 by_cases k12 : e.kind = 12
 ·simp [k12] at he
  have h1:=run193 m h e.mux t.id
  have h2:=run194 (ownM m e.mux (-1)) (ownM_mb h e.mux (-1)) e.obj t.id
  unfold memP at h1 h2
  by_cases c : ownE m e.mux t.id t.id = 0
  ·simp [c] at he
   rw [if_pos c] at h1
   rw [if_pos he] at h2
   simp [k12,h1,h2]
  ·simp [c] at he
 by_cases k13 : e.kind = 13
 ·simp [k13] at he
  have h1:=run195 m h t.id
  unfold memP at h1
  rw [if_pos he] at h1
  simp [k13,h1]
 by_cases k14 : e.kind = 14
 ·simp [k14] at he
  have h1:=run196 m h e.obj (h.sq e.obj)
  unfold wakP at h1
  rw [if_pos he] at h1
  simp [k14,h1]
 by_cases k15 : e.kind = 15
 ·simp [k15] at he
  have h1:=run197 m h e.obj (h.sq e.obj)
  unfold wakP at h1
  rw [if_pos he] at h1
  simp [k15,h1]
 by_cases k16 : e.kind = 16
 ·simp [k16]
 simp [k5,k2,k1,k8,k11,k9,k10,k12,k13,k14,k15,k16]
end Go.Am.E

set_option maxRecDepth 10000
set_option maxHeartbeats 8000000
namespace Go.Am.E
open Go.Proofs Go.Ex Go.Rc
@[simp] theorem cNP (p : Int × Int) : (NP p).cells.length = 2:=rfl
@[simp] theorem cBD (b : Bu) : (BD b).cells.length = 3:=rfl
theorem run191 (l : List (Int × Int)) (h : l.length < 1000000000) : K 191 [.dat (.sl (l.map NP))] [] = some (.dat (.sl (l.map NP)),[]):=by
 refine ce_split rfl rfl (fun e => ?_) (fun a m e => ?_)
 ·have : l = []:=by simpa using e
  subst this
  simp
 ·cases l with
  | nil => cases e
  | cons b l =>
   obtain ⟨rfl,rfl⟩:=List.cons.inj e
   have h2 : (l.length + 1) * 17 ≤ 1099511627776:=by simp at h; omega
   simp [h2]
abbrev nil6 : TObj:=.plain (.box [.nils,.nils,.nils,.nils,.nils,.nils])
abbrev tA (v : Nat) (l : List Th) : TObj:=.plain (.arr 17 v false (l.map TD))
abbrev bA (v : Nat) (l : List Bu) : TObj:=.plain (.arr 3 v false (l.map BD))
abbrev fQ (m : Me) : TObj:=.fam 0 m.qu.length false (m.qu.map ownC)
abbrev SV (s : Sa) : AVal:=.agg [.rsl ((0,0),0,0) 0 17 0 s.th.length,.rsl ((0,1),0,0) 0 1 0 s.me.va.length,.rsl ((0,2),0,0) 0 1 0 s.me.ow.length,.rsl ((0,3),0,0) 0 1 0 s.me.qu.length,.rsl ((0,4),0,0) 0 1 0 s.me.sg.length,.rsl ((0,5),0,0) 0 3 0 s.bu.length]
abbrev SO (s : Sa) : List TObj:=[tA 0 s.th,aI 0 s.me.va,aI 0 s.me.ow,fQ s.me,aI 0 s.me.sg,bA 0 s.bu]
abbrev X252 (s : Sa) : zta7:=[((2,0),sbx s),((3,0),nil6),((4,0),.plain (.box [.rsl ((4,1),0,0) 0 17 0 s.th.length,.rsl ((4,2),0,0) 0 1 0 s.me.va.length,.rsl ((4,3),0,0) 0 1 0 s.me.ow.length,.rsl ((4,4),0,0) 0 1 0 s.me.qu.length,.rsl ((4,5),0,0) 0 1 0 s.me.sg.length,.nils])),
 ((4,1),tA 0 s.th),((4,2),aI 0 s.me.va),((4,3),aI 0 s.me.ow),((4,4),fQ s.me),((4,5),aI 0 s.me.sg)]
abbrev X252b (s : Sa) : zta7:=[((2,0),sbx s),((3,0),nil6),((4,0),.plain (.box [.rsl ((4,1),0,0) 0 17 0 s.th.length,.rsl ((4,2),0,0) 0 1 0 s.me.va.length,.rsl ((4,3),0,0) 0 1 0 s.me.ow.length,.rsl ((4,4),0,0) 0 1 0 s.me.qu.length,.rsl ((4,5),0,0) 0 1 0 s.me.sg.length,.rsl ((4,6),0,0) 0 3 0 s.bu.length])),
 ((4,1),tA 0 s.th),((4,2),aI 0 s.me.va),((4,3),aI 0 s.me.ow),((4,4),fQ s.me),((4,5),aI 0 s.me.sg),((4,6),bA 0 s.bu)]
abbrev R252 : Env:=[(1,.ref ((2,0),0,0) 0),(2,.ref ((3,0),0,0) 0),(3,.ref ((4,0),0,0) 0)]
theorem TDl_s16 (t : Th) : List.take 16 (TDl t) ++ Ns t.hd :: List.drop 17 (TDl t) = TDl t:=rfl
theorem set_same {α : Type} {l : List α} {i : Nat} {x : α} (h : l[i]? = some x) : l.set i x = l:=by
 obtain ⟨h1,rfl⟩:=List.getElem?_eq_some_iff.1 h
 exact List.set_getElem_self h1
theorem loop124_0 (s : Sa) (hs : Sb s) (st : St) (h : hd [1,2,3,22,23] [1,2,3] st = some ⟨R252 ++ [(22,.dat (N s.th.length)),(23,.dat (N 0))],X252 s⟩) : Ev (zga7 (exec K l124_0) st) fun q => q.1 = .exit 0 ∧ hd [1,2,3] [] q.2 = some ⟨R252,X252 s⟩:=by
 refine zjb7 (live:=[1,2,3,22,23]) (drop:=[1,2,3]) s.th (by have:=hs.th; omega) (fun k => ⟨R252 ++ [(22,.dat (N s.th.length)),(23,.dat (N k))],X252 s⟩) (fun _ q => q.1 = .exit 0 ∧ hd [1,2,3] [] q.2 = some ⟨R252,X252 s⟩)
  (fun i y s' h1 h2 h3 ix hs' => ?_) (fun s' hs' => ?_) st h
 ·have hy:=(hs.ts y (List.mem_of_getElem? h1)).hd
  have h4:=run41 y.hd (by omega)
  have h5 : i < s.th.length:=by omega
  have h6 : (s.th.map TD).set i (TD y) = s.th.map TD:=set_same (by simp [h1])
  simp [hs',h1,h2,h3,h4,h5,ix,TDl_s16]
  exact h6
 ·simp [hs']
theorem loop124_1 (s : Sa) (hs : Sb s) (st : St) (h : hd [1,2,3,51,52] [1,2,3] st = some ⟨R252 ++ [(51,.dat (N s.bu.length)),(52,.dat (N 0))],X252b s⟩) : Ev (zga7 (exec K l124_1) st) fun q => q.1 = .exit 2 ∧ hd [2,3] [] q.2 = some ⟨R252.tail,X252b s⟩:=by
 refine zjb7 (live:=[1,2,3,51,52]) (drop:=[1,2,3]) s.bu (by have:=hs.bu; omega) (fun k => ⟨R252 ++ [(51,.dat (N s.bu.length)),(52,.dat (N k))],X252b s⟩) (fun _ q => q.1 = .exit 2 ∧ hd [2,3] [] q.2 = some ⟨R252.tail,X252b s⟩)
  (fun i y s' h1 h2 h3 ix hs' => ?_) (fun s' hs' => ?_) st h
 ·have hy:=(hs.bs y (List.mem_of_getElem? h1)).es
  have h4:=run191 y.es hy
  have h5 : i < s.bu.length:=by omega
  have h6 : (s.bu.map BD).set i (BD y) = s.bu.map BD:=set_same (by simp [h1])
  obtain ⟨a,b,c⟩:=y
  simp only at h4
  simp [hs',h1,h2,h3,h4,h5,ix,BD]
  exact h6
 ·simp [hs']
theorem run124 (s : Sa) (hs : Sb s) : K 124 [.dat (SX s)] [] = some (SV s,SO s):=by
 have h1:=run126 s.me hs.me
 have hth:=hs.th
 have hbu:=hs.bu
 have r1 : 152 * (s.th.length : Int) ≤ 1099511627776:=by omega
 have r2 : (s.th.length : Int) ≤ 1099511627776:=by omega
 have r3 : 40 * (s.bu.length : Int) ≤ 1099511627776:=by omega
 have r4 : (s.bu.length : Int) ≤ 1099511627776:=by omega
 refine ce rfl ?_
 simp [h1,r1,r2]
 simp only [zaa7]
 refine (loop124_0 s hs _ (by simp [h1,r1,r2])).mono ?_
 rintro ⟨y,s'⟩ ⟨rfl,hq⟩
 simp [hq,r3,r4]
 simp only [zaa7]
 refine (loop124_1 s hs _ (by simp [hq,r3,r4])).mono ?_
 rintro ⟨y,s'⟩ ⟨rfl,hq⟩
 simp [hq]
end Go.Am.E

set_option maxRecDepth 10000
set_option maxHeartbeats 8000000
namespace Go.Am.E
open Go.Proofs Go.Ex Go.Rc
def posT (id : Int) : List Th → Nat
 | [] => 0
 | t :: r => if t.id < id then posT id r + 1 else 0
theorem posT_le (id : Int) : ∀ l : List Th,posT id l ≤ l.length
 | [] => Nat.le_refl _
 | t :: r => by
  have:=posT_le id r
  simp only [posT,List.length_cons]
  split <;> omega
theorem putT_eq (c : Th) : ∀ l : List Th,putT c l = l.take (posT c.id l) ++ c :: l.drop (posT c.id l)
 | [] => rfl
 | t :: r => by
  have:=putT_eq c r
  simp only [putT,posT]
  split
  ·simp [this]
  ·rfl
def psF (id : Int) (i : Nat) (t : Th) : Option Nat:=if t.id < id then none else some i
theorem psF_scan (id : Int) : ∀ (l : List Th) (k : Nat),(match scan (psF id) l k with | some i => i | none => k + l.length) = k + posT id l
 | [],k => rfl
 | t :: r,k => by
  have ih:=psF_scan id r (k + 1)
  by_cases c : t.id < id
  ·simp only [scan,psF,c,if_true,posT,List.length_cons]
   rw [show k + (r.length + 1) = k + 1 + r.length by omega,ih]
   omega
  ·simp only [scan,psF,c,if_false,posT]
   rfl
abbrev NV6 : AVal:=.agg [.nils,.nils,.nils,.nils,.nils,.nils]
theorem decL_dat (ρ : Look) : ∀ {l : List Dat},(∀ d ∈ l,d.isAgg = false) → zoa7 ρ (l.map AVal.dat) = some (l,[])
 | [],_ => rfl
 | d :: r,h => by
  have ih:=decL_dat ρ (l:=r) fun x hx => h x (by simp [hx])
  simp only [List.map_cons,zoa7,zkb7,ih,h d (by simp)]
  simp
@[simp] theorem TDc_decL (ρ : Look) (t : Th) : zoa7 ρ (TDc t) = some (TDl t,[]):=decL_dat ρ (TDl_noagg t)
abbrev B255 (p : Pg) (s : Sa) (t : Th) : zta7:=[((0,0),tA 0 s.th),((0,1),aI 0 s.me.va),((0,2),aI 0 s.me.ow),((0,3),fQ s.me),((0,4),aI 0 s.me.sg),((0,5),bA 0 s.bu),((7,0),pbox p),
 ((9,0),.plain (.box [.rsl ((0,0),0,0) 0 17 0 s.th.length,.rsl ((0,1),0,0) 0 1 0 s.me.va.length,.rsl ((0,2),0,0) 0 1 0 s.me.ow.length,.rsl ((0,3),0,0) 0 1 0 s.me.qu.length,.rsl ((0,4),0,0) 0 1 0 s.me.sg.length,.rsl ((0,5),0,0) 0 3 0 s.bu.length])),
 ((13,0),nil6),((17,0),.plain (.box (TDc t)))]
abbrev E255 (id : Int) : Env:=[(3,.dat (N id)),(8,.ref ((9,0),0,0) 0),(12,.ref ((13,0),0,0) 0),(16,.ref ((17,0),0,0) 0)]
abbrev E255' : Env:=[(8,.ref ((9,0),0,0) 0),(12,.ref ((13,0),0,0) 0),(16,.ref ((17,0),0,0) 0)]
def Q255 (p : Pg) (s : Sa) (t : Th) (k : Nat) (q : AEx × St) : Prop:=q.1 = .exit 0 ∧ hd [8,12,16,18] [] q.2 = some ⟨E255' ++ [(18,.dat (N k))],B255 p s t⟩
theorem loop127 (p : Pg) (s : Sa) (hl : s.th.length < 1000000000) (t : Th) (id : Int) (st : St) (h : hd [3,8,12,16,18] [] st = some ⟨E255 id ++ [(18,.dat (N 0))],B255 p s t⟩) : Ev (zga7 (exec K l127_0) st) (Q255 p s t (posT id s.th)):=by
 have e:=psF_scan id s.th 0
 simp only [Nat.zero_add] at e
 rw [← e]
 refine (znb7 (live:=[3,8,12,16,18]) (drop:=[]) s.th (psF id) (by omega) (fun k => ⟨E255 id ++ [(18,.dat (N k))],B255 p s t⟩) (Q255 p s t s.th.length) (fun k => Q255 p s t k)
  (fun i y s' h1 h2 h3 ix hs' => ?_) (fun s' hs' => ?_) st h).mono ?_
 ·by_cases c : y.id < id <;> simp [hs',h1,h2,h3,ix,psF,c,Q255]
 ·simp [hs',Q255]
 ·intro q hq
  cases c : scan (psF id) s.th 0 <;> rw [c] at hq <;> exact hq
theorem run127e (p : Pg) (hf : Fit p) (bd : Int) (s : Sa) (hs : Sb s) (id fn arg : Int) (hid : id < 100000000000000) (he : (fndT s.th id).isSome = true ∨ newE p bd id fn arg ≠ 0) : K 127 [.dat (PD p),.dat (N bd),SV s,.dat (N id),.dat (N fn),.dat (N arg)] (SO s) = some (.tup [NV6,.dat (N 30)],SO s):=by
 have h1:=run129 s.th id (by have:=hs.th; omega)
 have h2:=run93 p hf bd id fn arg hid
 unfold fndP at h1
 unfold newP at h2
 refine ce rfl ?_
 cases c1 : fndT s.th id with
 | some k =>
  simp only [c1] at h1
  simp [h1]
 | none =>
  rw [c1] at he
  simp only [c1] at h1
  have he : newE p bd id fn arg ≠ 0:=by simpa using he
  rw [if_neg he] at h2
  simp [h1,h2,he]
theorem cpy_list {α : Type} (T : List α) (n k : Nat) (z c : α) (hn : T.length = n) (hk : k ≤ n) : List.take (k + 1) (List.take k T ++ (List.replicate (n + 1 - k) z).set 0 c) ++ (List.drop k T ++ List.drop (k + 1 + (n - k)) (List.take k T ++ (List.replicate (n + 1 - k) z).set 0 c)) = List.take k T ++ c :: List.drop k T:=by
 have e : n + 1 - k = (n - k) + 1:=by omega
 have hl : (List.take k T).length = k:=by simp; omega
 rw [e,List.replicate_succ,List.set_cons_zero]
 have h1 : List.take (k + 1) (List.take k T ++ c :: List.replicate (n - k) z) = List.take k T ++ [c]:=by
  rw [List.take_append,hl,show k + 1 - k = 1 by omega,List.take_of_length_le (by omega)]
  rfl
 have h2 : List.drop (k + 1 + (n - k)) (List.take k T ++ c :: List.replicate (n - k) z) = []:=List.drop_of_length_le (by rw [List.length_append,hl,List.length_cons,List.length_replicate]; omega)
 rw [h1,h2]
 simp
abbrev SV7 (s : Sa) (l : List Th) : AVal:=.agg [.rsl ((0,6),0,0) 0 17 0 l.length,.rsl ((0,1),0,0) 0 1 0 s.me.va.length,.rsl ((0,2),0,0) 0 1 0 s.me.ow.length,.rsl ((0,3),0,0) 0 1 0 s.me.qu.length,.rsl ((0,4),0,0) 0 1 0 s.me.sg.length,.rsl ((0,5),0,0) 0 3 0 s.bu.length]
theorem run127 (p : Pg) (hf : Fit p) (bd : Int) (s : Sa) (hs : Sb s) (id fn arg : Int) (hid : id < 100000000000000) (h0 : fndT s.th id = none) (he : newE p bd id fn arg = 0) (hn : (newT p bd id fn arg).id = id) : K 127 [.dat (PD p),.dat (N bd),SV s,.dat (N id),.dat (N fn),.dat (N arg)] (SO s) = some (.tup [SV7 s (putT (newT p bd id fn arg) s.th),.dat (N 0)],SO s ++ [tA 0 (putT (newT p bd id fn arg) s.th)]):=by
 have h1:=run129 s.th id (by have:=hs.th; omega)
 have h2:=run93 p hf bd id fn arg hid
 unfold fndP at h1
 unfold newP at h2
 have hth:=hs.th
 rw [if_pos he] at h2
 simp only [h0] at h1
 rw [putT_eq,hn]
 generalize newT p bd id fn arg = t at *
 refine ce rfl ?_
 simp [h1,h2]
 simp only [zaa7]
 refine (loop127 p s hth t id _ (by simp [h1,h2])).mono ?_
 have hle:=posT_le id s.th
 generalize posT id s.th = k at *
 rintro ⟨y,s'⟩ ⟨rfl,hq⟩
 have w1 : IntKind.wrap .i64 ((s.th.length : Int) + 1) = s.th.length + 1:=wrap_i64 (by omega) (by omega)
 have w2 : IntKind.wrap .i64 ((k : Int) + 1) = k + 1:=wrap_i64 (by omega) (by omega)
 have r1 : 152 * ((s.th.length : Int) + 1) ≤ 1099511627776:=by omega
 have r2 : (s.th.length : Int) + 1 ≤ 1099511627776:=by omega
 have k1 : k ≤ s.th.length + 1:=by omega
 have k2 : k < s.th.length + 1:=by omega
 have k3 : (k : Int) < s.th.length + 1:=by omega
 have k4 : (k : Int) + 1 ≤ s.th.length + 1:=by omega
 have k5 : (k : Int) ≤ s.th.length:=by omega
 have k6 : ((s.th.length : Int) + 1 - (k + 1)).toNat = s.th.length - k:=by omega
 have k7 : ((s.th.length : Int) - k).toNat = s.th.length - k:=by omega
 have k8 : k + 1 + (s.th.length - k) ≤ s.th.length + 1:=by omega
 simp [hq,w1,w2,r1,r2,hle,k1,k2,k3,k4,k5,k6,k7,k8]
 exact ⟨by omega,cpy_list (s.th.map TD) s.th.length k _ _ (by simp) hle⟩
end Go.Am.E

set_option maxRecDepth 10000
set_option maxHeartbeats 8000000
namespace Go.Am.E
open Go.Proofs Go.Ex Go.Rc
theorem setl_same (p : Pg) (bd : Int) : ∀ (k : Nat) (t : Th),(setl p bd k t).id = t.id ∧ (setl p bd k t).fn = t.fn ∧ (setl p bd k t).hd = t.hd
 | k,t => by
  rw [setl]
  split
  ·exact ⟨rfl,rfl,rfl⟩
  ·rename_i i hi
   split
   ·split
    ·exact ⟨rfl,rfl,rfl⟩
    ·split <;> exact ⟨rfl,rfl,rfl⟩
   ·cases k with
    | zero => exact ⟨rfl,rfl,rfl⟩
    | succ k =>
     have h:=locT_same t i
     simp only
     split
     ·rename_i t' hl
      rw [hl] at h
      have ih:=setl_same p bd k t'
      exact ⟨ih.1.trans h.1,ih.2.1.trans h.2.1,ih.2.2.trans h.2.2⟩
     ·rename_i t' hl
      rw [hl] at h
      exact h
theorem dpt_mono : ∀ {k : Nat} {id : Int} {d : Nat},dpt k id = some d → ∀ j,d < j → dpt j id = some d
 | 0,id,d,h,j,hj => by simp [dpt] at h
 | k + 1,id,d,h,0,hj => by omega
 | k + 1,id,d,h,j + 1,hj => by
  simp only [dpt] at h ⊢
  split at h
  ·rename_i c; rw [if_pos c]; exact h
  ·rename_i c
   rw [if_neg c]
   split at h
   ·cases h
   ·rename_i c2
    rw [if_neg c2]
    cases hd : dpt k (id / 8 - 1) with
    | none => rw [hd] at h; cases h
    | some e =>
     rw [hd] at h
     simp only [Option.map_some,Option.some.injEq] at h
     rw [dpt_mono hd j (by omega)]
     simp [h]
theorem chd_dep {t : Th} {c : Int} (h : chd t = some c) : dep c ≠ none ∧ 0 ≤ c ∧ c < 10000000:=by
 unfold chd at h
 split at h
 ·rename_i d hd
  split at h
  ·cases h
  ·rename_i hc
   simp only [Option.some.injEq] at h
   subst h
   unfold dep at hd
   split at hd
   ·cases hd
   ·rename_i h0
    have hb:=dep_bd hd
    have h4 : dpt 4 t.id = some d:=dpt_mono hd 4 (by omega)
    have h0' : ¬ (8 * (t.id + 1) + t.ch < 0):=by omega
    refine ⟨?_,by omega,by omega⟩
    unfold dep
    rw [if_neg h0']
    have h1 : ¬ (8 * (t.id + 1) + t.ch < 8):=by omega
    have h2 : ¬ (7 ≤ (8 * (t.id + 1) + t.ch) % 8):=by omega
    have h3 : (8 * (t.id + 1) + t.ch) / 8 - 1 = t.id:=by omega
    simp only [dpt,if_neg h1,if_neg h2,h3]
    simp only [dpt] at h4
    rw [h4]
    simp
 ·cases h
theorem obs_spawn {t : Th} {i : In} (h : obs t i = 0) (ho : i.op = 21) (hph : t.ph = 0) : ∃ c,chd t = some c:=by
 unfold obs at h
 simp [ho,hph] at h
 cases hc : chd t with
 | none => simp [hc] at h
 | some c => exact ⟨c,rfl⟩
theorem okV_iff' (n : Int) : okV n = true ↔ -2147483648 ≤ n ∧ n ≤ 2147483647:=by simp [okV]
theorem geti_ok {p : Pg} {m : Me} {i : In} (h : Pn p m i) (ho : i.op = 8 ∨ i.op = 9 ∨ i.op = 10 ∨ i.op = 11 ∨ i.op = 12 ∨ i.op = 14) : okV (geti m.va i.o) = true:=by
 obtain ⟨hfm,g1,g2⟩:=inE_ok (h.va ho)
 obtain ⟨k,hk,k1,k2,k3,k4⟩:=geti_get g1 g2
 rw [frmM_eq] at hfm
 simp only [Bool.and_eq_true,List.all_eq_true] at hfm
 exact hfm.1.1.2 _ (List.mem_of_getElem? k3)
theorem res_ok {p : Pg} {s : Sa} {t : Th} {i : In} (h : Pn p s.me i) (hv : vis i.op = true) (hc : ∀ c,chd t = some c → okV c = true) : okV (resS i (labS s t i)) = true:=by
 have hv : 8 ≤ i.op ∧ i.op ≤ 22:=by simpa [vis] using hv
 have z0 : okV 0 = true:=rfl
 have z1 : okV 1 = true:=rfl
 by_cases ha : i.op = 8 ∨ i.op = 9 ∨ i.op = 10 ∨ i.op = 11 ∨ i.op = 12 ∨ i.op = 14
 ·have hg:=geti_ok h ha
  have e : labS s t i = accL s t i:=by
   unfold labS
   rw [if_neg (by omega),if_neg (by omega),if_neg (by omega),if_neg (by omega),if_neg (by omega),if_neg (by omega),if_neg (by omega),if_neg (by omega),if_neg (by omega)]
  rw [e,accL_eq]
  unfold accE resS
  rcases ha with o | o | o | o | o | o <;> simp only [o] <;> simp [hg,z0]
  split <;> simp [z1,z0]
 ·have : i.op = 13 ∨ i.op = 15 ∨ i.op = 16 ∨ i.op = 17 ∨ i.op = 18 ∨ i.op = 19 ∨ i.op = 20 ∨ i.op = 21 ∨ i.op = 22:=by omega
  unfold labS resS
  rcases this with o | o | o | o | o | o | o | o | o <;> simp only [o] <;> simp [z0]
  ·split <;> simp [z0,z1]
  ·split
   ·simp [z0]
   ·split <;> simp [z0]
  ·cases c : chd t with
   | none => simp [z0]
   | some c' => simpa using hc c' c
end Go.Am.E

set_option maxRecDepth 10000
set_option maxHeartbeats 16000000
namespace Go.Am.E
open Go.Proofs Go.Ex Go.Rc
def stepR (r : Res) : AVal × List TObj:=if r.1 = 0 then (.tup [SV r.2.1,EV r.2.2,.dat (N 0)],SO r.2.1) else (.tup [NV6,EV noEv,.dat (N r.1)],[])
theorem cmpT_id {p : Pg} {bd : Int} {t : Th} {v : Int} : (cmpT p bd t v).id = t.id:=by
 unfold cmpT
 split
 ·rw [(setl_same _ _ _ _).1,(nxtT_same _ _ _).2.1]
 ·rfl
theorem newT_id (p : Pg) (bd id fn arg : Int) : (newT p bd id fn arg).id = id:=by
 unfold newT
 rw [(setl_same _ _ _ _).1]
 rfl
theorem fndT_putT {c : Th} {a : Int} : ∀ {l : List Th} {k : Nat},fndT l a = some k → ∃ j,fndT (putT c l) a = some j
 | t :: r,k,h => by
  simp only [putT]
  split
  ·simp only [fndT] at h ⊢
   split at h
   ·rename_i e; exact ⟨0,if_pos e⟩
   ·rename_i e
    cases hr : fndT r a with
    | none => rw [hr] at h; cases h
    | some j =>
     obtain ⟨m,hm⟩:=fndT_putT (c:=c) hr
     exact ⟨m + 1,by rw [if_neg e,hm]; rfl⟩
  ·simp only [fndT]
   split
   ·exact ⟨0,rfl⟩
   ·simp only [fndT] at h
    split at h
    ·rename_i e; exact ⟨1,by rw [if_pos e]; rfl⟩
    ·rename_i e
     cases hr : fndT r a with
     | none => rw [hr] at h; cases h
     | some j => exact ⟨j + 2,by rw [if_neg e]; rfl⟩
theorem lab_spawn {s : Sa} {t : Th} {i : In} (hv : vis i.op = true) (h : (labS s t i).kind = 16) : i.op = 21 ∧ (labS s t i).obj = (chd t).getD 0:=by
 have hv : 8 ≤ i.op ∧ i.op ≤ 22:=by simpa [vis] using hv
 by_cases o : i.op = 21
 ·refine ⟨o,?_⟩
  unfold labS
  simp [o]
 ·exfalso
  have : i.op = 8 ∨ i.op = 9 ∨ i.op = 10 ∨ i.op = 11 ∨ i.op = 12 ∨ i.op = 13 ∨ i.op = 14 ∨ i.op = 15 ∨ i.op = 16 ∨ i.op = 17 ∨ i.op = 18 ∨ i.op = 19 ∨ i.op = 20 ∨ i.op = 22:=by omega
  rcases this with o | o | o | o | o | o | o | o | o | o | o | o | o | o <;> simp [labS,accL,o] at h
  ·split at h <;> simp at h
  ·split at h
   ·simp at h
   ·split at h <;> simp at h
theorem frmT_ph {p : Pg} {bd : Int} {t : Th} {i : In} (h : frmT p bd t = true) (hi : insT p t = some i) (ho : i.op ≠ 18) : t.ph = 0:=by
 unfold frmT at h
 split at h
 ·cases h
 ·rw [hi] at h
  simp only [Bool.and_eq_true,Bool.or_eq_true,decide_eq_true_eq] at h
  rcases h.2 with h | h
  ·exact h
  ·exact absurd h.2.1 ho
theorem newE_ok {p : Pg} {bd : Int} {s : Sa} {t : Th} {i : In} {c : Int} (h0 : stdE p bd = 0) (P : Pn p s.me i) (ho : i.op = 21) (F : Fr p bd t) (hc : dep c ≠ none) : newE p bd c i.o (reg t i.b) = 0:=by
 obtain ⟨n,hn⟩:=P.ii
 have h1:=(zaf7 hn).2.2.1
 have e : nob p i.op = p.fs.length:=by unfold nob; rw [if_neg (by omega),if_neg (by omega),if_neg (by omega),if_pos ho]
 rw [e] at h1
 have h2:=h1 (by omega)
 have hr:=P.reg.2.1 (by rw [ho]; rfl)
 obtain ⟨j,hj,j1,-⟩:=rg8 hr
 have hv : okV (reg t i.b) = true:=okV_iff.2 (by unfold reg; rw [hj]; exact F.rg _ (by simpa using j1))
 unfold newE
 rw [if_neg (by simp [h0]),if_neg hc,if_neg (by omega),hv]
 rfl
theorem run85 (p : Pg) (hf : Fit p) (bd : Int) (s : Sa) (hs : Sb s) (a : Int) (hM : ∀ t E,effE s.me t E = 0 → Mb (effM s.me t E)) : K 85 [.dat (PD p),.dat (N bd),.dat (SX s),.dat (N a)] [] = some (stepR (stpS p bd s a)):=by
 have h1:=run91 p bd hf
 have hth:=hs.th
 refine ce rfl ?_
 unfold stpS
 rcases Classical.propComplete (stdE p bd = 0) with c1 | c1
 rotate_left
 ·have c1' : ¬ stdE p bd = 0:=by rw [c1]; trivial
  rw [if_pos c1']
  simp [stepR,bad,noEv,h1,c1]
 have c1' : stdE p bd = 0:=by rw [c1]; trivial
 rw [if_neg (by simp [c1'])]
 obtain ⟨hp,hb⟩:=zvc7 c1'
 have h2:=run106 p hf bd hb s hs
 cases c2 : valS p bd s <;> rw [c2] at h2
 ·simp [stepR,bad,noEv,h1,h2,c1]
 rw [if_neg (by simp)]
 obtain ⟨V,-⟩:=valS_ok c2
 have h3:=run122 p hf hp s hs a
 unfold rnP at h3
 unfold Go.Ex.runS
 cases c3 : fndT s.th a with
 | none =>
  simp only [c3] at h3
  simp [stepR,bad,noEv,h1,h2,h3,c1]
 | some k =>
  obtain ⟨t,t1,t2⟩:=zhf7 c3
  simp only [c3,t1] at h3
  have ht:=hs.ts t (List.mem_of_getElem? t1)
  cases c4 : penT p t with
  | none =>
   simp only [c4] at h3
   simp [stepR,bad,noEv,h1,h2,h3,c1,t1,c4]
  | some i =>
   simp only [c4] at h3
   obtain ⟨P,hv,hss,hok,hins⟩:=penT_pn hp V.m ht c4
   have h4:=run108 p s hs t ht i P hv
   cases c5 : enaS s t i <;> rw [c5] at h4
   ·simp [stepR,bad,noEv,h1,h2,h3,h4,c1,t1,c4,c5]
   have h5:=run123 p s hs t ht i P hv
   have h6:=run124 s hs
   simp only [t1,c4,c5]
   rw [if_neg (by simp)]
   generalize hE : labS s t i = E at *
   by_cases c6 : effE s.me t E = 0
   ·have h7:=run125 s.me hs.me t i E c6
    have hm:=hM t E c6
    have h8:=run126 (effM s.me t E) hm
    have hr : okV (resS i E) = true:=by rw [← hE]; exact res_ok P hv fun c hc => (okV_iff' c).2 (by have:=(chd_dep hc).2; omega)
    have h9:=run128 p hf bd t ht (resS i E)
    have hc0 : Go.Ex.cmpE p bd t (resS i E) = 0:=by
     unfold Go.Ex.cmpE
     rw [if_neg (by simp [c1']),if_neg (by rw [V.t t (List.mem_of_getElem? t1)]; simp),if_neg (by simp [hss]),hr]
     rfl
    unfold cmpPr at h9
    rw [if_pos hc0] at h9
    rw [if_neg (by simp [c6])]
    have hid : (cmpT p bd t (resS i E)).id = a:=by rw [cmpT_id,t2]
    generalize hR : resS i E = R at *
    generalize cmpT p bd t R = t' at *
    generalize effM s.me t E = m' at *
    have vb:=V.b
    by_cases c7 : E.kind = 16
    ·rw [← hE] at c7
     obtain ⟨o21,hobj⟩:=lab_spawn hv c7
     rw [hE] at c7 hobj
     obtain ⟨hfr,j0,hj0,-,hobs,-⟩:=okT_run hok hss
     rw [hins] at hj0
     obtain rfl:=Option.some.inj hj0
     have hph : t.ph = 0:=frmT_ph hfr hins (by omega)
     obtain ⟨c,hc⟩:=obs_spawn hobs o21 hph
     have hobj : E.obj = c:=by rw [hobj,hc]; rfl
     have hcd:=chd_dep hc
     have hnE : newE p bd E.obj i.o (reg t i.b) = 0:=newE_ok c1' P o21 (frmT_fr hp (okT_run (V.t t (List.mem_of_getElem? t1)) hss).1) (by rw [hobj]; exact hcd.1)
     have c7' : (E.kind = 16) = True:=by simp [c7]
     have S1 : Sb { s with me:=m' }:=⟨hs.th,hs.ts,hm,hs.bu,hs.bs⟩
     obtain ⟨j,hj,j1,j2,j3,j4⟩:=rg8 (P.reg.2.1 (by rw [o21]; rfl))
     have hrg : reg t i.b = t.rg j:=by unfold reg; rw [hj]; rfl
     rw [hrg] at hnE ⊢
     cases c8 : fndT s.th E.obj with
     | some k8 =>
      have h11:=run127e p hf bd { s with me:=m' } S1 E.obj i.o (t.rg j) (by omega) (.inl (by simp [c8]))
      rw [if_pos ⟨c7,by simp [c8]⟩]
      simp [stepR,bad,noEv,h1,h2,h3,h4,h5,h6,h7,h8,h11,c1,c6,c7',zac7,zfe7,hj,j1,j2,j3,j4,zrb7,zkd7]
     | none =>
      have h11:=run127 p hf bd { s with me:=m' } S1 E.obj i.o (t.rg j) (by omega) c8 hnE (newT_id ..)
      rw [if_neg (by simp [c8]),if_pos c7]
      generalize newT p bd E.obj i.o (t.rg j) = c' at *
      obtain ⟨k',hk'⟩:=fndT_putT (c:=c') c3
      obtain ⟨u,u1,-⟩:=zhf7 hk'
      have hlen : (putT c' s.th).length = s.th.length + 1:=by rw [putT_eq]; simp; have:=posT_le c'.id s.th; omega
      have h10:=run129 (putT c' s.th) a (by omega)
      unfold fndP at h10
      simp only [hk'] at h10
      have e1 : repT t' (putT c' s.th) = (putT c' s.th).set k' t':=by unfold repT; rw [hid,hk']
      have k1:=(List.getElem?_eq_some_iff.1 u1).1
      have k2 : (k' : Int) < (putT c' s.th).length:=by omega
      have u3:=(List.getElem?_eq_some_iff.1 u1).2
      have dr : List.drop 17 (TDl u) = []:=List.drop_of_length_le (by simp)
      rw [e1]
      simp only at h11
      generalize putT c' s.th = L at *
      simp [stepR,bad,noEv,h1,h2,h3,h4,h5,h6,h7,h8,h9,h10,h11,c1,c6,c7',zac7,zfe7,hj,j1,j2,j3,j4,zrb7,zkd7,u1,u3,k1,k2,dr]
      exact vb
    ·rw [if_neg (by simp [c7]),if_neg c7]
     have h10:=run129 s.th a (by omega)
     unfold fndP at h10
     simp only [c3] at h10
     have e1 : repT t' s.th = s.th.set k t':=by unfold repT; rw [hid,c3]
     have k1:=(List.getElem?_eq_some_iff.1 t1).1
     have k2 : (k : Int) < s.th.length:=by omega
     have t3:=(List.getElem?_eq_some_iff.1 t1).2
     have dr : List.drop 17 (TDl t) = []:=List.drop_of_length_le (by simp)
     rw [e1]
     simp [stepR,bad,noEv,h1,h2,h3,h4,h5,h6,h7,h8,h9,h10,c1,c6,c7,zac7,zfe7,t1,t3,k1,k2,dr]
     simp [vb]
   ·obtain ⟨r,h7⟩:=run125e s.me hs.me t i E c6
    rw [if_pos c6]
    have c6' : (effE s.me t E = 0) = False:=by simp [c6]
    simp [stepR,bad,noEv,h1,h2,h3,h4,h5,h6,h7,c1,c6',zac7,zfe7]
end Go.Am.E

set_option maxRecDepth 10000
set_option maxHeartbeats 16000000
namespace Go.Am.E
open Go.Proofs Go.Ex Go.Rc
def thS (p : Pg) (bd : Int) : List Th:=(p.ts.zipIdx).map fun t => newT p bd t.2 t.1.1 t.1.2
theorem thS_get {p : Pg} {bd : Int} {i : Nat} {t : Int × Int} (h : p.ts[i]? = some t) : (thS p bd)[i]? = some (newT p bd i t.1 t.2):=by
 unfold thS
 rw [List.getElem?_map,List.getElem?_zipIdx,h]
 simp
@[simp] theorem thS_len (p : Pg) (bd : Int) : (thS p bd).length = p.ts.length:=by simp [thS]
abbrev mc (m : Me) : List AVal:=[.dat (Ns m.va),.dat (Ns m.ow),.dat (.sl (m.qu.map Ns)),.dat (Ns m.sg)]
def X114 (p : Pg) (bd : Int) : Nat → zta7
 | 0 => [((3,0),pbox p),((5,0),nil6),((10,0),.plain (.box [.nils,.dat (Ns (newM p).va),.dat (Ns (newM p).ow),.dat (.sl ((newM p).qu.map Ns)),.dat (Ns (newM p).sg),.nils]))]
 | k + 1 => [((3,0),pbox p),((5,0),nil6),((10,0),.plain (.box [.rsl ((10,1),0,0) k 17 0 (k + 1),.dat (Ns (newM p).va),.dat (Ns (newM p).ow),.dat (.sl ((newM p).qu.map Ns)),.dat (Ns (newM p).sg),.nils])),((10,1),tA k ((thS p bd).take (k + 1)))]
abbrev E114 (p : Pg) (bd : Int) (k : Nat) : Env:=[(1,.dat (N bd)),(2,.ref ((3,0),0,0) 0),(4,.ref ((5,0),0,0) 0),(9,.ref ((10,0),0,0) 0),(33,.dat (.sl (p.ts.map NP))),(34,.dat (N p.ts.length)),(35,.dat (N k))]
theorem chP_thr {p : Pg} (h : chP p = 0) : 1 ≤ p.ts.length ∧ p.ts.length ≤ 8 ∧ ∀ t ∈ p.ts,0 ≤ t.1 ∧ t.1 < p.fs.length ∧ okV t.2 = true:=by
 have h1:=zgf7 h (thrE p) (by simp)
 unfold thrE at h1
 split at h1
 ·cases h1
 ·refine ⟨by omega,by omega,fun t ht => ?_⟩
  have h2:=zgf7 h1 (stE p t) (List.mem_map.2 ⟨t,ht,rfl⟩)
  unfold stE at h2
  split at h2
  ·cases h2
  ·split at h2
   ·cases h2
   ·rename_i a b
    exact ⟨by omega,by omega,by simpa using b⟩
theorem newE_st {p : Pg} {bd : Int} (h0 : stdE p bd = 0) {i : Nat} {t : Int × Int} (h : p.ts[i]? = some t) : newE p bd i t.1 t.2 = 0:=by
 obtain ⟨h1,h2,h3⟩:=chP_thr (zvc7 h0).1
 obtain ⟨g1,g2,g3⟩:=h3 t (List.mem_of_getElem? h)
 have hi:=(List.getElem?_eq_some_iff.1 h).1
 have hd : dep (i : Int) ≠ none:=by
  unfold dep
  rw [if_neg (by omega)]
  simp only [dpt]
  rw [if_pos (by omega)]
  simp
 unfold newE
 rw [if_neg (by simp [h0]),if_neg hd,if_neg (by omega),g3]
 rfl
theorem run57 (p : Pg) (hf : Fit p) (bd : Int) (h0 : stdE p bd = 0) : K 57 [.dat (PD p),.dat (N bd)] [] = some (.tup [.agg (.rsl ((0,0),0,0) (p.ts.length - 1) 17 0 p.ts.length :: mc (newM p) ++ [.nils]),.dat (N 0)],[tA (p.ts.length - 1) (thS p bd)]):=by
 have h1:=run91 p bd hf
 have h2:=run92 p hf
 have hp:=(zvc7 h0).1
 unfold newP' at h2
 rw [if_pos hp] at h2
 obtain ⟨l1,l2,l3⟩:=chP_thr hp
 refine ce rfl ?_
 simp [h1,h2,h0]
 simp only [zaa7]
 refine (zjb7 (live:=[1,2,4,9,33,34,35]) (drop:=[2,4,9,33]) p.ts (by omega) (fun k => ⟨E114 p bd k,X114 p bd k⟩) (fun _ q => q.1 = .exit 0 ∧ hd [4,9] [] q.2 = some ⟨[(4,.ref ((5,0),0,0) 0),(9,.ref ((10,0),0,0) 0)],X114 p bd p.ts.length⟩)
  (fun i y s g1 g2 g3 ix hs => ?_) (fun s hs => ?_) _ (by simp [h1,h2,h0,X114])).mono ?_
 ·have h3:=run93 p hf bd i y.1 y.2 (by omega)
  unfold newP at h3
  rw [if_pos (newE_st h0 g1)] at h3
  have e:=zhe7 (thS_get (bd:=bd) g1)
  obtain ⟨fn,arg⟩:=y
  simp only at h3 e
  cases i with
  | zero =>
   have h4 : 0 < p.ts.length:=by omega
   simp [X114,E114] at hs
   simp at h3 e
   simp [hs,X114,g1,g2,h4,NP,h3,e]
  | succ i =>
   have hr : (i + 1 + 1) * 153 ≤ 1099511627776:=by omega
   have h4 : i + 1 < p.ts.length:=by omega
   have h5 : (i : Int) + 1 < p.ts.length:=by omega
   have h6 : i + 1 ≤ p.ts.length:=by omega
   have h7 : min (i + 1) p.ts.length = i + 1:=by omega
   have wS : IntKind.wrap .i64 ((i : Int) + 1 + 1) = i + 1 + 1:=wrap_i64 (by omega) (by omega)
   simp [X114,E114] at hs
   simp at h3
   have e':=congrArg (List.map TD) e
   simp at e'
   simp [hs,X114,g1,g2,h4,h5,h6,h7,NP,h3,e,hr,wS]
 ·cases c : p.ts.length with
  | zero => omega
  | succ n =>
   rw [c] at hs
   simp [X114,E114,c] at hs
   simp [hs,X114,c]
 ·rintro ⟨y,s⟩ ⟨rfl,hq⟩
  cases c : p.ts.length with
  | zero => omega
  | succ n =>
   have e : List.take (n + 1) (thS p bd) = thS p bd:=List.take_of_length_le (by simp [c])
   rw [c] at hq
   simp only [X114,e] at hq
   simp [hq]
end Go.Am.E

set_option maxRecDepth 10000
set_option maxHeartbeats 16000000
namespace Go.Am.E
open Go.Proofs Go.Ex Go.Rc
def entB (e : Int × Int) : Bool:=decide (0 ≤ e.1 ∧ e.1 < 8) && okV e.2
theorem run230 (e : Int × Int) : K 230 [.dat (NP e)] [] = some (.dat (.bool (entB e)),[]):=ce rfl (by
 obtain ⟨x,v⟩:=e
 by_cases c1 : 0 ≤ x
 ·by_cases c2 : x < 8
  ·by_cases c3 : -2147483648 ≤ v <;> by_cases c4 : v ≤ 2147483647 <;> simp [NP,entB,okV,c1,c2,c3,c4]
  ·simp [NP,entB,c1,c2]
 ·simp [NP,entB,c1])
theorem valB_eq (b : Bu) : valB b = (decide (0 ≤ b.t ∧ 0 ≤ b.f ∧ b.f ≤ 32 ∧ b.f + b.es.length ≤ 32) && b.es.all entB):=rfl
theorem run167 (b : Bu) (hb : Bb b) : K 167 [.dat (BD b)] [] = some (.dat (.bool (valB b)),[]):=by
 obtain ⟨-,-,hf,hf',hes⟩:=hb
 rw [valB_eq]
 obtain ⟨t,f,es⟩:=b
 simp only at hf hf' hes ⊢
 refine ce rfl ?_
 by_cases c1 : t < 0
 ·simp [BD,c1,show ¬ (0 ≤ t) by omega]
 by_cases c2 : f < 0
 ·simp [BD,c1,c2,show ¬ (0 ≤ f) by omega]
 by_cases c3 : 32 < f
 ·simp [BD,c1,c2,c3,show ¬ (f ≤ 32) by omega]
 have w : IntKind.wrap .i64 (32 - f) = 32 - f:=wrap_i64 (by omega) (by omega)
 by_cases c4 : 32 - f < es.length
 ·simp [BD,c1,c2,c3,c4,w,show ¬ (f + (es.length : Int) ≤ 32) by omega]
 rw [show decide (0 ≤ t ∧ 0 ≤ f ∧ f ≤ 32 ∧ f + (es.length : Int) ≤ 32) = true by simp; omega,Bool.true_and]
 generalize hA : es.all entB = A
 simp [BD,c1,c2,c3,c4,w]
 simp only [zaa7]
 refine (znb7 (live:=[28,29,30]) (drop:=[28]) es (fun _ e => if entB e = true then none else some ()) (by omega) (fun k => ⟨[(28,.dat (.sl (es.map NP))),(29,.dat (N es.length)),(30,.dat (N k))],[]⟩)
  (fun q => q.1 = .exit 0 ∧ ∃ os,hd [] [] q.2 = some ⟨[],os⟩) (fun _ q => q.1 = .ret ∧ endK [.t 2] false 0 q = some (.dat (.bool false),[]))
  (fun i y s h1 h2 h3 ix hs => ?_) (fun s hs => ?_) _ (by simp [BD,c1,c2,c3,c4,w])).mono ?_
 ·have h4:=run230 y
  obtain ⟨a,v⟩:=y
  simp only [NP] at h4
  cases c : entB (a,v) <;> rw [c] at h4 <;> simp [hs,h1,h2,h3,ix,h4,NP]
 ·simp [hs]
 ·rintro ⟨y,s⟩ hq
  rw [zef7 entB,hA] at hq
  cases A
  ·simp only [Bool.false_eq_true,if_false,oQ_s] at hq
   obtain ⟨rfl,hq⟩:=hq
   simp [hq]
  ·simp only [if_true,oQ_n] at hq
   obtain ⟨rfl,os,hq⟩:=hq
   simp [hq]
theorem run237 (b : Bu) (hb : Bb b) : K 237 [.dat (BD b)] [] = some (.dat (BD b),[]):=by
 have hes:=hb.es
 obtain ⟨t,f,es⟩:=b
 simp only at hes
 have r1 : 16 * (es.length : Int) ≤ 1099511627776:=by omega
 have r2 : (es.length : Int) ≤ 1099511627776:=by omega
 exact ce rfl (by simp [BD,r1,r2])
def pshE (b : Bu) (x v : Int) : Int:=if valB b = false then 1 else if x < 0 ∨ 8 ≤ x then 11 else if okV v = false then 2 else if b.f + b.es.length = 32 then 24 else 0
abbrev BD0 : Dat:=.agg [N 0,N 0,.sl []]
theorem valB_ok {b : Bu} (h : valB b = true) : 0 ≤ b.t ∧ 0 ≤ b.f ∧ b.f ≤ 32 ∧ b.f + b.es.length ≤ 32:=by
 rw [valB_eq] at h
 simp only [Bool.and_eq_true,decide_eq_true_eq] at h
 exact h.1
theorem run184e (b : Bu) (hb : Bb b) (x v : Int) (he : pshE b x v ≠ 0) : K 184 [.dat (BD b),.dat (N x),.dat (N v)] [] = some (.tup [.dat BD0,.dat (N 0),.dat (N (pshE b x v))],[]):=by
 have h1:=run167 b hb
 refine ce rfl ?_
 unfold pshE at he ⊢
 cases c1 : valB b <;> rw [c1] at h1 he
 ·obtain ⟨t,f,es⟩:=b
  simp only [BD] at h1
  simp [h1,BD]
 have hv:=valB_ok c1
 obtain ⟨t,f,es⟩:=b
 simp only [BD] at h1 hv he ⊢
 by_cases c2 : x < 0
 ·simp [h1,c2]
 by_cases c3 : 8 ≤ x
 ·simp [h1,c2,c3]
 cases c4 : okV v <;> rw [c4] at he
 ·by_cases c5 : v < -2147483648
  ·simp [h1,c2,c3,c5]
  ·have c6 : 2147483647 < v:=by simp [okV] at c4; omega
   simp [h1,c2,c3,c5,c6]
 have c5 : ¬ v < -2147483648:=by simp [okV] at c4; omega
 have c6 : ¬ 2147483647 < v:=by simp [okV] at c4; omega
 have w : IntKind.wrap .i64 (f + (es.length : Int)) = f + es.length:=wrap_i64 (by omega) (by omega)
 by_cases c7 : f + (es.length : Int) = 32
 ·simp [h1,c2,c3,c5,c6,w,c7]
 ·simp [c2,c3,c7] at he
theorem run184 (b : Bu) (hb : Bb b) (x v : Int) (he : pshE b x v = 0) : K 184 [.dat (BD b),.dat (N x),.dat (N v)] [] = some (.tup [.dat (BD ⟨b.t,b.f,b.es ++ [(x,v)]⟩),.dat (N (b.f + b.es.length)),.dat (N 0)],[]):=by
 have h1:=run167 b hb
 have hes:=hb.es
 refine ce rfl ?_
 unfold pshE at he
 cases c1 : valB b <;> rw [c1] at h1 he
 ·cases he
 have hv:=valB_ok c1
 obtain ⟨t,f,es⟩:=b
 simp only [BD] at h1 hv he hes ⊢
 split at he
 ·cases he
 split at he
 ·cases he
 split at he
 ·cases he
 split at he
 ·cases he
 rename_i _ c2 c4 c7
 have c4 : okV v = true:=by simpa using c4
 have c5 : ¬ v < -2147483648:=by simp [okV] at c4; omega
 have c6 : ¬ 2147483647 < v:=by simp [okV] at c4; omega
 have c2' : ¬ x < 0:=by omega
 have c3' : ¬ 8 ≤ x:=by omega
 have w : IntKind.wrap .i64 (f + (es.length : Int)) = f + es.length:=wrap_i64 (by omega) (by omega)
 have r : (es.length + 1) * 17 ≤ 1099511627776:=by omega
 simp [h1,c2',c3',c5,c6,c7,w,r,NP]
end Go.Am.E

set_option maxRecDepth 10000
set_option maxHeartbeats 16000000
namespace Go.Am.E
open Go.Proofs Go.Ex Go.Rc
theorem run182 (b : Bu) (hb : Bb b) (e : Int × Int) (r : List (Int × Int)) (he : b.es = e :: r) (hv : valB b = true) : K 182 [.dat (BD b)] [] = some (.tup [.dat (BD ⟨b.t,b.f + 1,r⟩),.dat (NP e),.dat (N b.f),.dat (N 0)],[]):=by
 have h1:=run167 b hb
 rw [hv] at h1
 have hv:=valB_ok hv
 have h2:=run237 ⟨b.t,b.f + 1,r⟩ ⟨hb.t,hb.t',by simp; omega,by simp; omega,by have:=hb.es; rw [he] at this; simp at this; simp; omega⟩
 have hes:=hb.es
 obtain ⟨t,f,es⟩:=b
 simp only at he hv
 subst he
 obtain ⟨x,v⟩:=e
 simp only [BD,List.map_cons] at h1 h2 ⊢
 rw [show NP (x,v) = .agg [N x,N v] from rfl] at h1 ⊢
 have w : IntKind.wrap .i64 (f + 1) = f + 1:=wrap_i64 (by omega) (by omega)
 have c : ¬ ((r.length : Int) + 1 = 0):=by omega
 refine ce rfl ?_
 simp [h1,h2,w,c]
theorem lokL_snoc (e : Int × Int) (x : Int) : ∀ l : List (Int × Int),lokL (l ++ [e]) x = if e.1 = x then some (e.2,l.length) else lokL l x
 | [] => by simp [lokL]
 | a :: r => by
  have ih:=lokL_snoc e x r
  simp only [List.cons_append,lokL,ih]
  by_cases c : e.1 = x
  ·simp [c]
  ·simp only [c,if_false]
def lokP : Option (Int × Int) → AVal
 | some (v,n) => .tup [.dat (N v),.dat (N n),.dat (.bool true)]
 | none => .tup [.dat (N 0),.dat (N 0),.dat (.bool false)]
def Q324 (b : Bu) (r : Option (Int × Nat)) (q : AEx × St) : Prop:=match r with
 | some (v,j) => q.1 = .ret ∧ endK [.t 4,.t 5,.t 6] false 0 q = some (.tup [.dat (N v),.dat (N (b.f + j)),.dat (.bool true)],[])
 | none => q.1 = .exit 0 ∧ ∃ os,hd [] [] q.2 = some ⟨[],os⟩
theorem loop267 (b : Bu) (hf : 0 ≤ b.f ∧ b.f ≤ 32) (hl : b.es.length < 1000000000) (x : Int) : ∀ (k : Nat) (s : St),k ≤ b.es.length → hd [1,2,7] [] s = some ⟨[(1,.dat (N x)),(2,.ref ((3,0),0,0) 0),(7,.dat (N ((k : Int) - 1)))],[((3,0),.plain (.box [.dat (N b.t),.dat (N b.f),.dat (.sl (b.es.map NP))]))]⟩ →
  Ev (zga7 (exec K l267_0) s) (Q324 b (lokL (b.es.take k) x))
 | 0,s,hk,hs => by
  apply zoc7
  simp [hs,Q324,lokL]
 | k + 1,s,hk,hs => by
  obtain ⟨e,e1,e2⟩:=zib7 b.es (i:=k) (by omega)
  have h3 : (k : Int) < b.es.length:=by omega
  have w1 : IntKind.wrap .i64 ((k : Int) - 1) = (k : Int) - 1:=wrap_i64 (by omega) (by omega)
  have w2 : IntKind.wrap .i64 (b.f + (k : Int)) = b.f + k:=wrap_i64 (by omega) (by omega)
  rw [zhe7 e1,lokL_snoc,List.length_take,Nat.min_eq_left (by omega)]
  obtain ⟨y,v⟩:=e
  have hs' : hd [1,2,7] [] s = some ⟨[(1,.dat (N x)),(2,.ref ((3,0),0,0) 0),(7,.dat (N (k : Int)))],[((3,0),.plain (.box [.dat (N b.t),.dat (N b.f),.dat (.sl (b.es.map NP))]))]⟩:=by rw [hs]; simp
  apply zoc7
  by_cases c : y = x
  ·simp [hs',e1,e2,h3,w2,NP,c,Q324]
  ·simp [hs',e1,e2,h3,w1,NP,c]
   exact loop267 b hf hl x k _ (by omega) (by simp)
theorem run267 (b : Bu) (hb : Bb b) (x : Int) : K 267 [.dat (BD b),.dat (N x)] [] = some (lokP (if valB b = true then lokB b x else none),[]):=by
 have h1:=run167 b hb
 have hes:=hb.es
 refine ce rfl ?_
 cases c1 : valB b <;> rw [c1] at h1
 ·obtain ⟨t,f,es⟩:=b
  simp only [BD] at h1
  simp [h1,BD,lokP]
 have hv:=valB_ok c1
 have w1 : IntKind.wrap .i64 ((b.es.length : Int) - 1) = (b.es.length : Int) - 1:=wrap_i64 (by omega) (by omega)
 rw [if_pos rfl]
 have hBD : BD b = .agg [N b.t,N b.f,.sl (b.es.map NP)]:=rfl
 rw [hBD] at h1 ⊢
 unfold lokB
 simp [h1,w1]
 simp only [zaa7]
 refine (loop267 b ⟨hv.2.1,hv.2.2.1⟩ hes x b.es.length _ (Nat.le_refl _) (by simp [h1,w1])).mono ?_
 rintro ⟨y,s⟩ hq
 rw [List.take_length] at hq
 cases c : lokL b.es x with
 | none =>
  rw [c] at hq
  obtain ⟨rfl,os,hq⟩:=hq
  simp [hq,lokP]
 | some r =>
  obtain ⟨v,j⟩:=r
  rw [c] at hq
  obtain ⟨rfl,hq⟩:=hq
  simp [hq,lokP]
def fndBP (l : List Bu) (id : Int) : AVal:=match fndB l id with
 | some i => .tup [.dat (N i),.dat (.bool true)]
 | none => .tup [.dat (N 0),.dat (.bool false)]
def bF (id : Int) (i : Nat) (b : Bu) : Option Nat:=if b.t = id then some i else none
theorem bF_scan (id : Int) : ∀ (l : List Bu) (k : Nat),scan (bF id) l k = (fndB l id).map (k + ·)
 | [],k => rfl
 | b :: r,k => by
  have ih:=bF_scan id r (k + 1)
  by_cases c : b.t = id
  ·simp [scan,bF,fndB,c]
  ·simp only [scan,bF,fndB,c,if_false,ih]
   cases fndB r id with
   | none => rfl
   | some j => simp only [Option.map_some]; congr 1; omega
theorem run186 (l : List Bu) (id : Int) (hl : l.length < 1000000000) : K 186 [.dat (.sl (l.map BD)),.dat (N id)] [] = some (fndBP l id,[]):=by
 refine ce rfl ?_
 have e:=bF_scan id l 0
 simp
 simp only [zaa7]
 refine (znb7 (live:=[1,8,9,10]) (drop:=[8]) l (bF id) (by omega) (fun k => ⟨[(1,.dat (N id)),(8,.dat (.sl (l.map BD))),(9,.dat (N l.length)),(10,.dat (N k))],[]⟩)
  (fun q => q.1 = .exit 0 ∧ ∃ os,hd [] [] q.2 = some ⟨[],os⟩) (fun i q => q.1 = .ret ∧ endK [.t 4,.t 5] false 0 q = some (.tup [.dat (N i),.dat (.bool true)],[]))
  (fun i y s h1 h2 h3 ix hs => ?_) (fun s hs => ?_) _ (by simp)).mono ?_
 ·obtain ⟨t,f,es⟩:=y
  by_cases c : t = id <;> simp [hs,h1,h2,h3,ix,bF,c,BD]
 ·simp [hs]
 ·rintro ⟨y,s⟩ hq
  rw [e] at hq
  unfold fndBP
  cases c : fndB l id with
  | none =>
   rw [c] at hq
   obtain ⟨rfl,os,hq⟩:=hq
   simp [hq]
  | some i =>
   rw [c] at hq
   obtain ⟨rfl,hq⟩:=hq
   simp at hq
   simp [hq]
theorem run185 (l : List Bu) (hl : l.length < 1000000000) (hb : ∀ b ∈ l,Bb b) : K 185 [.dat (.sl (l.map BD))] [] = some (.dat (.sl (l.map BD)),[]):=by
 have r1 : 40 * (l.length : Int) ≤ 1099511627776:=by omega
 have r2 : (l.length : Int) ≤ 1099511627776:=by omega
 refine ce rfl ?_
 simp [r1,r2]
 simp only [zaa7]
 refine (zjb7 (live:=[3,9,10,11]) (drop:=[3,9]) l (by omega) (fun k => ⟨[(3,.rsl ((4,0),0,0) k 3 0 k),(9,.dat (.sl (l.map BD))),(10,.dat (N l.length)),(11,.dat (N k))],[((4,0),bA k (l.take k))]⟩)
  (fun _ q => q.1 = .exit 0 ∧ hd [3] [] q.2 = some ⟨[(3,.rsl ((4,0),0,0) l.length 3 0 l.length)],[((4,0),bA l.length l)]⟩)
  (fun i y s h1 h2 h3 ix hs => ?_) (fun s hs => ?_) _ (by simp)).mono ?_
 ·have h4:=run237 y (hb y (List.mem_of_getElem? h1))
  have e:=zhe7 h1
  have r : (i + 1) * 41 ≤ 1099511627776:=by omega
  have hi : i ≤ l.length:=by omega
  obtain ⟨t,f,es⟩:=y
  simp only [BD] at h4
  have e':=congrArg (List.map BD) e
  simp [BD] at e'
  simp [hs,h1,h2,h3,ix,h4,r,hi,BD,e']
 ·simp [hs]
 ·rintro ⟨y,s⟩ ⟨rfl,hq⟩
  simp [hq]
end Go.Am.E

set_option maxRecDepth 10000
set_option maxHeartbeats 16000000
namespace Go.Am.E
open Go.Proofs Go.Ex Go.Rc
theorem run75 (a : Int) (h : -100000000000000 < a) : K 75 [.dat (N a)] [] = some (.dat (N (Go.Ex.thr a)),[]):=ce rfl (by
 unfold Go.Ex.thr
 by_cases c : a < 0
 ·have w1 : IntKind.wrap .i64 (a + 1) = a + 1:=wrap_i64 (by omega) (by omega)
  have w2 : IntKind.wrap .i64 (0 - (a + 1)) = -(a + 1):=by rw [wrap_i64 (by omega) (by omega)]; omega
  simp only [Int.zero_sub] at w2
  simp [c,w1,w2]
 ·simp [c])
theorem run100 (a : Int) (h : a < 100000000000000) : K 100 [.dat (N a)] [] = some (.dat (N (fls a)),[]):=ce rfl (by
 unfold fls
 by_cases c : a < 0
 ·simp [c]
 ·have w1 : IntKind.wrap .i64 (0 - a) = -a:=by rw [wrap_i64 (by omega) (by omega)]; omega
  have w2 : IntKind.wrap .i64 (-a - 1) = -a - 1:=wrap_i64 (by omega) (by omega)
  simp only [Int.zero_sub] at w1
  simp [c,w1,w2])
theorem run99 (a : Int) : K 99 [.dat (N a)] [] = some (.dat (.bool (decide (a < 0))),[]):=ce rfl (by simp)
abbrev PX (s : Sa) (k : Nat) : Dat:=.agg [.sl (s.th.map TD),Ns s.me.va,Ns s.me.ow,.sl (s.me.qu.map Ns),Ns s.me.sg,.sl (s.bu.map BD),N k]
theorem run168 (s : Sa) (k : Nat) : K 168 [.dat (PX s k)] [] = some (.dat (SX (Go.Ex.part s)),[]):=ce rfl (by simp [Go.Ex.part])
theorem run181 (s : Sa) (k : Nat) (t : Th) (b : Bu) (ht : s.th[k]? = some t) (hb : s.bu[k]? = some b) : K 181 [.dat (PX s k)] [] = some (.tup [.dat (TD t),.dat (BD b)],[]):=by
 have t1:=(List.getElem?_eq_some_iff.1 ht).1
 have t2:=(List.getElem?_eq_some_iff.1 ht).2
 have b1:=(List.getElem?_eq_some_iff.1 hb).1
 have b2:=(List.getElem?_eq_some_iff.1 hb).2
 have t3 : (k : Int) < s.th.length:=by omega
 have b3 : (k : Int) < s.bu.length:=by omega
 obtain ⟨x,y,z⟩:=b
 refine ce rfl ?_
 simp [ht,hb,t1,t2,b1,b2,t3,b3,BD]
theorem run231 (s : Sa) (hs : Mb s.me) (k : Nat) (t : Th) (b : Bu) (hbb : Bb b) (ht : s.th[k]? = some t) (hb : s.bu[k]? = some b) (x : Int) (hv : valB b = true) (hx : inE s.me x s.me.va.length = 0) : K 231 [.dat (PX s k),.dat (N x)] [] = some (.tup [.dat (N (see s b x).1),.dat (N (see s b x).2)],[]):=by
 have h1:=run181 s k t b ht hb
 have h2:=run267 b hbb x
 have h3:=run171 s.me hs x
 unfold redP at h3
 rw [if_pos hx] at h3
 rw [if_pos hv] at h2
 unfold see
 obtain ⟨b1,b2,b3⟩:=b
 simp only [BD] at h1 h2
 refine ce rfl ?_
 cases c : lokB ⟨b1,b2,b3⟩ x with
 | none =>
  rw [c] at h2
  simp only [lokP] at h2
  simp [h1,h2,h3,c]
 | some r =>
  obtain ⟨v,n⟩:=r
  rw [c] at h2
  simp only [lokP] at h2
  simp [h1,h2,c]
theorem scan_none {α : Type} {f : Nat → α → Option Unit} : ∀ {l : List α} {k : Nat},scan f l k = none ↔ ∀ i t,l[i]? = some t → f (k + i) t = none
 | [],k => by simp [scan]
 | a :: r,k => by
  have ih:=scan_none (f:=f) (l:=r) (k:=k + 1)
  cases c : f k a with
  | some u =>
   simp only [scan,c,reduceCtorEq,false_iff]
   intro h
   have:=h 0 a rfl
   rw [Nat.add_zero,c] at this
   cases this
  | none =>
   simp only [scan,c,ih]
   constructor
   ·intro h i t hi
    cases i with
    | zero => obtain rfl:=Option.some.inj hi; exact c
    | succ i => have:=h i t (by simpa using hi); rwa [show k + (i + 1) = k + 1 + i by omega]
   ·intro h i t hi
    have:=h (i + 1) t (by simpa using hi)
    rwa [show k + (i + 1) = k + 1 + i by omega] at this
def vrO (p : Pg) (e : Int × Int) : Bool:=decide (e.1 < p.vs.length)
def vxC (p : Pg) (bd : Int) (s : Sa) (i : Nat) (t : Th) (b : Bu) : Bool:=okT p bd t && oldT s.th i t && valB b && decide (b.t = t.id) && b.es.all (vrO p)
def vxF (p : Pg) (bd : Int) (s : Sa) (i : Nat) (t : Th) : Option Unit:=match s.bu[i]? with
 | some b => if vxC p bd s i t b = true then none else some ()
 | none => some ()
theorem vx_scan (p : Pg) (bd : Int) (s : Sa) (hm : valM p s.me = true) (hl : s.bu.length = s.th.length) : scan (vxF p bd s) s.th 0 = if valX p bd s = true then none else some ():=by
 have key : scan (vxF p bd s) s.th 0 = none ↔ valX p bd s = true:=by
  rw [scan_none]
  have h1 : (s.th.all (okT p bd) && srtT s.th) = true ↔ ∀ i t,s.th[i]? = some t → okT p bd t = true ∧ oldT s.th i t = true:=by
   have:=srt_scan0 p bd s.th
   have h2:=scan_none (f:=vsF p bd s.th) (l:=s.th) (k:=0)
   constructor
   ·intro h i t hi
    rw [if_pos h] at this
    have:=h2.1 this i t hi
    rw [Nat.zero_add] at this
    unfold vsF at this
    split at this
    ·rename_i c; simpa using c
    ·cases this
   ·intro h
    rcases Bool.eq_false_or_eq_true (s.th.all (okT p bd) && srtT s.th) with c | c
    ·exact c
    ·rw [if_neg (by simp [c])] at this
     have h3:=h2.2 fun i t hi => by
      rw [Nat.zero_add]
      unfold vsF
      rw [if_pos (by simp [h i t hi])]
     rw [h3] at this
     cases this
  have h2 : valX p bd s = true ↔ (s.th.all (okT p bd) && srtT s.th) = true ∧ (∀ b ∈ s.bu,valB b = true) ∧ s.bu.map (·.t) = s.th.map (·.id) ∧ ∀ b ∈ s.bu,b.es.all (vrO p) = true:=by
   unfold valX vrO
   simp only [hm,hl,Bool.true_and,Bool.and_eq_true,List.all_eq_true,decide_eq_true_eq,decide_true]
   constructor
   ·rintro ⟨⟨⟨⟨a,b⟩,c⟩,d⟩,e⟩; exact ⟨⟨a,b⟩,c,d,e⟩
   ·rintro ⟨⟨a,b⟩,c,d,e⟩; exact ⟨⟨⟨⟨a,b⟩,c⟩,d⟩,e⟩
  rw [h2,h1]
  constructor
  ·intro h
   have hb : ∀ (i : Nat) (t : Th) (b : Bu),s.th[i]? = some t → s.bu[i]? = some b → vxC p bd s i t b = true:=by
    intro i t b hi hb
    have:=h i t hi
    rw [Nat.zero_add] at this
    unfold vxF at this
    rw [hb] at this
    simp only at this
    split at this
    ·assumption
    ·cases this
   have hth : ∀ (i : Nat) (b : Bu),s.bu[i]? = some b → ∃ t,s.th[i]? = some t:=fun i b hb => by
    have:=(List.getElem?_eq_some_iff.1 hb).1
    exact ⟨s.th[i],by simp⟩
   have hbu : ∀ (i : Nat) (t : Th),s.th[i]? = some t → ∃ b,s.bu[i]? = some b:=fun i t ht => by
    have:=(List.getElem?_eq_some_iff.1 ht).1
    exact ⟨s.bu[i],by simp⟩
   simp only [vxC,Bool.and_eq_true,decide_eq_true_eq] at hb
   refine ⟨fun i t hi => ?_,fun b hm => ?_,?_,fun b hm => ?_⟩
   ·obtain ⟨b,hb'⟩:=hbu i t hi
    exact (hb i t b hi hb').1.1.1
   ·obtain ⟨i,hi⟩:=List.getElem?_of_mem hm
    obtain ⟨t,ht⟩:=hth i b hi
    exact (hb i t b ht hi).1.1.2
   ·apply List.ext_getElem?
    intro i
    rw [List.getElem?_map,List.getElem?_map]
    cases ht : s.th[i]? with
    | none =>
     have : s.bu[i]? = none:=by
      rw [List.getElem?_eq_none_iff] at ht ⊢
      omega
     rw [this]
     rfl
    | some t =>
     obtain ⟨b,hb'⟩:=hbu i t ht
     rw [hb']
     simp [(hb i t b ht hb').1.2]
   ·obtain ⟨i,hi⟩:=List.getElem?_of_mem hm
    obtain ⟨t,ht⟩:=hth i b hi
    exact (hb i t b ht hi).2
  ·rintro ⟨g1,g2,g3,g4⟩ i t hi
   rw [Nat.zero_add]
   have hlt:=(List.getElem?_eq_some_iff.1 hi).1
   have hb : s.bu[i]? = some s.bu[i]:=by simp
   unfold vxF
   rw [hb]
   have hm':=List.mem_of_getElem? hb
   have e : s.bu[i].t = t.id:=by
    have:=congrArg (fun l => l[i]?) g3
    simp only [List.getElem?_map,hb,hi,Option.map_some,Option.some.injEq] at this
    exact this
   simp [vxC,g1 i t hi,g2 _ hm',e,g4 _ hm']
 rcases Bool.eq_false_or_eq_true (valX p bd s) with c | c
 ·rw [if_pos c]; exact key.2 c
 ·rw [if_neg (by simp [c])]
  cases h : scan (vxF p bd s) s.th 0 with
  | none => rw [key.1 h] at c; cases c
  | some u => rfl
abbrev E117 (s : Sa) (bd : Int) (k : Nat) : Env:=[(1,.dat (N bd)),(3,.ref ((4,0),0,0) 0),(5,.ref ((6,0),0,0) 0),(32,.dat (.sl (s.th.map TD))),(33,.dat (N s.th.length)),(34,.dat (N k))]
theorem loop104_0 (p : Pg) (s : Sa) (bd : Int) (k : Nat) (es : List (Int × Int)) (hl : es.length < 1000000000) (st : St) (h : hd [1,3,5,32,33,34,78,79,80] [3,5,32,78] st = some ⟨E117 s bd k ++ [(78,.dat (.sl (es.map NP))),(79,.dat (N es.length)),(80,.dat (N 0))],[((4,0),pbox p),((6,0),sbx s)]⟩) :
  Ev (zga7 (exec K l104_0) st) (oQ (fun q => q.1 = .exit 2 ∧ hd [1,3,5,32,33,34] [] q.2 = some ⟨E117 s bd k,[((4,0),pbox p),((6,0),sbx s)]⟩) (fun _ q => q.1 = .ret ∧ endK [.t 6] false 0 q = some (.dat (.bool false),[])) (if es.all (vrO p) = true then none else some ())):=by
 rw [← zef7 (vrO p) es 0]
 refine znb7 (live:=[1,3,5,32,33,34,78,79,80]) (drop:=[3,5,32,78]) es _ (by omega) (fun j => ⟨E117 s bd k ++ [(78,.dat (.sl (es.map NP))),(79,.dat (N es.length)),(80,.dat (N j))],[((4,0),pbox p),((6,0),sbx s)]⟩) _ _
  (fun i y s' h1 h2 h3 ix hs' => ?_) (fun s' hs' => ?_) st h
 ·obtain ⟨x,v⟩:=y
  by_cases c : (p.vs.length : Int) ≤ x
  ·have c' : vrO p (x,v) = false:=by simp [vrO]; omega
   simp [hs',h1,h2,h3,ix,NP,c,c']
  ·have c' : vrO p (x,v) = true:=by simp [vrO]; omega
   simp [hs',h1,h2,h3,ix,NP,c,c']
 ·simp [hs']
theorem run104 (p : Pg) (hf : Fit p) (bd : Int) (hb : 1 ≤ bd ∧ bd ≤ 32) (s : Sa) (hs : Sb s) : K 104 [.dat (PD p),.dat (N bd),.dat (SX s)] [] = some (.dat (.bool (valX p bd s)),[]):=by
 have h0:=run164 p hf
 have h1:=run165 p hf s.me hs.me
 have hth:=hs.th
 refine ce rfl ?_
 cases c1 : valM p s.me
 ·have e : valX p bd s = false:=by simp [valX,c1]
  rw [c1] at h1
  rw [e]
  by_cases hp : chP p = 0
  ·simp only [hp,decide_true] at h0
   simp [h0,h1]
  ·simp only [hp,decide_false] at h0
   simp [h0]
 have hp : chP p = 0:=by simp only [valM,Bool.and_eq_true,decide_eq_true_eq] at c1; exact c1.1.1
 rw [c1] at h1
 simp only [hp,decide_true] at h0
 by_cases hl : s.bu.length = s.th.length
 rotate_left
 ·have e : valX p bd s = false:=by simp [valX,hl]
  have hl' : ¬ ((s.bu.length : Int) = s.th.length):=by omega
  rw [e]
  simp [h0,h1,hl]
 have hsc:=vx_scan p bd s c1 hl
 simp [h0,h1,hl]
 simp only [zaa7]
 refine (znb7 (live:=[1,3,5,32,33,34]) (drop:=[3,5,32]) s.th (vxF p bd s) (by omega) (fun k => ⟨[(1,.dat (N bd)),(3,.ref ((4,0),0,0) 0),(5,.ref ((6,0),0,0) 0),(32,.dat (.sl (s.th.map TD))),(33,.dat (N s.th.length)),(34,.dat (N k))],[((4,0),pbox p),((6,0),sbx s)]⟩)
  (fun q => q.1 = .exit 0 ∧ ∃ os,hd [] [] q.2 = some ⟨[],os⟩) (fun _ q => q.1 = .ret ∧ endK [.t 6] false 0 q = some (.dat (.bool false),[]))
  (fun i y s' g1 g2 g3 ix hs' => ?_) (fun s' hs' => ?_) _ (by simp [h0,h1,hl])).mono ?_
 ·have h2:=run166 p hf bd y (hs.ts y (List.mem_of_getElem? g1))
  rw [vldT_ok hp hb] at h2
  obtain ⟨b,b1,b2⟩:=zib7 s.bu (i:=i) (by omega)
  have hbm:=hs.bs b (List.mem_of_getElem? b1)
  have h3:=run167 b hbm
  have hes:=hbm.es
  have b3 : (i : Int) < s.bu.length:=by omega
  have hi : i < s.bu.length:=by omega
  have hw : ∃ o,oldT s.th i y = o ∧ (i = 0 ∧ o = true ∨ ∃ (j : Nat) (u : Th),i = j + 1 ∧ s.th[j]? = some u ∧ (∀ h : j < s.th.length,s.th[j] = u) ∧ o = decide (u.id < y.id)):=by
   cases i with
   | zero => exact ⟨true,rfl,.inl ⟨rfl,rfl⟩⟩
   | succ j =>
    obtain ⟨u,u1,u2⟩:=zib7 s.th (i:=j) (by omega)
    exact ⟨decide (u.id < y.id),by simp only [oldT,u1],.inr ⟨j,u,rfl,u1,u2,rfl⟩⟩
  obtain ⟨o,ho,hw⟩:=hw
  have hvx : vxF p bd s i y = if (okT p bd y && o && valB b && decide (b.t = y.id) && b.es.all (vrO p)) = true then none else some ():=by unfold vxF; rw [b1]; simp only [vxC,ho]
  rw [hvx]
  have hin:=loop104_0 p s bd i b.es hes
  obtain ⟨bt,bf,es⟩:=b
  simp only [BD] at h3 hin ⊢
  cases c2 : okT p bd y <;> rw [c2] at h2
  ·simp [hs',g1,g2,g3,ix,h2,hi,b1,b2,b3,BD]
  ·rcases hw with ⟨rfl,rfl⟩ | ⟨j,u,rfl,u1,u2,rfl⟩
   ·simp at hs'
    have g4 : 0 < s.th.length:=by omega
    have b4 : 0 < s.bu.length:=by omega
    cases c4 : valB ⟨bt,bf,es⟩ <;> rw [c4] at h3
    ·simp [hs',g1,g2,g4,h2,h3,b1,b2,b4,BD]
    ·rcases Classical.propComplete (bt = y.id) with c5 | c5
     ·simp [hs',g1,g2,g4,h2,h3,b1,b2,b4,BD,c5]
      simp only [zaa7]
      refine (hin _ (by simp [hs',g1,g2,g4,h2,h3,b1,b2,b4,BD,c5])).mono ?_
      rintro ⟨z,s2⟩ hq
      cases c6 : es.all (vrO p) <;> rw [c6] at hq
      ·simp only [Bool.false_eq_true,if_false,oQ_s] at hq
       obtain ⟨rfl,hq⟩:=hq
       simp [hq]
      ·simp only [if_true,oQ_n] at hq
       obtain ⟨rfl,hq⟩:=hq
       simp [hq,c5]
     ·simp [hs',g1,g2,g4,h2,h3,b1,b2,b4,BD,c5]
   ·simp at hs'
    have w : IntKind.wrap .i64 (j : Int) = j:=wrap_i64 (by omega) (by omega)
    have wS : IntKind.wrap .i64 ((j : Int) + 1 + 1) = j + 1 + 1:=wrap_i64 (by omega) (by omega)
    have j1 : (j : Int) + 1 < s.th.length:=by omega
    have j2 : (j : Int) < s.th.length:=by omega
    have j3 : (0 : Int) < (j : Int) + 1:=by omega
    have b5 : (j : Int) + 1 < s.bu.length:=by omega
    have b6 : j + 1 < s.bu.length:=by omega
    by_cases c3 : u.id < y.id
    ·have c3' : ¬ y.id ≤ u.id:=by omega
     cases c4 : valB ⟨bt,bf,es⟩ <;> rw [c4] at h3
     ·simp [hs',g1,g2,h2,h3,b1,b2,BD,u1,u2,w,wS,j1,j2,j3,b5,b6,c3,c3']
     ·rcases Classical.propComplete (bt = y.id) with c5 | c5
      ·simp [hs',g1,g2,h2,h3,b1,b2,BD,u1,u2,w,wS,j1,j2,j3,b5,b6,c3,c3',c5]
       simp only [zaa7]
       refine (hin _ (by simp [hs',g1,g2,h2,h3,b1,b2,BD,u1,u2,w,wS,j1,j2,j3,b5,b6,c3,c3',c5])).mono ?_
       rintro ⟨z,s2⟩ hq
       cases c6 : es.all (vrO p) <;> rw [c6] at hq
       ·simp only [Bool.false_eq_true,if_false,oQ_s] at hq
        obtain ⟨rfl,hq⟩:=hq
        simp [hq]
       ·simp only [if_true,oQ_n] at hq
        obtain ⟨rfl,hq⟩:=hq
        simp [hq,wS,c5,c3]
      ·simp [hs',g1,g2,h2,h3,b1,b2,BD,u1,u2,w,wS,j1,j2,j3,b5,b6,c3,c3',c5]
    ·have c3' : y.id ≤ u.id:=by omega
     simp [hs',g1,g2,h2,h3,b1,b2,BD,u1,u2,w,wS,j1,j2,j3,b5,b6,c3,c3']
 ·simp [hs']
 ·rintro ⟨y,s'⟩ hq
  rw [hsc] at hq
  rcases Bool.eq_false_or_eq_true (valX p bd s) with c | c
  ·rw [if_pos c] at hq
   obtain ⟨rfl,os,hq⟩:=hq
   simp [hq,c]
  ·rw [if_neg (by simp [c])] at hq
   obtain ⟨rfl,hq⟩:=hq
   simp [hq,c]
end Go.Am.E

set_option maxRecDepth 10000
set_option maxHeartbeats 16000000
namespace Go.Am.E
open Go.Proofs Go.Ex Go.Rc
theorem run179 (s : Sa) (k : Nat) (t : Th) (b : Bu) (ht : s.th[k]? = some t) (hb : s.bu[k]? = some b) (hid : Tb t) : K 179 [.dat (PX s k)] [] = some (evP (flsX t b),[]):=by
 have h1:=run181 s k t b ht hb
 have h2:=run100 t.id hid.id
 obtain ⟨bt,bf,es⟩:=b
 simp only [BD] at h1
 refine ce rfl ?_
 cases es with
 | nil => simp at h1; simp [h1,flsX,evP]
 | cons e r =>
  obtain ⟨x,v⟩:=e
  have c : ¬ ((r.length : Int) + 1 = 0):=by omega
  rw [List.map_cons,show NP (x,v) = .agg [N x,N v] from rfl] at h1
  simp [h1,h2,flsX,evP,c]
structure Vx (p : Pg) (bd : Int) (s : Sa) : Prop where
 m : valM p s.me = true
 l : s.bu.length = s.th.length
 t : ∀ t ∈ s.th,okT p bd t = true
 sr : srtT s.th = true
 b : ∀ b ∈ s.bu,valB b = true
 i : s.bu.map (·.t) = s.th.map (·.id)
 v : ∀ b ∈ s.bu,∀ e ∈ b.es,e.1 < p.vs.length
theorem valX_ok {p : Pg} {bd : Int} {s : Sa} (h : valX p bd s = true) : Vx p bd s ∧ chP p = 0:=by
 unfold valX at h
 simp only [Bool.and_eq_true,List.all_eq_true,decide_eq_true_eq] at h
 obtain ⟨⟨⟨⟨⟨⟨a,b⟩,c⟩,d⟩,e⟩,f⟩,g⟩:=h
 refine ⟨⟨a,b,c,d,e,f,g⟩,?_⟩
 simp only [valM,Bool.and_eq_true,decide_eq_true_eq] at a
 exact a.1.1
theorem srtT_get : ∀ {l : List Th} {i j : Nat} {t u : Th},srtT l = true → l[i]? = some t → l[j]? = some u → i < j → t.id < u.id
 | [],i,j,t,u,h,hi,hj,hij => by simp at hi
 | [a],i,j,t,u,h,hi,hj,hij => by
  cases j with
  | zero => omega
  | succ j => simp at hj
 | a :: b :: r,i,j,t,u,h,hi,hj,hij => by
  simp only [srtT,Bool.and_eq_true,decide_eq_true_eq] at h
  cases j with
  | zero => omega
  | succ j =>
   rw [List.getElem?_cons_succ] at hj
   cases i with
   | zero =>
    obtain rfl:=Option.some.inj hi
    cases j with
    | zero => obtain rfl:=Option.some.inj hj; exact h.1
    | succ j => exact Int.lt_trans h.1 (srtT_get (i:=0) h.2 rfl hj (by omega))
   | succ i =>
    rw [List.getElem?_cons_succ] at hi
    exact srtT_get h.2 hi hj (by omega)
theorem fndT_srt {l : List Th} {k : Nat} {t : Th} (hs : srtT l = true) (h : l[k]? = some t) : fndT l t.id = some k:=by
 have key : ∀ (l : List Th) (k : Nat),(∀ i u,i < k → l[i]? = some u → u.id ≠ t.id) → l[k]? = some t → fndT l t.id = some k:=by
  intro l
  induction l with
  | nil => intro k _ h; simp at h
  | cons a r ih =>
   intro k hn h
   cases k with
   | zero => obtain rfl:=Option.some.inj h; simp [fndT]
   | succ k =>
    have h0:=hn 0 a (by omega) rfl
    simp only [fndT,if_neg h0]
    rw [ih k (fun i u hi hu => hn (i + 1) u (by omega) (by simpa using hu)) (by simpa using h)]
    rfl
 exact key l k (fun i u hi hu => by have:=srtT_get hs hu h hi; omega) h
theorem okT_mono {p : Pg} {bd bd' : Int} {t : Th} (h : okT p bd t = true) (hb : bd ≤ bd') : okT p bd' t = true:=by
 have hfrm : ∀ {b b' : Int},b ≤ b' → frmT p b t = true → frmT p b' t = true:=by
  intro b b' hb h
  unfold frmT at h ⊢
  split at h
  ·cases h
  ·simp only [Bool.and_eq_true,decide_eq_true_eq] at h ⊢
   obtain ⟨⟨⟨⟨⟨⟨⟨⟨a,b⟩,c⟩,d⟩,e⟩,f⟩,g⟩,i⟩,j⟩:=h
   exact ⟨⟨⟨⟨⟨⟨⟨⟨a,b⟩,c⟩,⟨d.1,by omega⟩⟩,e⟩,f⟩,g⟩,i⟩,j⟩
 unfold okT at h ⊢
 rw [Bool.and_eq_true] at h ⊢
 refine ⟨hfrm hb h.1,?_⟩
 have h:=h.2
 cases c : insT p t with
 | none => rw [c] at h; exact h
 | some i =>
  rw [c] at h
  simp only at h ⊢
  split
  ·rename_i h14
   rw [if_pos h14] at h
   simp only [Bool.and_eq_true,Bool.or_eq_true,decide_eq_true_eq] at h ⊢
   obtain ⟨a,b⟩:=h
   refine ⟨a,?_⟩
   rcases b with b | b
   ·exact .inl ⟨b.1,by omega⟩
   ·exact .inr b
  ·rename_i h14
   rw [if_neg h14] at h
   exact h
theorem part_val {p : Pg} {bd : Int} {s : Sa} (V : Vx p bd s) (hb : bd ≤ 32) : valS p 32 (Go.Ex.part s) = true:=by
 simp only [valS,Go.Ex.part,Bool.and_eq_true,List.all_eq_true,List.isEmpty_nil]
 exact ⟨⟨⟨V.m,trivial⟩,fun t ht => okT_mono (V.t t ht) hb⟩,V.sr⟩
theorem part_sb {s : Sa} (h : Sb s) : Sb (Go.Ex.part s):=⟨h.th,h.ts,h.me,by simp [Go.Ex.part],by simp [Go.Ex.part]⟩
def lbxP (p : Pg) (s : Sa) (t : Th) (b : Bu) : AVal:=evP ((penT p t).map (labX s t b))
theorem run180 (p : Pg) (hf : Fit p) (bd : Int) (hb32 : bd ≤ 32) (s : Sa) (hs : Sb s) (V : Vx p bd s) (hp : chP p = 0) (k : Nat) (t : Th) (b : Bu) (ht : s.th[k]? = some t) (hb : s.bu[k]? = some b) : K 180 [.dat (PX s k),.dat (PD p)] [] = some (lbxP p s t b,[]):=by
 have htm:=List.mem_of_getElem? ht
 have hbm:=List.mem_of_getElem? hb
 have h1:=run181 s k t b ht hb
 have h2:=run107 p hf t (hs.ts t htm)
 rw [penP_ok hp] at h2
 have h3:=run168 s k
 have h4:=run236 p hf (Go.Ex.part s) (part_sb hs) t.id
 have hv:=valB_ok (V.b b hbm)
 have hbb:=hs.bs b hbm
 have hes:=hbb.es
 refine ce rfl ?_
 unfold lbxP
 cases c1 : penT p t with
 | none =>
  rw [c1] at h2
  obtain ⟨bt,bf,es⟩:=b
  simp only [BD] at h1
  simp only [insP] at h2
  simp [h1,h2,evP]
 | some i =>
  rw [c1] at h2
  obtain ⟨P,hvis,hss,hok,hins⟩:=penT_pn hp V.m (hs.ts t htm) c1
  simp only [insP] at h2
  have hl : lblS p (Go.Ex.part s) t.id = some (labS (Go.Ex.part s) t i):=by
   unfold lblS
   rw [if_pos (part_val V hb32)]
   unfold Go.Ex.runS
   have e : fndT (Go.Ex.part s).th t.id = some k:=fndT_srt V.sr ht
   have e2 : (Go.Ex.part s).th[k]? = some t:=ht
   simp only [e,e2,c1]
  rw [hl] at h4
  have r2:=P.reg.2.1
  by_cases o8 : i.op = 8
  ·have h5:=run231 s hs.me k t b hbb ht hb i.o (V.b b hbm) (P.va (by omega))
   generalize hsee : see s b i.o = S at *
   obtain ⟨S1,S2⟩:=S
   obtain ⟨bt,bf,es⟩:=b
   simp only [BD] at h1
   simp [h1,h2,h5,evP,labX,o8,hsee]
  by_cases o14 : i.op = 14
  ·have h5:=run231 s hs.me k t b hbb ht hb i.o (V.b b hbm) (P.va (by omega))
   generalize hsee : see s b i.o = S at *
   obtain ⟨S1,S2⟩:=S
   obtain ⟨bt,bf,es⟩:=b
   simp only [BD] at h1
   simp [h1,h2,h5,evP,labX,o14,hsee]
  by_cases o9 : i.op = 9
  ·rw [o9] at r2
   obtain ⟨j,hj,j1,j2,j3,j4⟩:=rg8 (r2 rfl)
   have w : IntKind.wrap .i64 (b.f + (b.es.length : Int)) = b.f + b.es.length:=wrap_i64 (by omega) (by omega)
   obtain ⟨bt,bf,es⟩:=b
   simp only [BD] at h1 w
   simp [h1,h2,evP,labX,o9,hj,j1,j2,j3,j4,zrb7,zkd7,reg,w]
  ·have e : labX s t b i = labS (Go.Ex.part s) t i:=by unfold labX; simp [o8,o14,o9]
   rw [Option.map_some,e]
   obtain ⟨bt,bf,es⟩:=b
   simp only [BD] at h1
   generalize labS (Go.Ex.part s) t i = L at *
   simp only [Go.Ex.part,SX,SXl,List.map_nil] at h3 h4
   simp only [evP] at h4 ⊢
   simp [h1,h2,h3,h4,o8,o14,o9]
end Go.Am.E

set_option maxRecDepth 10000
set_option maxHeartbeats 16000000
namespace Go.Am.E
open Go.Proofs Go.Ex Go.Rc
def enX (p : Pg) (s : Sa) (t : Th) (b : Bu) : Bool:=match penT p t with
 | some i => enaX p s t b i
 | none => false
theorem fndB_lt : ∀ {l : List Bu} {id : Int} {k : Nat},fndB l id = some k → k < l.length
 | b :: r,id,k,h => by
  simp only [fndB] at h
  split at h
  ·obtain rfl:=Option.some.inj h; simp
  ·cases hf : fndB r id with
   | none => rw [hf] at h; cases h
   | some j =>
    rw [hf] at h
    obtain rfl:=Option.some.inj h
    have:=fndB_lt hf
    simp; omega
theorem run169 (p : Pg) (hf : Fit p) (bd : Int) (s : Sa) (hs : Sb s) (V : Vx p bd s) (hp : chP p = 0) (k : Nat) (t : Th) (b : Bu) (ht : s.th[k]? = some t) (hb : s.bu[k]? = some b) (on : List Int) (hon : on.length < 10000000000) (ho : ∀ i,penT p t = some i → on.contains t.id = enaS (Go.Ex.part s) t i) : K 169 [.dat (PX s k),.dat (PD p),.dat (Ns on)] [] = some (.dat (.bool (enX p s t b)),[]):=by
 have htm:=List.mem_of_getElem? ht
 have hbm:=List.mem_of_getElem? hb
 have h1:=run181 s k t b ht hb
 have h2:=run107 p hf t (hs.ts t htm)
 rw [penP_ok hp] at h2
 have hbb:=hs.bs b hbm
 have h6:=run28 on t.id (by omega)
 refine ce rfl ?_
 unfold enX
 cases c1 : penT p t with
 | none =>
  rw [c1] at h2
  obtain ⟨bt,bf,es⟩:=b
  simp only [BD] at h1
  simp only [insP] at h2
  simp [h1,h2]
 | some i =>
  rw [c1] at h2
  obtain ⟨P,hvis,hss,hok,hins⟩:=penT_pn hp V.m (hs.ts t htm) c1
  simp only [insP] at h2
  rw [ho i c1] at h6
  have r2:=P.reg.2.1
  unfold enaX
  by_cases o8 : i.op = 8
  ·obtain ⟨bt,bf,es⟩:=b
   simp only [BD] at h1
   simp [h1,h2,o8]
  by_cases o9 : i.op = 9
  ·obtain ⟨bt,bf,es⟩:=b
   simp only [BD] at h1
   simp [h1,h2,o8,o9]
  by_cases o14 : i.op = 14
  ·have h5:=run231 s hs.me k t b hbb ht hb i.o (V.b b hbm) (P.va (by omega))
   obtain ⟨n,hn⟩:=P.ii
   have hfn:=(chI_ok (zaf7 hn).1).2.2.2.1 o14
   have he : appE i.f = 0:=if_pos hfn
   rw [o14] at r2
   obtain ⟨j,hj,j1,j2,j3,j4⟩:=rg8 (r2 rfl)
   generalize hsee : see s b i.o = S at *
   obtain ⟨S1,S2⟩:=S
   obtain ⟨bt,bf,es⟩:=b
   simp only [BD] at h1
   simp [h1,h2,h5,o8,o9,o14,hj,j1,j2,j3,j4,zrb7,zkd7,reg,run172,he,hsee]
  have h7:=run232 i.op
  by_cases c2 : drn i.op = true ∧ b.es ≠ []
  ·obtain ⟨d1,d2⟩:=c2
   rw [d1] at h7
   obtain ⟨bt,bf,es⟩:=b
   simp only [BD] at h1 d2
   cases es with
   | nil => exact absurd rfl d2
   | cons e r =>
    have c : (0 : Int) < r.length + 1:=by omega
    rw [List.map_cons] at h1
    simp [h1,h2,h7,o8,o9,o14,d1,c]
  ·cases c3 : enaS (Go.Ex.part s) t i <;> rw [c3] at h6
   ·obtain ⟨bt,bf,es⟩:=b
    simp only [BD] at h1 c2
    cases d1 : drn i.op <;> rw [d1] at h7
    ·simp [h1,h2,h6,h7,o8,o9,o14,d1,c3]
    ·have d2 : es = []:=by
      rcases es with _ | ⟨e,r⟩
      ·rfl
      ·exact absurd ⟨d1,by simp⟩ c2
     subst d2
     simp at h1
     simp [h1,h2,h6,h7,o8,o9,o14,d1,c3]
   ·by_cases o22 : i.op = 22
    ·have d1 : drn i.op = true:=by rw [o22]; rfl
     rw [d1,o22] at h7
     obtain ⟨j,hj,j1,j2,j3,j4⟩:=rg8 (r2 (by rw [o22]; rfl))
     have hrg : reg t i.b = t.rg j:=by unfold reg; rw [hj]; rfl
     have h8:=run186 s.bu (t.rg j) hs.bu
     unfold fndBP at h8
     simp only [hrg]
     obtain ⟨bt,bf,es⟩:=b
     simp only [BD] at h1 c2
     have d2 : es = []:=by
      rcases es with _ | ⟨e,r⟩
      ·rfl
      ·exact absurd ⟨d1,by simp⟩ c2
     subst d2
     simp at h1
     cases c5 : fndB s.bu (t.rg j) with
     | none =>
      simp only [c5] at h8
      simp [h1,h2,h6,h7,h8,o22,c3,hj,j1,j2,j3,j4,zrb7,zkd7]
     | some m =>
      simp only [c5] at h8
      have hm : m < s.bu.length:=fndB_lt c5
      obtain ⟨c,m1,m2⟩:=zib7 s.bu hm
      have m3 : (m : Int) < s.bu.length:=by omega
      obtain ⟨ct,cf,ces⟩:=c
      rcases ces with _ | ⟨e,r⟩
      ·simp [h1,h2,h6,h7,h8,o22,c3,hj,j1,j2,j3,j4,zrb7,zkd7,hm,m1,m2,m3,BD]
      ·have ne : ¬ ((r.length : Int) + 1 = 0):=by omega
       simp [h1,h2,h6,h7,h8,o22,c3,hj,j1,j2,j3,j4,zrb7,zkd7,hm,m1,m2,m3,BD,ne]
    ·obtain ⟨bt,bf,es⟩:=b
     simp only [BD] at h1 c2
     cases d1 : drn i.op <;> rw [d1] at h7
     ·simp [h1,h2,h6,h7,o8,o9,o14,d1,o22,c3]
     ·have d2 : es = []:=by
       rcases es with _ | ⟨e,r⟩
       ·rfl
       ·exact absurd ⟨d1,by simp⟩ c2
      subst d2
      simp at h1
      simp [h1,h2,h6,h7,o8,o9,o14,d1,o22,c3]
end Go.Am.E

set_option maxRecDepth 10000
set_option maxHeartbeats 16000000
namespace Go.Am.E
open Go.Proofs Go.Ex Go.Rc
def flA (b : Bu) : Option Int:=if b.es.isEmpty then none else some (fls b.t)
def out0 (s : Sa) (k : Nat) : List Int:=((s.bu.drop k).reverse).filterMap flA
theorem out0_step {s : Sa} {k : Nat} {b : Bu} (h : s.bu[k]? = some b) : out0 s k = out0 s (k + 1) ++ (flA b).toList:=by
 unfold out0
 rw [zec7 h,List.reverse_cons,List.filterMap_append]
 congr 1
theorem out0_len (s : Sa) (k : Nat) : (out0 s k).length ≤ s.bu.length:=by
 have:=List.length_filterMap_le flA (s.bu.drop k).reverse
 unfold out0
 rw [List.length_reverse,List.length_drop] at this
 omega
abbrev E118 (on : List Int) (o : List Int) : Env:=[(2,.ref ((3,0),0,0) 0),(3,.ref ((4,0),0,0) 0),(5,.dat (Ns on)),(6,.rsl ((7,0),0,0) o.length 1 0 o.length)]
abbrev X118 (p : Pg) (s : Sa) (o : List Int) : zta7:=[((3,0),pbox p),((4,0),sbx s),((7,0),aI o.length o)]
def Q118 (p : Pg) (s : Sa) (on : List Int) (q : AEx × St) : Prop:=q.1 = .exit 0 ∧ hd [2,3,5,6] [] q.2 = some ⟨E118 on (out0 s 0),X118 p s (out0 s 0)⟩
theorem loop105_0 (p : Pg) (s : Sa) (hs : Sb s) (on : List Int) : ∀ (k : Nat) (st : St),k ≤ s.bu.length → hd [2,3,5,6,7] [2,3,5,6] st = some ⟨E118 on (out0 s k) ++ [(7,.dat (N ((k : Int) - 1)))],X118 p s (out0 s k)⟩ → Ev (zga7 (exec K l105_0) st) (Q118 p s on)
 | 0,st,hk,h => by
  apply zoc7
  simp [h,Q118]
 | k + 1,st,hk,h => by
  obtain ⟨b,b1,b2⟩:=zib7 s.bu (i:=k) (by omega)
  have hbu:=hs.bu
  have b3 : (k : Int) < s.bu.length:=by omega
  have b4 : k < s.bu.length:=by omega
  have w1 : IntKind.wrap .i64 ((k : Int) - 1) = (k : Int) - 1:=wrap_i64 (by omega) (by omega)
  have h1:=run100 b.t (hs.bs b (List.mem_of_getElem? b1)).t
  have h' : hd [2,3,5,6,7] [2,3,5,6] st = some ⟨E118 on (out0 s (k + 1)) ++ [(7,.dat (N (k : Int)))],X118 p s (out0 s (k + 1))⟩:=by rw [h]; simp
  have e:=out0_step b1
  have hl:=out0_len s (k + 1)
  have r : ((out0 s (k + 1)).length + 1) * 9 ≤ 1099511627776:=by omega
  have ih:=loop105_0 p s hs on k
  apply zoc7
  obtain ⟨bt,bf,es⟩:=b
  rcases es with _ | ⟨e0,r0⟩
  ·have e2 : flA ⟨bt,bf,[]⟩ = none:=rfl
   rw [e2] at e
   simp only [Option.toList_none,List.append_nil] at e
   rw [← e] at h'
   simp [h',b1,b2,b3,b4,w1,BD]
   exact ih _ (by omega) (by simp)
  ·have e2 : flA ⟨bt,bf,e0 :: r0⟩ = some (fls bt):=rfl
   rw [e2] at e
   simp only [Option.toList_some] at e
   have ne : (0 : Int) < (r0.length : Int) + 1:=by omega
   simp [h',b1,b2,b3,b4,w1,BD,ne,h1,r]
   exact ih _ (by omega) (by simp [e])
def thA (p : Pg) (s : Sa) (q : Th × Bu) : Option Int:=match penT p q.1 with
 | some i => if enaX p s q.1 q.2 i then some q.1.id else none
 | none => none
def out1 (p : Pg) (s : Sa) (k : Nat) : List Int:=out0 s 0 ++ ((s.th.zip s.bu).take k).filterMap (thA p s)
theorem agsX_eq (p : Pg) (s : Sa) : agsX p s = out1 p s (s.th.zip s.bu).length:=by
 unfold out1
 rw [List.take_length]
 rfl
theorem out1_len (p : Pg) (s : Sa) (k : Nat) : (out1 p s k).length ≤ s.bu.length + s.bu.length:=by
 have h1:=out0_len s 0
 have h2:=List.length_filterMap_le (thA p s) ((s.th.zip s.bu).take k)
 unfold out1
 rw [List.length_append]
 simp at h2
 omega
theorem on_ena {p : Pg} {bd : Int} {s : Sa} (V : Vx p bd s) {k : Nat} {t : Th} {i : In} (ht : s.th[k]? = some t) (hi : penT p t = some i) : (agsS p (Go.Ex.part s)).contains t.id = enaS (Go.Ex.part s) t i:=by
 have hmem : t.id ∈ agsS p (Go.Ex.part s) ↔ enaS (Go.Ex.part s) t i = true:=by
  unfold agsS
  rw [List.mem_filterMap]
  constructor
  ·rintro ⟨u,hu,he⟩
   obtain ⟨j,hj⟩:=List.getElem?_of_mem hu
   have hj : s.th[j]? = some u:=hj
   split at he
   ·rename_i i' hi'
    split at he
    ·rename_i hen
     have hid : u.id = t.id:=Option.some.inj he
     have e1:=fndT_srt V.sr hj
     have e2:=fndT_srt V.sr ht
     rw [hid,e2] at e1
     obtain rfl:=Option.some.inj e1
     rw [ht] at hj
     obtain rfl:=Option.some.inj hj
     rw [hi] at hi'
     obtain rfl:=Option.some.inj hi'
     exact hen
    ·cases he
   ·cases he
  ·intro hen
   exact ⟨t,List.mem_of_getElem? ht,by simp only [hi]; rw [if_pos hen]⟩
 cases c : enaS (Go.Ex.part s) t i
 ·rw [c] at hmem
  simpa using hmem
 ·rw [c] at hmem
  simpa using hmem
theorem run105 (p : Pg) (hf : Fit p) (bd : Int) (hb32 : bd ≤ 32) (s : Sa) (hs : Sb s) (V : Vx p bd s) (hp : chP p = 0) : K 105 [.dat (PD p),.dat (SX s)] [] = some (.dat (Ns (agsX p s)),[]):=by
 have h1 : K 168 [.dat (.agg [.sl (s.th.map TD),Ns s.me.va,Ns s.me.ow,.sl (s.me.qu.map Ns),Ns s.me.sg,.sl (s.bu.map BD),N 0])] [] = some (.dat (SX (Go.Ex.part s)),[]):=run168 s 0
 have h2:=run70 p hf (Go.Ex.part s) (part_sb hs)
 rw [if_pos (part_val V hb32)] at h2
 have hth:=hs.th
 have hbu:=hs.bu
 have hon : (agsS p (Go.Ex.part s)).length < 10000000000:=by
  exact Nat.lt_of_le_of_lt (List.length_filterMap_le _ _) (by show s.th.length < _; omega)
 have hen : ∀ (k : Nat) (t : Th) (i : In),s.th[k]? = some t → penT p t = some i → (agsS p (Go.Ex.part s)).contains t.id = enaS (Go.Ex.part s) t i:=fun k t i ht hi => on_ena V ht hi
 have w1 : IntKind.wrap .i64 ((s.bu.length : Int) - 1) = (s.bu.length : Int) - 1:=wrap_i64 (by omega) (by omega)
 generalize agsS p (Go.Ex.part s) = on at *
 simp only [Go.Ex.part,SX,SXl,List.map_nil] at h1 h2
 rw [agsX_eq]
 refine ce rfl ?_
 simp [h1,h2,w1]
 simp only [zaa7]
 refine (loop105_0 p s hs on s.bu.length _ (Nat.le_refl _) (by simp [h1,h2,w1,out0])).mono ?_
 rintro ⟨y,st⟩ ⟨rfl,hq⟩
 simp [hq]
 simp only [zaa7]
 refine (zjb7 (live:=[2,3,5,6,42,43,44]) (drop:=[2,3,5,6,42]) s.th (by omega) (fun k => ⟨E118 on (out1 p s k) ++ [(42,.dat (.sl (s.th.map TD))),(43,.dat (N s.th.length)),(44,.dat (N k))],X118 p s (out1 p s k)⟩)
  (fun _ q => q.1 = .exit 2 ∧ ∃ os,hd [6] [] q.2 = some ⟨[(6,.rsl ((7,0),0,0) (out1 p s s.th.length).length 1 0 (out1 p s s.th.length).length)],os⟩ ∧ gT os (7,0) = some (aI (out1 p s s.th.length).length (out1 p s s.th.length)))
  (fun i y st g1 g2 g3 ix hs' => ?_) (fun st hs' => ?_) _ (by simp [hq,out1])).mono ?_
 ·obtain ⟨b,b1,b2⟩:=zib7 s.bu (i:=i) (by rw [V.l]; omega)
  have h3:=run169 p hf bd s hs V hp i y b g1 b1 on hon (fun j hj => hen i y j g1 hj)
  have hz : (s.th.zip s.bu)[i]? = some (y,b):=by rw [List.getElem?_zip_eq_some]; exact ⟨g1,b1⟩
  have e : out1 p s (i + 1) = out1 p s i ++ (if enX p s y b = true then [y.id] else []):=by
   unfold out1
   rw [zhe7 hz,List.filterMap_append,List.append_assoc]
   congr 2
   unfold thA enX
   cases c : penT p y with
   | none => simp [c]
   | some j => cases c2 : enaX p s y b j <;> simp [c,c2]
  have hl:=out1_len p s i
  have r : ((out1 p s i).length + 1) * 9 ≤ 1099511627776:=by omega
  cases c : enX p s y b <;> rw [c] at h3 e
  ·simp at e
   simp [hs',g1,g2,g3,ix,h3,e]
  ·simp at e
   simp [hs',g1,g2,g3,ix,h3,e,r]
 ·simp [hs']
 ·rintro ⟨y,st⟩ ⟨rfl,os,hq,ho⟩
  have e : min s.th.length s.bu.length = s.th.length:=by rw [V.l]; simp
  rw [e]
  simp [hq,ho]
end Go.Am.E

set_option maxRecDepth 10000
set_option maxHeartbeats 16000000
namespace Go.Am.E
open Go.Proofs Go.Ex Go.Rc
theorem run69 (p : Pg) (hf : Fit p) (s : Sa) (hs : Sb s) : K 69 [.dat (PD p),.dat (SX s)] [] = some (.dat (Ns (if valX p 32 s = true then agsX p s else [])),[]):=by
 have h1:=run104 p hf 32 (by omega) s hs
 refine ce rfl ?_
 cases c1 : valX p 32 s <;> rw [c1] at h1
 ·simp [h1]
 ·obtain ⟨V,hp⟩:=valX_ok c1
  have h2:=run105 p hf 32 (by omega) s hs V hp
  generalize agsX p s = A at *
  simp [h1,h2]
def locA (s : Sa) (a : Int) : AVal:=match fndT s.th (Go.Ex.thr a) with
 | some k => .tup [.dat (PX s k),.dat (.bool true)]
 | none => .tup [.dat (PX s 0),.dat (.bool false)]
theorem run118 (s : Sa) (hs : Sb s) (a : Int) (ha : -100000000000000 < a) : K 118 [.dat (SX s),.dat (N a)] [] = some (locA s a,[]):=by
 have h1:=run75 a ha
 have h2:=run129 s.th (Go.Ex.thr a) (by have:=hs.th; omega)
 unfold fndP at h2
 refine ce rfl ?_
 unfold locA
 cases c : fndT s.th (Go.Ex.thr a) with
 | none =>
  simp only [c] at h2
  simp [h1,h2]
 | some k =>
  simp only [c] at h2
  simp [h1,h2]
def nmX (p : Pg) (s : Sa) (a : Int) : Option Evt:=match fndT s.th (Go.Ex.thr a) with
 | none => none
 | some k => match s.th[k]?,s.bu[k]? with
  | some t,some b => if a < 0 then flsX t b else (penT p t).map (labX s t b)
  | _,_ => none
theorem run119 (p : Pg) (hf : Fit p) (bd : Int) (hb32 : bd ≤ 32) (s : Sa) (hs : Sb s) (V : Vx p bd s) (hp : chP p = 0) (a : Int) (ha : -100000000000000 < a) : K 119 [.dat (PD p),.dat (SX s),.dat (N a)] [] = some (evP (nmX p s a),[]):=by
 have h1:=run118 s hs a ha
 have h2:=run99 a
 unfold locA at h1
 refine ce rfl ?_
 unfold nmX
 cases c : fndT s.th (Go.Ex.thr a) with
 | none =>
  simp only [c] at h1
  simp [h1,evP]
 | some k =>
  simp only [c] at h1
  obtain ⟨t,t1,t2⟩:=zhf7 c
  have k1:=(List.getElem?_eq_some_iff.1 t1).1
  obtain ⟨b,b1,b2⟩:=zib7 s.bu (i:=k) (by rw [V.l]; exact k1)
  have h3:=run179 s k t b t1 b1 (hs.ts t (List.mem_of_getElem? t1))
  have h4:=run180 p hf bd hb32 s hs V hp k t b t1 b1
  unfold lbxP at h4
  simp only [t1,b1]
  by_cases c2 : a < 0
  ·simp only [c2,if_true]
   generalize flsX t b = r at *
   cases r <;> simp only [evP] at h3 ⊢ <;> simp [h1,h2,h3,c2]
  ·simp only [c2,if_false]
   generalize (penT p t).map (labX s t b) = r at *
   cases r <;> simp only [evP] at h4 ⊢ <;> simp [h1,h2,h4,c2]
end Go.Am.E

set_option maxRecDepth 10000
set_option maxHeartbeats 16000000
namespace Go.Am.E
open Go.Proofs Go.Ex Go.Rc
theorem run120f (p : Pg) (bd : Int) (s : Sa) (hs : Sb s) (k : Nat) (t : Th) (b : Bu) (ht : s.th[k]? = some t) (hb : s.bu[k]? = some b) (x : Int × Int) (r : List (Int × Int)) (hx : b.es = x :: r) (hv : valB b = true) (e : Evt) (h4 : e.kind = 4) (hw : wrE s.me e.obj e.wr = 0) :
  K 120 [.dat (PX s k),.dat (PD p),.dat (N bd),.dat (ED e)] [] = some (.tup [.dat (SX ⟨s.th,wrM s.me e.obj e.wr,s.bu.set k ⟨b.t,b.f + 1,r⟩⟩),.dat (N 0)],[]):=by
 have h1:=run181 s k t b ht hb
 have h2:=run124 s hs
 have h3:=run182 b (hs.bs b (List.mem_of_getElem? hb)) x r hx hv
 have h5:=run183 s.me hs.me e.obj e.wr hw
 have k1:=(List.getElem?_eq_some_iff.1 hb).1
 have b2:=(List.getElem?_eq_some_iff.1 hb).2
 have k2 : (k : Int) < s.bu.length:=by omega
 obtain ⟨bt,bf,es⟩:=b
 simp only at hx
 subst hx
 obtain ⟨x1,x2⟩:=x
 simp only [BD,List.map_cons] at h1 h3
 rw [show NP (x1,x2) = .agg [N x1,N x2] from rfl] at h1 h3
 refine ce rfl ?_
 simp [h1,h2,h3,h5,h4,k1,k2,hb,b2,zac7,zfe7,BD]
theorem run120l (p : Pg) (hf : Fit p) (bd : Int) (s : Sa) (hs : Sb s) (k : Nat) (t : Th) (b : Bu) (ht : s.th[k]? = some t) (hb : s.bu[k]? = some b) (e : Evt) (h18 : e.kind = 1 ∨ e.kind = 8) (hc : Go.Ex.cmpE p bd t e.rd = 0) :
  K 120 [.dat (PX s k),.dat (PD p),.dat (N bd),.dat (ED e)] [] = some (.tup [.dat (SX ⟨s.th.set k (cmpT p bd t e.rd),s.me,s.bu⟩),.dat (N 0)],[]):=by
 have h1:=run181 s k t b ht hb
 have h2:=run124 s hs
 have h3:=run128 p hf bd t (hs.ts t (List.mem_of_getElem? ht)) e.rd
 unfold cmpPr at h3
 rw [if_pos hc] at h3
 generalize cmpT p bd t e.rd = t' at *
 have k1:=(List.getElem?_eq_some_iff.1 ht).1
 have t2:=(List.getElem?_eq_some_iff.1 ht).2
 have k2 : (k : Int) < s.th.length:=by omega
 have dr : List.drop 17 (TDl t) = []:=List.drop_of_length_le (by simp)
 obtain ⟨bt,bf,es⟩:=b
 simp only [BD] at h1
 have n4 : ¬ e.kind = 4:=by omega
 have n3 : ¬ e.kind = 3:=by omega
 refine ce rfl ?_
 simp [h1,h2,h3,n4,n3,k1,k2,ht,t2,zac7,zfe7,dr]
theorem run120b (p : Pg) (hf : Fit p) (bd : Int) (s : Sa) (hs : Sb s) (k : Nat) (t : Th) (b : Bu) (ht : s.th[k]? = some t) (hb : s.bu[k]? = some b) (e : Evt) (h3 : e.kind = 3) (hp0 : pshE b e.obj e.wr = 0) (hc : Go.Ex.cmpE p bd t e.rd = 0) :
  K 120 [.dat (PX s k),.dat (PD p),.dat (N bd),.dat (ED e)] [] = some (.tup [.dat (SX ⟨s.th.set k (cmpT p bd t e.rd),s.me,s.bu.set k ⟨b.t,b.f,b.es ++ [(e.obj,e.wr)]⟩⟩),.dat (N 0)],[]):=by
 have h1:=run181 s k t b ht hb
 have h2:=run124 s hs
 have h4:=run184 b (hs.bs b (List.mem_of_getElem? hb)) e.obj e.wr hp0
 have h5:=run128 p hf bd t (hs.ts t (List.mem_of_getElem? ht)) e.rd
 unfold cmpPr at h5
 rw [if_pos hc] at h5
 generalize cmpT p bd t e.rd = t' at *
 have k1:=(List.getElem?_eq_some_iff.1 ht).1
 have t2:=(List.getElem?_eq_some_iff.1 ht).2
 have k2 : (k : Int) < s.th.length:=by omega
 have j1:=(List.getElem?_eq_some_iff.1 hb).1
 have b2:=(List.getElem?_eq_some_iff.1 hb).2
 have j2 : (k : Int) < s.bu.length:=by omega
 have dr : List.drop 17 (TDl t) = []:=List.drop_of_length_le (by simp)
 obtain ⟨bt,bf,es⟩:=b
 simp only [BD] at h1 h4
 refine ce rfl ?_
 simp at h4
 simp [h1,h2,h3,h4,h5,k1,k2,ht,t2,j1,j2,hb,b2,zac7,zfe7,dr,BD]
theorem run120e (p : Pg) (bd : Int) (s : Sa) (hs : Sb s) (k : Nat) (t : Th) (b : Bu) (ht : s.th[k]? = some t) (hb : s.bu[k]? = some b) (e : Evt) (h3 : e.kind = 3) (hp0 : pshE b e.obj e.wr ≠ 0) :
  K 120 [.dat (PX s k),.dat (PD p),.dat (N bd),.dat (ED e)] [] = some (.tup [.dat (.agg [.sl [],.sl [],.sl [],.sl [],.sl [],.sl []]),.dat (N 30)],[]):=by
 have h1:=run181 s k t b ht hb
 have h2:=run124 s hs
 have h4:=run184e b (hs.bs b (List.mem_of_getElem? hb)) e.obj e.wr hp0
 have hp1 : (pshE b e.obj e.wr = 0) = False:=by simp [hp0]
 generalize pshE b e.obj e.wr = E at *
 obtain ⟨bt,bf,es⟩:=b
 simp only [BD] at h1 h4
 refine ce rfl ?_
 simp [h1,h2,h3,h4,hp1]
end Go.Am.E

set_option maxRecDepth 10000
set_option maxHeartbeats 16000000
namespace Go.Am.E
open Go.Proofs Go.Ex Go.Rc
abbrev SD0 : Dat:=.agg [.sl [],.sl [],.sl [],.sl [],.sl [],.sl []]
def nbu (l : List Bu) (u : Th) : Bu:=match fndB l u.id with
 | some j => (l[j]?).getD ⟨u.id,0,[]⟩
 | none => ⟨u.id,0,[]⟩
abbrev ebox (e : Evt) : TObj:=.plain (.box [.dat (N e.ag),.dat (N e.idx),.dat (N e.kind),.dat (N e.obj),.dat (N e.mux),.dat (N e.ent),.dat (N e.ord),.dat (N e.rd),.dat (N e.wr)])
abbrev E249 : Env:=[(8,.ref ((9,0),0,0) 0),(9,.ref ((10,0),0,0) 0),(11,.ref ((12,0),0,0) 0),(12,.ref ((13,0),0,0) 0)]
abbrev X249 (s : Sa) (e : Evt) (l : List Bu) : zta7:=[((9,0),nil6),((10,0),ebox noEv),((12,0),.plain (.box [.rsl ((12,1),0,0) 0 17 0 s.th.length,.rsl ((12,2),0,0) 0 1 0 s.me.va.length,.rsl ((12,3),0,0) 0 1 0 s.me.ow.length,.rsl ((12,4),0,0) 0 1 0 s.me.qu.length,.rsl ((12,5),0,0) 0 1 0 s.me.sg.length,.rsl ((12,6),0,0) l.length 3 0 l.length])),
 ((13,0),ebox e),((12,1),tA 0 s.th),((12,2),aI 0 s.me.va),((12,3),aI 0 s.me.ow),((12,4),fQ s.me),((12,5),aI 0 s.me.sg),((12,6),bA l.length l)]
theorem loop121 (s : Sa) (hl : s.th.length < 1000000000) (e : Evt) (old : List Bu) (ho : old.length < 1000000000) (st : St) (h : hd [8,9,11,12,14,40,41,42] [8,9,11,12,14,40] st = some ⟨E249 ++ [(14,.dat (.sl (old.map BD))),(40,.rsl ((12,1),0,0) 0 17 0 s.th.length),(41,.dat (N s.th.length)),(42,.dat (N 0))],X249 s e []⟩) :
  Ev (zga7 (exec K l121_0) st) fun q => q.1 = .exit 0 ∧ hd [8,9,11,12] [] q.2 = some ⟨E249,X249 s e (s.th.map (nbu old))⟩:=by
 refine zjb7 (live:=[8,9,11,12,14,40,41,42]) (drop:=[8,9,11,12,14,40]) s.th (by omega) (fun k => ⟨E249 ++ [(14,.dat (.sl (old.map BD))),(40,.rsl ((12,1),0,0) 0 17 0 s.th.length),(41,.dat (N s.th.length)),(42,.dat (N k))],X249 s e ((s.th.take k).map (nbu old))⟩) (fun _ q => q.1 = .exit 0 ∧ hd [8,9,11,12] [] q.2 = some ⟨E249,X249 s e (s.th.map (nbu old))⟩)
  (fun i y st g1 g2 g3 ix hs' => ?_) (fun st hs' => ?_) st (by rw [h]; simp)
 ·have h1:=run186 old y.id ho
  unfold fndBP at h1
  have e1 : (s.th.take (i + 1)).map (nbu old) = (s.th.take i).map (nbu old) ++ [nbu old y]:=by rw [zhe7 g1,List.map_append]; rfl
  have hi : i < s.th.length:=by omega
  have hlen : ((s.th.take i).map (nbu old)).length = i:=by simp; omega
  generalize (s.th.take i).map (nbu old) = L at *
  have r : (L.length + 1) * 41 ≤ 1099511627776:=by omega
  cases c : fndB old y.id with
  | none =>
   simp only [c] at h1
   have e3 : nbu old y = ⟨y.id,0,[]⟩:=by unfold nbu; rw [c]
   rw [e3] at e1
   simp [hs',g1,g2,g3,ix,h1,e1,hi,r,BD]
   have e2 : List.take (i + 1) (List.map (BD ∘ nbu old) s.th) = L.map BD ++ [BD ⟨y.id,0,[]⟩]:=by
    rw [← List.map_take,← List.map_map,e1]; simp
   exact ⟨by omega,by rw [e2]; simp [BD]⟩
  | some j =>
   simp only [c] at h1
   have hj:=fndB_lt c
   obtain ⟨b,b1,b2⟩:=zib7 old hj
   have j2 : (j : Int) < old.length:=by omega
   have e3 : nbu old y = b:=by unfold nbu; rw [c]; simp only [b1,Option.getD_some]
   rw [e3] at e1
   obtain ⟨bt,bf,es⟩:=b
   simp [hs',g1,g2,g3,ix,h1,e1,hi,r,BD,hj,b1,b2,j2]
   have e2 : List.take (i + 1) (List.map (BD ∘ nbu old) s.th) = L.map BD ++ [BD ⟨bt,bf,es⟩]:=by
    rw [← List.map_take,← List.map_map,e1]; simp
   exact ⟨by omega,by rw [e2]; simp [BD]⟩
 ·simp [hs']
theorem stpS_bu (p : Pg) (bd : Int) (s : Sa) (a : Int) : (stpS p bd s a).2.1.bu = []:=by
 unfold stpS
 split
 ·rfl
 split
 ·rfl
 split
 ·rfl
 split
 ·rfl
 simp only
 split
 ·rfl
 split <;> rfl
def oR (s : Sa) (r : Res) : AVal × List TObj:=if r.1 = 0 then (.tup [.dat (SX ⟨r.2.1.th,r.2.1.me,r.2.1.th.map (nbu s.bu)⟩),.dat (ED r.2.2),.dat (N 0)],[]) else (.tup [.dat SD0,.dat (ED noEv),.dat (N r.1)],[])
theorem run121 (p : Pg) (hf : Fit p) (bd : Int) (s : Sa) (hs : Sb s) (k : Nat) (a : Int) (hM : ∀ t E,effE s.me t E = 0 → Mb (effM s.me t E)) (hl : (stpS p bd (Go.Ex.part s) a).2.1.th.length < 1000000000) : K 121 [.dat (PX s k),.dat (PD p),.dat (N bd),.dat (N a)] [] = some (oR s (stpS p bd (Go.Ex.part s) a)):=by
 have h1:=run168 s k
 have h2:=run85 p hf bd (Go.Ex.part s) ⟨hs.th,hs.ts,hs.me,by simp [Go.Ex.part],by simp [Go.Ex.part]⟩ a hM
 have h3:=run185 s.bu hs.bu hs.bs
 have hbu:=stpS_bu p bd (Go.Ex.part s) a
 generalize hr : stpS p bd (Go.Ex.part s) a = r at *
 obtain ⟨E,s',e⟩:=r
 refine ce rfl ?_
 unfold stepR at h2
 rcases Classical.propComplete (E = 0) with c | c
 ·have c' : E = 0:=by rw [c]; trivial
  subst c'
  simp only at hbu hl
  simp [c] at h2
  simp [h1,h2,h3,oR]
  simp only [zaa7]
  refine (loop121 s' hl e s.bu hs.bu _ (by simp [X249,E249,ebox,hbu,noEv])).mono ?_
  rintro ⟨q,st⟩ ⟨hq1,hq⟩
  simp only at hq1 hq
  subst hq1
  simp [X249,E249,ebox] at hq
  simp [hq]
 ·have c' : ¬ E = 0:=by rw [c]; trivial
  simp [c] at h2
  simp [h1,h2,h3,oR,c,c',noEv]
end Go.Am.E

set_option maxRecDepth 10000
set_option maxHeartbeats 16000000
namespace Go.Am.E
open Go.Proofs Go.Ex Go.Rc
theorem vx_bt {p : Pg} {bd : Int} {s : Sa} (V : Vx p bd s) {k : Nat} {t : Th} {b : Bu} (ht : s.th[k]? = some t) (hb : s.bu[k]? = some b) : b.t = t.id ∧ 0 ≤ t.id:=by
 have h:=congrArg (fun l => l[k]?) V.i
 simp only [List.getElem?_map,ht,hb,Option.map_some,Option.some.injEq] at h
 have:=(valB_ok (V.b b (List.mem_of_getElem? hb))).1
 omega
theorem dep_lt {id : Int} (h : dep id ≠ none) : 0 ≤ id ∧ id < 10000000:=by
 unfold dep at h
 split at h
 ·exact absurd rfl h
 ·rename_i c
  cases hd : dpt 5 id with
  | none => rw [hd] at h; exact absurd rfl h
  | some d =>
   have:=dep_bd hd
   omega
theorem frmT_dep {p : Pg} {bd : Int} {t : Th} (h : frmT p bd t = true) : dep t.id ≠ none:=by
 unfold frmT at h
 split at h
 ·cases h
 ·rename_i d hd; rw [hd]; simp
theorem agsX_mem {p : Pg} {bd : Int} {s : Sa} (V : Vx p bd s) (hs : Sb s) {a : Int} (h : a ∈ agsX p s) : ∃ k t b,fndT s.th (Go.Ex.thr a) = some k ∧ s.th[k]? = some t ∧ s.bu[k]? = some b ∧ -100000000000000 < a ∧
  (a < 0 → ∃ x r,b.es = x :: r) ∧ (¬ a < 0 → ∃ i,penT p t = some i ∧ enaX p s t b i = true):=by
 unfold agsX at h
 rw [List.mem_append,List.mem_filterMap,List.mem_filterMap] at h
 rcases h with ⟨b,hb,h⟩ | ⟨⟨t,b⟩,hq,h⟩
 ·rw [List.mem_reverse,List.mem_iff_getElem?] at hb
  obtain ⟨k,hb⟩:=hb
  have hk:=(List.getElem?_eq_some_iff.1 hb).1
  obtain ⟨t,t1,t2⟩:=zib7 s.th (i:=k) (by have:=V.l; omega)
  have hbt:=vx_bt V t1 hb
  have hok:=V.t t (List.mem_of_getElem? t1)
  unfold okT at hok
  rw [Bool.and_eq_true] at hok
  have hB:=dep_lt (frmT_dep hok.1)
  split at h
  ·cases h
  ·rename_i hne
   simp only [Option.some.injEq,fls] at h
   rw [if_neg (by omega)] at h
   have hn : a < 0:=by omega
   have hthr : Go.Ex.thr a = t.id:=by unfold Go.Ex.thr; rw [if_pos hn]; omega
   refine ⟨k,t,b,by rw [hthr]; exact fndT_srt V.sr t1,t1,hb,by omega,fun _ => ?_,fun hc => absurd hn hc⟩
   cases hes : b.es with
   | nil => rw [hes] at hne; exact absurd rfl hne
   | cons x r => exact ⟨x,r,rfl⟩
 ·rw [List.mem_iff_getElem?] at hq
  obtain ⟨k,hk⟩:=hq
  rw [List.getElem?_zip_eq_some] at hk
  obtain ⟨t1,b1⟩:=hk
  have hbt:=vx_bt V t1 b1
  cases hp : penT p t with
  | none => simp only [hp] at h; cases h
  | some i =>
   simp only [hp] at h
   split at h
   ·rename_i he
    simp only [Option.some.injEq] at h
    simp only at hp t1 b1 hbt he
    have hn : ¬ a < 0:=by omega
    have hthr : Go.Ex.thr a = t.id:=by unfold Go.Ex.thr; rw [if_neg hn,h]
    exact ⟨k,t,b,by rw [hthr]; exact fndT_srt V.sr t1,t1,b1,by omega,fun hc => absurd hc hn,fun _ => ⟨i,hp,he⟩⟩
   ·cases h
theorem lab_kind {s : Sa} {t : Th} {i : In} (hv : vis i.op = true) (h : ¬ (i.op = 8 ∨ i.op = 9 ∨ i.op = 14)) : ¬ (labS s t i).kind = 1 ∧ ¬ (labS s t i).kind = 8 ∧ ¬ (labS s t i).kind = 3 ∧ ¬ (labS s t i).kind = 4:=by
 have hv : 8 ≤ i.op ∧ i.op ≤ 22:=by simpa [vis] using hv
 by_cases ha : i.op = 10 ∨ i.op = 11 ∨ i.op = 12
 ·have e : labS s t i = accL s t i:=by
   unfold labS
   rw [if_neg (by omega),if_neg (by omega),if_neg (by omega),if_neg (by omega),if_neg (by omega),if_neg (by omega),if_neg (by omega),if_neg (by omega),if_neg (by omega)]
  rw [e,accL_eq]
  unfold accE
  rcases ha with o | o | o <;> simp only [o] <;> simp
  all_goals (repeat' (first | split | omega | simp))
 ·have : i.op = 13 ∨ i.op = 15 ∨ i.op = 16 ∨ i.op = 17 ∨ i.op = 18 ∨ i.op = 19 ∨ i.op = 20 ∨ i.op = 21 ∨ i.op = 22:=by omega
  unfold labS
  rcases this with o | o | o | o | o | o | o | o | o <;> simp only [o] <;> simp
  all_goals (repeat' (first | split | omega | simp))
theorem see_ok {p : Pg} {bd : Int} {s : Sa} (V : Vx p bd s) {b : Bu} (hb : b ∈ s.bu) {i : In} (P : Pn p s.me i) (ho : i.op = 8 ∨ i.op = 14) : okV (see s b i.o).1 = true:=by
 have hg:=geti_ok P (by omega)
 unfold see lokB
 cases h : lokL b.es i.o with
 | none => simpa using hg
 | some q =>
  have hb:=V.b b hb
  rw [valB_eq] at hb
  simp only [Bool.and_eq_true,List.all_eq_true] at hb
  have key : ∀ (l : List (Int × Int)) (x : Int) (q : Int × Nat),lokL l x = some q → ∃ e ∈ l,e.2 = q.1:=by
   intro l x
   induction l with
   | nil => intro q h; cases h
   | cons e r ih =>
    intro q h
    unfold lokL at h
    split at h
    ·rename_i v k hr
     obtain ⟨e',h1,h2⟩:=ih (v,k) hr
     simp only [Option.some.injEq] at h
     exact ⟨e',List.mem_cons_of_mem _ h1,by rw [h2,← h]⟩
    ·split at h
     ·simp only [Option.some.injEq] at h
      exact ⟨e,List.mem_cons_self,by rw [← h]⟩
     ·cases h
  obtain ⟨e,h1,h2⟩:=key _ _ _ h
  have:=hb.2 e h1
  simp only [Option.map_some,Option.getD_some]
  rw [← h2]
  unfold entB at this
  simp only [Bool.and_eq_true] at this
  exact this.2
end Go.Am.E

set_option maxRecDepth 10000
set_option maxHeartbeats 16000000
namespace Go.Am.E
open Go.Proofs Go.Ex Go.Rc
def oX (r : Res) : AVal:=if r.1 = 0 then .tup [.dat (SX r.2.1),.dat (ED r.2.2),.dat (N 0)] else .tup [.dat SD0,.dat (ED noEv),.dat (N r.1)]
theorem chP_std {p : Pg} {bd : Int} (h : chP p = 0) (h1 : 1 ≤ bd) (h2 : bd ≤ 32) : stdE p bd = 0:=by unfold stdE; rw [if_neg (by omega),if_neg (by omega)]
theorem agsX_len (p : Pg) {s : Sa} (hs : Sb s) : (agsX p s).length < 100000000000:=by
 have hth:=hs.th
 have hbu:=hs.bu
 unfold agsX
 rw [List.length_append]
 refine Nat.lt_of_le_of_lt (Nat.add_le_add (List.length_filterMap_le _ _) (List.length_filterMap_le _ _)) ?_
 rw [List.length_reverse,List.length_zip]
 omega
theorem run84a (p : Pg) (hf : Fit p) (bd : Int) (s : Sa) (hs : Sb s) (a : Int) (h : stdE p bd ≠ 0 ∨ valX p bd s = false ∨ (agsX p s).contains a = false) :
  K 84 [.dat (PD p),.dat (N bd),.dat (SX s),.dat (N a)] [] = some (oX (stpX p bd s a),[]):=by
 obtain ⟨x1,x2,h1⟩:=run54 p hf
 refine ce rfl ?_
 unfold stpX stdE
 by_cases c1 : chP p = 0
 rotate_left
 ·simp [h1,c1,oX,bad,noEv]
 rw [c1] at h1
 by_cases c2 : bd < 1
 ·simp [h1,c1,c2,oX,bad,noEv]
 by_cases c3 : 32 < bd
 ·simp [h1,c1,c2,c3,oX,bad,noEv]
 have h2:=run104 p hf bd (by omega) s hs
 have z:=chP_std c1 (by omega) (by omega : bd ≤ 32)
 cases c4 : valX p bd s
 ·rw [c4] at h2
  simp [h1,c1,c2,c3,h2,oX,bad,noEv]
 rw [c4] at h2
 obtain ⟨V,-⟩:=valX_ok c4
 have h3:=run105 p hf bd (by omega) s hs V c1
 have h4:=run28 (agsX p s) a (agsX_len p hs)
 have c5 : (agsX p s).contains a = false:=by
  rcases h with h | h | h
  ·exact absurd z h
  ·rw [c4] at h; cases h
  ·exact h
 rw [c5] at h4
 have c5' : ¬ a ∈ agsX p s:=by rw [List.contains_eq_mem] at c5; simpa using c5
 simp [h1,c1,c2,c3,h2,h3,h4,oX,bad,noEv,c5']
theorem run84 (p : Pg) (hf : Fit p) (bd : Int) (s : Sa) (hs : Sb s) (a : Int) (hM : ∀ t E,effE s.me t E = 0 → Mb (effM s.me t E)) (hl : (stpS p bd (Go.Ex.part s) a).2.1.th.length < 1000000000) :
  K 84 [.dat (PD p),.dat (N bd),.dat (SX s),.dat (N a)] [] = some (oX (stpX p bd s a),[]):=by
 by_cases h : stdE p bd ≠ 0 ∨ valX p bd s = false ∨ (agsX p s).contains a = false
 ·exact run84a p hf bd s hs a h
 have z : stdE p bd = 0:=by by_cases c : stdE p bd = 0; exact c; exact absurd (.inl c) h
 have c4 : valX p bd s = true:=by
  cases c : valX p bd s
  ·exact absurd (.inr (.inl c)) h
  ·rfl
 have c5 : (agsX p s).contains a = true:=by
  cases c : (agsX p s).contains a
  ·exact absurd (.inr (.inr c)) h
  ·rfl
 obtain ⟨hp,hb1,hb2⟩:=zvc7 z
 obtain ⟨V,-⟩:=valX_ok c4
 have hmem : a ∈ agsX p s:=by rw [List.contains_eq_mem] at c5; simpa using c5
 obtain ⟨k,t,b,f1,t1,b1,ha,hneg,hpos⟩:=agsX_mem V hs hmem
 obtain ⟨x1,x2,h1⟩:=run54 p hf
 rw [hp] at h1
 have h2:=run104 p hf bd ⟨hb1,hb2⟩ s hs
 rw [c4] at h2
 have h3:=run105 p hf bd hb2 s hs V hp
 have h4:=run28 (agsX p s) a (agsX_len p hs)
 rw [c5] at h4
 have h5:=run118 s hs a ha
 unfold locA at h5
 rw [f1] at h5
 simp only at h5
 have h6:=run119 p hf bd hb2 s hs V hp a ha
 unfold nmX at h6
 rw [f1] at h6
 simp only [t1,b1] at h6
 have q1 : ¬ bd < 1:=by omega
 have q2 : ¬ 32 < bd:=by omega
 have tm:=List.mem_of_getElem? t1
 have bm:=List.mem_of_getElem? b1
 have E0 : stpX p bd s a = (if a < 0 then (match flsX t b with
    | none => bad 19
    | some e => (0,⟨s.th,wrM s.me e.obj e.wr,s.bu.set k ⟨b.t,b.f + 1,b.es.tail⟩⟩,e))
   else match penT p t with
    | none => bad 19
    | some i =>
     let e:=labX s t b i
     if i.op = 8 ∨ i.op = 14 then (0,⟨s.th.set k (cmpT p bd t e.rd),s.me,s.bu⟩,e)
     else if i.op = 9 then (if b.f + b.es.length = 32 then bad 30 else (0,⟨s.th.set k (cmpT p bd t 0),s.me,s.bu.set k ⟨b.t,b.f,b.es ++ [(e.obj,e.wr)]⟩⟩,e))
     else
      let r:=stpS p bd (Go.Ex.part s) a
      if r.1 ≠ 0 then r
      else (0,⟨r.2.1.th,r.2.1.me,r.2.1.th.map (nbu s.bu)⟩,r.2.2)):=by
  unfold stpX
  rw [if_neg (by simp [z]),if_neg (by simp [c4]),if_neg (by rw [c5]; simp),f1]
  simp only [t1,b1]
  rfl
 rw [E0]
 clear E0
 by_cases hn : a < 0
 ·rw [if_pos hn]
  obtain ⟨x,r,hx⟩:=hneg hn
  have hfl : flsX t b = some ⟨fls t.id,b.f,4,x.1,-1,b.f,0,0,x.2⟩:=by unfold flsX; rw [hx]
  rw [if_pos hn,hfl] at h6
  rw [hfl,hx]
  have hv:=V.b b bm
  have hw : wrE s.me x.1 x.2 = 0:=by
   have hm:=V.m
   simp only [valM,Bool.and_eq_true,decide_eq_true_eq] at hm
   have he:=hv
   rw [valB_eq] at he
   simp only [Bool.and_eq_true,List.all_eq_true] at he
   have hxm : x ∈ b.es:=by rw [hx]; exact List.mem_cons_self
   have hx1:=he.2 x hxm
   unfold entB at hx1
   simp only [Bool.and_eq_true,decide_eq_true_eq] at hx1
   have hi:=inE_in hm.1.2 hx1.1.1 (n:=s.me.va.length) (by rw [hm.2.1]; exact V.v b bm x hxm)
   unfold wrE
   rw [if_neg (by simp [hi]),if_neg (by simp [hx1.2])]
  have h7:=run120f p bd s hs k t b t1 b1 x r hx hv ⟨fls t.id,b.f,4,x.1,-1,b.f,0,0,x.2⟩ rfl hw
  simp only [evP] at h6
  simp only at h7 ⊢
  generalize wrM s.me x.1 x.2 = m' at *
  refine ce rfl ?_
  simp [h1,h2,h3,h4,h5,h6,h7,q1,q2,oX,hmem]
 rw [if_neg hn]
 rw [if_neg hn] at h6
 obtain ⟨i,hi,hen⟩:=hpos hn
 obtain ⟨P,hvis,hss,hok,hins⟩:=penT_pn hp V.m (hs.ts t tm) hi
 rw [hi] at h6
 simp only [hi]
 simp only [Option.map_some,evP] at h6
 have hcm : ∀ v,okV v = true → Go.Ex.cmpE p bd t v = 0:=by
  intro v hv
  unfold Go.Ex.cmpE
  rw [if_neg (by simp [z]),if_neg (by rw [V.t t tm]; simp),if_neg (by simp [hss]),hv]
  rfl
 by_cases o1 : i.op = 8 ∨ i.op = 14
 ·rw [if_pos o1]
  have hk : (labX s t b i).kind = 1 ∨ (labX s t b i).kind = 8:=by
   unfold labX; rcases o1 with o | o <;> simp [o]
  have hrd : (labX s t b i).rd = (see s b i.o).1:=by
   unfold labX; rcases o1 with o | o <;> simp [o]
  have h7:=run120l p hf bd s hs k t b t1 b1 (labX s t b i) hk (hcm _ (by rw [hrd]; exact see_ok V bm P o1))
  generalize labX s t b i = e at *
  generalize cmpT p bd t e.rd = t' at *
  refine ce rfl ?_
  rcases hk with hk | hk <;> (simp only [ED,EDl,hk] at h6 h7; simp [h1,h2,h3,h4,h5,h6,h7,q1,q2,oX,hmem,hk])
 rw [if_neg o1]
 by_cases o9 : i.op = 9
 ·rw [if_pos o9]
  have hk : (labX s t b i).kind = 3:=by unfold labX; simp [o9]
  have hrd : (labX s t b i).rd = 0:=by unfold labX; simp [o9]
  have hpsh : pshE b (labX s t b i).obj (labX s t b i).wr = if b.f + b.es.length = 32 then 24 else 0:=by
   have ho : (labX s t b i).obj = i.o:=by unfold labX; simp [o9]
   have hwr : (labX s t b i).wr = reg t i.b:=by unfold labX; simp [o9]
   rw [ho,hwr]
   obtain ⟨g1,g2,g3⟩:=inE_ok (P.va (by omega))
   have hln:=P.len.2.1
   have h8:=(chP_lim hp).1
   obtain ⟨j,hj,j1,-⟩:=rg8 (P.reg.2.1 (by rw [o9]; rfl))
   have hrg : reg t i.b = t.rg j:=by unfold reg; rw [hj]; rfl
   have hok9 : okV (reg t i.b) = true:=by rw [hrg]; exact okV_iff.2 ((frmT_fr hp (okT_run hok hss).1).rg j j1)
   unfold pshE
   rw [if_neg (by rw [V.b b bm]; simp),if_neg (by omega),if_neg (by simp [hok9])]
  by_cases c9 : b.f + b.es.length = 32
  ·rw [if_pos c9] at hpsh ⊢
   have h7:=run120e p bd s hs k t b t1 b1 (labX s t b i) hk (by rw [hpsh]; decide)
   generalize labX s t b i = e at *
   simp only [ED,EDl,hk] at h6 h7
   refine ce rfl ?_
   simp [h1,h2,h3,h4,h5,h6,h7,q1,q2,oX,hmem,hk,bad,noEv]
  ·rw [if_neg c9] at hpsh ⊢
   have h7:=run120b p hf bd s hs k t b t1 b1 (labX s t b i) hk hpsh (hcm _ (by rw [hrd]; rfl))
   rw [hrd] at h7
   generalize labX s t b i = e at *
   generalize cmpT p bd t 0 = t' at *
   simp only [ED,EDl,hk] at h6 h7
   refine ce rfl ?_
   simp [h1,h2,h3,h4,h5,h6,h7,q1,q2,oX,hmem,hk]
 rw [if_neg o9]
 have hlab : labX s t b i = labS (Go.Ex.part s) t i:=by
  unfold labX
  rw [if_neg (by omega),if_neg (by omega),if_neg o9]
 obtain ⟨k1,k8,k3,k4⟩:=lab_kind (s:=Go.Ex.part s) (t:=t) hvis (by omega)
 rw [hlab] at h6
 have h7:=run121 p hf bd s hs k a hM hl
 generalize labS (Go.Ex.part s) t i = e at *
 generalize stpS p bd (Go.Ex.part s) a = r at *
 obtain ⟨E,s',e'⟩:=r
 simp only at hl
 refine ce rfl ?_
 unfold oR at h7
 rcases Classical.propComplete (E = 0) with c | c
 ·have c' : E = 0:=by rw [c]; trivial
  subst c'
  simp at h7
  simp [h1,h2,h3,h4,h5,h6,h7,q1,q2,oX,hmem,k1,k8,k3,k4]
 ·have c' : ¬ E = 0:=by rw [c]; trivial
  simp [c] at h7
  simp [h1,h2,h3,h4,h5,h6,h7,q1,q2,oX,hmem,k1,k8,k3,k4,c,c']
end Go.Am.E

set_option maxRecDepth 10000
set_option maxHeartbeats 16000000
namespace Go.Am.E
open Go.Proofs Go.Ex Go.Rc
def buS (p : Pg) (bd : Int) : List Bu:=(thS p bd).map fun t => ⟨t.id,0,[]⟩
theorem buS_get {p : Pg} {bd : Int} {i : Nat} {t : Th} (h : (thS p bd)[i]? = some t) : (buS p bd)[i]? = some ⟨t.id,0,[]⟩:=by
 unfold buS
 rw [List.getElem?_map,h]
 rfl
@[simp] theorem buS_len (p : Pg) (bd : Int) : (buS p bd).length = p.ts.length:=by simp [buS]
def X113 (p : Pg) (bd : Int) : Nat → zta7
 | 0 => [((5,0),nil6),((7,0),.plain (.box [.rsl ((7,1),0,0) (p.ts.length - 1) 17 0 p.ts.length,.dat (Ns (newM p).va),.dat (Ns (newM p).ow),.dat (.sl ((newM p).qu.map Ns)),.dat (Ns (newM p).sg),.nils])),((7,1),tA (p.ts.length - 1) (thS p bd))]
 | k + 1 => [((5,0),nil6),((7,0),.plain (.box [.rsl ((7,1),0,0) (p.ts.length - 1) 17 0 p.ts.length,.dat (Ns (newM p).va),.dat (Ns (newM p).ow),.dat (.sl ((newM p).qu.map Ns)),.dat (Ns (newM p).sg),.rsl ((7,2),0,0) k 3 0 (k + 1)])),((7,1),tA (p.ts.length - 1) (thS p bd)),((7,2),bA k ((buS p bd).take (k + 1)))]
abbrev E113 (p : Pg) (bd : Int) (k : Nat) : Env:=[(4,.ref ((5,0),0,0) 0),(6,.ref ((7,0),0,0) 0),(21,.rsl ((7,1),0,0) (p.ts.length - 1) 17 0 p.ts.length),(22,.dat (N p.ts.length)),(23,.dat (N k))]
theorem run56 (p : Pg) (hf : Fit p) (bd : Int) (h0 : stdE p bd = 0) : K 56 [.dat (PD p),.dat (N bd)] [] = some (.tup [.dat (SX ⟨thS p bd,newM p,buS p bd⟩),.dat (N 0)],[]):=by
 have h1:=run57 p hf bd h0
 have hp:=(zvc7 h0).1
 obtain ⟨l1,l2,l3⟩:=chP_thr hp
 refine ce rfl ?_
 simp [h1]
 simp only [zaa7]
 refine (zjb7 (live:=[4,6,21,22,23]) (drop:=[4,6,21]) (thS p bd) (by simp; omega) (fun k => ⟨E113 p bd k,X113 p bd k⟩) (fun _ q => q.1 = .exit 0 ∧ hd [4,6] [] q.2 = some ⟨[(4,.ref ((5,0),0,0) 0),(6,.ref ((7,0),0,0) 0)],X113 p bd p.ts.length⟩)
  (fun i y s g1 g2 g3 ix hs => ?_) (fun s hs => ?_) _ (by simp [h1,X113])).mono ?_
 ·have e:=zhe7 (buS_get g1)
  cases i with
  | zero =>
   have h4 : 0 < p.ts.length:=by omega
   simp [X113,E113] at hs
   simp at e
   simp [hs,X113,g1,g2,ix,h4,e,BD]
  | succ i =>
   have h4 : i + 1 < p.ts.length:=by have:=(List.getElem?_eq_some_iff.1 g1).1; simpa using this
   have h5 : (i : Int) + 1 < p.ts.length:=by omega
   have h6 : i + 1 ≤ p.ts.length:=by omega
   have h7 : min (i + 1) p.ts.length = i + 1:=by omega
   have hr : (i + 1 + 1) * 41 ≤ 1099511627776:=by omega
   have wS : IntKind.wrap .i64 ((i : Int) + 1 + 1) = i + 1 + 1:=wrap_i64 (by omega) (by omega)
   simp [X113,E113] at hs
   have e':=congrArg (List.map BD) e
   simp [BD] at e'
   simp [hs,X113,g1,g2,ix,h4,h5,h6,h7,wS,hr,e',BD]
 ·simp [hs]
 ·rintro ⟨y,s⟩ ⟨rfl,hq⟩
  cases c : p.ts.length with
  | zero => omega
  | succ n =>
   have e : List.take (n + 1) (buS p bd) = buS p bd:=List.take_of_length_le (by simp [c])
   have e2 : List.take (n + 1) (List.map TD (thS p bd)) = List.map TD (thS p bd):=List.take_of_length_le (by simp [c])
   have e3 : List.take (n + 1) (List.map BD (buS p bd)) = List.map BD (buS p bd):=List.take_of_length_le (by simp [c])
   rw [c] at hq
   simp only [X113,e] at hq
   simp [hq,c,e2,e3]
end Go.Am.E

set_option maxRecDepth 10000
set_option maxHeartbeats 16000000
namespace Go.Am.E
open Go.Proofs Go.Ex Go.Rc
abbrev RD (p : Pg) (c : Cf) : Dat:=.agg [.sl (p.vs.map VD),.sl (p.ms.map S),.sl (p.cs.map S),.sl (p.fs.map FD),.sl (p.ts.map NP),N c.md,N c.bd]
def chR (p : Pg) (c : Cf) : AVal:=if chE p c = 0 then .tup [.dat (RD p c),.dat (N 0)] else .tup [.dat (.agg [.sl [],.sl [],.sl [],.sl [],.sl [],N 0,N 0]),.dat (N (chE p c))]
theorem run32 (p : Pg) (hf : Fit p) (c : Cf) : K 32 [.dat (PD p),.dat (CD c)] [] = some (chR p c,[]):=by
 obtain ⟨x1,x2,h1⟩:=run54 p hf
 have h2:=run55 c
 simp only [CD] at h2 ⊢
 refine ce rfl ?_
 unfold chR chE
 by_cases c1 : chP p = 0
 rotate_left
 ·simp [h1,c1]
 rw [c1] at h1
 by_cases c2 : cfE c = 0
 rotate_left
 ·simp [h1,h2,c1,c2]
 rw [c2] at h2
 by_cases c3 : c.md = 3
 ·rw [c3] at h2
  simp [h1,h2,c1,c2,c3]
 ·simp [h1,h2,c1,c2,c3]
theorem run33x (p : Pg) (hf : Fit p) (c : Cf) (h2 : c.md = 2) (h0 : stdE p c.bd = 0) : K 33 [.dat (RD p c)] [] = some (.tup [.dat (SX ⟨thS p c.bd,newM p,buS p c.bd⟩),.dat (N 0)],[]):=by
 have h1:=run56 p hf c.bd h0
 refine ce rfl ?_
 simp [h1,h2]
theorem run33s (p : Pg) (hf : Fit p) (c : Cf) (h2 : ¬ c.md = 2) (h0 : stdE p c.bd = 0) : K 33 [.dat (RD p c)] [] = some (.tup [.dat (SX ⟨thS p c.bd,newM p,[]⟩),.dat (N 0)],[]):=by
 have h1:=run57 p hf c.bd h0
 refine ce rfl ?_
 simp [h1,h2]
theorem run52 (p : Pg) (hf : Fit p) (c : Cf) (s : Sa) (hs : Sb s) (a : Int) (hM : ∀ t E,effE s.me t E = 0 → Mb (effM s.me t E)) (hl : (stpS p c.bd (Go.Ex.part s) a).2.1.th.length < 1000000000) :
  K 52 [.dat (RD p c),.dat (SX s),.dat (N a)] [] = some (oX (stp p c s a),[]):=by
 unfold stp
 by_cases h2 : c.md = 2
 ·have h1:=run84 p hf c.bd s hs a hM hl
  rw [if_pos h2]
  refine ce rfl ?_
  unfold oX at h1 ⊢
  generalize stpX p c.bd s a = r at *
  obtain ⟨E,s',e'⟩:=r
  rcases Classical.propComplete (E = 0) with k | k
  ·simp [k] at h1
   simp [h1,h2,k]
  ·simp [k] at h1
   simp [h1,h2,k]
 ·have h1:=run85 p hf c.bd s hs a hM
  rw [if_neg h2]
  refine ce rfl ?_
  unfold stepR at h1
  unfold oX
  generalize stpS p c.bd s a = r at *
  obtain ⟨E,s',e'⟩:=r
  rcases Classical.propComplete (E = 0) with k | k
  ·simp [k] at h1
   simp [h1,h2,k]
  ·simp [k] at h1
   simp [h1,h2,k,noEv]
end Go.Am.E

set_option maxRecDepth 10000
set_option maxHeartbeats 16000000
namespace Go.Am.E
open Go.Proofs Go.Ex Go.Rc
abbrev RDl (p : Pg) (c : Cf) : List Dat:=[.sl (p.vs.map VD),.sl (p.ms.map S),.sl (p.cs.map S),.sl (p.fs.map FD),.sl (p.ts.map NP),N c.md,N c.bd]
theorem run46 (p : Pg) (hf : Fit p) (c : Cf) (s : Sa) (hs : Sb s) : K 46 [.dat (RD p c),.dat (SX s)] [] = some (.dat (Ns (ags p c s)),[]):=by
 unfold ags
 by_cases h2 : c.md = 2
 ·have h1:=run69 p hf s hs
  rw [if_pos h2]
  refine ce rfl ?_
  simp [h1,h2]
 ·have h1:=run70 p hf s hs
  rw [if_neg h2]
  refine ce rfl ?_
  simp [h1,h2]
theorem run24 (p : Pg) (hf : Fit p) (c : Cf) (s : Sa) (hs : Sb s) : K 24 [.dat (PD p),.dat (CD c),.dat (SX s)] [] = some (.dat (Ns (if chE p c = 0 then ags p c s else [])),[]):=by
 have h1:=run32 p hf c
 have h2:=run46 p hf c s hs
 unfold chR at h1
 simp only [CD] at h1 ⊢
 generalize ags p c s = l at *
 refine ce rfl ?_
 by_cases k : chE p c = 0
 ·rw [if_pos k] at h1
  simp [h1,h2,k]
 ·rw [if_neg k] at h1
  simp [h1,k]
theorem run68 (p : Pg) (c : Cf) (s : Sa) (l : List Int) : K 68 [.dat (RD p c),.dat (SX s),.dat (Ns l)] [] = some (.fn 103 [.ref ((0,0),0,0) 0,.ref ((0,1),0,0) 0,.ref ((0,2),0,0) 0],[bxs [Ns l],bxs (RDl p c),bxs (SXl s)]):=by
 refine ce rfl ?_
 simp
end Go.Am.E

set_option maxRecDepth 10000
set_option maxHeartbeats 16000000
namespace Go.Am.E
open Go.Proofs Go.Ex Go.Rc
abbrev eA (k : Nat) (l : List Evt) : TObj:=.plain (.arr 9 k false (l.map ED))
abbrev L33 (st : LSt) : TObj:=.plain (.blk (.loop 45 st [(4,.ref ((0,1),0,0) 0),(5,.ref ((0,2),0,0) 0),(8,.ref ((0,3),0,0) 0)]))
abbrev nil7 : TObj:=.plain (.box [.nils,.nils,.nils,.nils,.nils,.nils,.nils])
def O33 (st : LSt) (E : Int) (es : List Evt) (s : Sa) : List TObj:=match es with
 | [] => [L33 st,nil7,bxs [N E],.plain (.box (.nils :: (SXl s).map .dat))]
 | x :: r => [L33 st,nil7,bxs [N E],.plain (.box (.rsl ((0,4),0,0) r.length 9 0 (r.length + 1) :: (SXl s).map .dat)),eA r.length (x :: r)]
theorem y33 (es : List Evt) (hes : es.length < 1000000) (s s' : Sa) (e : Evt) (E : Int) : K YID [.dat (.agg (SXl s' ++ EDl e ++ [N E])),.bref true ((0,0),0,0)] (O33 .ready 0 es s) =
  some (if E = 0 then (.dat (.bool true),O33 .ready 0 (es ++ [e]) s') else (.dat (.bool false),O33 (.done .ret) E es s)):=by
 have hr : (es.length + 1) * 73 ≤ 1099511627776:=by omega
 have wS : IntKind.wrap .i64 ((es.length : Int) + 1) = es.length + 1:=wrap_i64 (by omega) (by omega)
 cases es with
 | nil =>
  refine yield_ev (k:=45) (j:=0) (lp:=lp45) rfl rfl rfl rfl ?_
  by_cases c : E = 0
  ·simp [c,O33]
  ·simp [c,O33]
 | cons x r =>
  refine yield_ev (k:=45) (j:=0) (lp:=lp45) rfl rfl rfl rfl ?_
  by_cases c : E = 0
  ·simp [c,O33]
   simp at hr wS
   simp [hr,wS]
  ·simp [c,O33]
end Go.Am.E

set_option maxRecDepth 10000
set_option maxHeartbeats 16000000
namespace Go.Am.E
open Go.Proofs Go.Ex Go.Rc
structure Sts (p : Pg) (c : Cf) (l : List Int) (st : Nat → Sa) (ev : Nat → List Evt) : Prop where
 z : ev 0 = []
 s : ∀ i a,l[i]? = some a → (stp p c (st i) a).1 = 0 → st (i + 1) = (stp p c (st i) a).2.1 ∧ ev (i + 1) = ev i ++ [(stp p c (st i) a).2.2]
 b : ∀ i,Sb (st i)
 m : ∀ i t E,effE (st i).me t E = 0 → Mb (effM (st i).me t E)
 h : ∀ i a,(stpS p c.bd (Go.Ex.part (st i)) a).2.1.th.length < 1000000000
abbrev L115 (q : LSt) : TObj:=.plain (.blk (.loop 45 q [(4,.ref ((0,4),0,0) 0),(5,.ref ((0,5),0,0) 0),(8,.ref ((0,6),0,0) 0)]))
def O115 (p : Pg) (c : Cf) (l : List Int) (q : LSt) (E : Int) (es : List Evt) (s s' : Sa) : List TObj:=match es with
 | [] => [L115 q,bxs [Ns l],bxs (RDl p c),bxs (SXl s'),nil7,bxs [N E],.plain (.box (.nils :: (SXl s).map .dat))]
 | x :: r => [L115 q,bxs [Ns l],bxs (RDl p c),bxs (SXl s'),nil7,bxs [N E],.plain (.box (.rsl ((0,7),0,0) r.length 9 0 (r.length + 1) :: (SXl s).map .dat)),eA r.length (x :: r)]
def S115 (p : Pg) (c : Cf) (l : List Int) (q : LSt) (E : Int) (es : List Evt) (s s' : Sa) : zta7:=match es with
 | [] => [((0,0),L115 q),((0,1),bxs [Ns l]),((0,2),bxs (RDl p c)),((0,3),bxs (SXl s')),((0,4),nil7),((0,5),bxs [N E]),((0,6),.plain (.box (.nils :: (SXl s).map .dat)))]
 | x :: r => [((0,0),L115 q),((0,1),bxs [Ns l]),((0,2),bxs (RDl p c)),((0,3),bxs (SXl s')),((0,4),nil7),((0,5),bxs [N E]),((0,6),.plain (.box (.rsl ((1,4),0,0) r.length 9 0 (r.length + 1) :: (SXl s).map .dat))),((1,4),eA r.length (x :: r))]
abbrev E115 (l : List Int) (k : Nat) : Env:=[(0,.bref true ((0,0),0,0)),(2,.ref ((0,2),0,0) 0),(3,.ref ((0,3),0,0) 0),(10,.dat (Ns l)),(11,.dat (N l.length)),(12,.dat (N k))]
def g115 (p : Pg) (c : Cf) (st : Nat → Sa) (ev : Nat → List Evt) (i : Nat) (a : Int) : Option (Int × List Evt × Sa × Sa) :=
 if (stp p c (st i) a).1 = 0 then none else some ((stp p c (st i) a).1,ev i,st i,st i)
theorem loop103 (p : Pg) (hf : Fit p) (c : Cf) (l : List Int) (hl : l.length ≤ 512) (st : Nat → Sa) (ev : Nat → List Evt) (H : Sts p c l st ev) (he : ∀ i,(ev i).length < 1000000) (s0 : St)
  (h0 : hd [0,2,3,10,11,12] [0,2,3,10] s0 = some ⟨E115 l 0,S115 p c l .ready 0 (ev 0) (st 0) (st 0)⟩) :
  Ev (zga7 (exec K l103_0) s0) (oQ (fun q => q.1 = .exit 0 ∧ hd [] [] q.2 = some ⟨[],S115 p c l .ready 0 (ev l.length) (st l.length) (st l.length)⟩) (fun b q => q.1 = .ret ∧ endK [] false 7 q = some (.tup [],O115 p c l (.done .ret) b.1 b.2.1 b.2.2.1 b.2.2.2)) (scan (g115 p c st ev) l 0)):=by
 refine znb7 (live:=[0,2,3,10,11,12]) (drop:=[0,2,3,10]) l (g115 p c st ev) (by omega) (fun k => ⟨E115 l k,S115 p c l .ready 0 (ev k) (st k) (st k)⟩) _ _
  (fun i y s h1 h2 h3 ix hs => ?_) (fun s hs => ?_) s0 h0
 ·have h4:=run52 p hf c (st i) (H.b i) y (H.m i) (H.h i y)
  have hS:=H.s i y h1
  unfold oX at h4
  unfold g115
  have hy:=y33 (ev i) (he i) (st i) (stp p c (st i) y).2.1 (stp p c (st i) y).2.2 (stp p c (st i) y).1
  have hz:=y33 (ev i) (he i) (st i) noSa noEv (stp p c (st i) y).1
  generalize stp p c (st i) y = r at *
  obtain ⟨E,s',e⟩:=r
  by_cases k : E = 0
  ·subst k
   obtain ⟨hS1,hS2⟩:=hS rfl
   simp only at hS1 hS2
   rw [hS1,hS2]
   generalize ev i = es at *
   generalize st i = s1 at *
   simp at h4 hy
   cases es with
   | nil =>
    simp only [YID,O33,L33,nil7,bxs,eA,List.map_cons,List.map_nil] at hy
    simp at hy
    simp [S115] at hs
    simp [hs,h1,h2,h3,ix,h4,YID,hy,S115]
   | cons x r =>
    simp only [YID,O33,L33,nil7,bxs,eA,List.map_cons,List.map_nil] at hy
    simp at hy
    simp [S115] at hs
    simp [hs,h1,h2,h3,ix,h4,YID,hy,S115]
  ·have k' : (E = 0) = False:=by simp [k]
   simp only [k',if_false] at h4 hz ⊢
   clear hy
   have hy:=hz
   generalize ev i = es at *
   generalize st i = s1 at *
   cases es with
   | nil =>
    simp only [YID,O33,L33,nil7,bxs,eA,List.map_cons,List.map_nil] at hy
    simp [noSa,noEv] at hy
    simp only [show Ns [] = Dat.sl [] from rfl] at hy
    simp [S115] at hs
    simp [hs,h1,h2,h3,ix,h4,YID,hy,S115,O115,k',noEv]
   | cons x r =>
    simp only [YID,O33,L33,nil7,bxs,eA,List.map_cons,List.map_nil] at hy
    simp [noSa,noEv] at hy
    simp only [show Ns [] = Dat.sl [] from rfl] at hy
    simp [S115] at hs
    simp [hs,h1,h2,h3,ix,h4,YID,hy,S115,O115,k',noEv]
 ·simp [hs]
theorem run103 (p : Pg) (hf : Fit p) (c : Cf) (l : List Int) (hl : l.length ≤ 512) (st : Nat → Sa) (ev : Nat → List Evt) (H : Sts p c l st ev) (he : ∀ i,(ev i).length < 1000000) :
  K 103 [.bref true ((0,0),0,0),.ref ((0,1),0,0) 0,.ref ((0,2),0,0) 0,.ref ((0,3),0,0) 0] (O115 p c l .ready 0 [] (st 0) (st 0)) =
   some (.tup [],match scan (g115 p c st ev) l 0 with
    | some b => O115 p c l (.done .ret) b.1 b.2.1 b.2.2.1 b.2.2.2
    | none => O115 p c l .ready 0 (ev l.length) (st l.length) (st l.length)):=by
 have hz:=H.z
 refine ce rfl ?_
 simp [O115]
 simp only [zaa7]
 refine (loop103 p hf c l hl st ev H he _ (by simp [hz,S115])).mono ?_
 rintro ⟨y,s⟩ hq
 cases k : scan (g115 p c st ev) l 0 <;> rw [k] at hq <;> obtain ⟨rfl,hq⟩:=hq
 ·obtain ⟨env,objs⟩:=s
  simp only [hd_eq,zff7,dropE_nil,Option.some.injEq,St.mk.injEq,true_and] at hq
  generalize ev l.length = es at *
  cases es with
  | nil => simp [S115] at hq; simp [hq]
  | cons x r => simp [S115] at hq; simp [hq]
 ·simp [hq,O115]
end Go.Am.E

set_option maxRecDepth 10000
set_option maxHeartbeats 16000000
namespace Go.Am.E
open Go.Proofs Go.Ex Go.Rc
def outD (r : Int × List Evt × Sa) : AVal:=.tup [.dat (.agg (.sl (r.2.1.map ED) :: SXl r.2.2)),.dat (N r.1)]
def outR (p : Pg) (c : Cf) (l : List Int) (st : Nat → Sa) (ev : Nat → List Evt) : Int × List Evt × Sa:=match scan (g115 p c st ev) l 0 with
 | some b => (b.1,[],noSa)
 | none => (0,ev l.length,st l.length)
theorem run45x (p : Pg) (hf : Fit p) (c : Cf) (h2 : c.md = 2) (h0 : stdE p c.bd = 0) (l : List Int) (hl : l.length ≤ 512) (st : Nat → Sa) (ev : Nat → List Evt) (H : Sts p c l st ev) (he : ∀ i,(ev i).length < 1000000)
  (hs0 : st 0 = ⟨thS p c.bd,newM p,buS p c.bd⟩) :
  K 45 [.dat (RD p c),.dat (Ns l)] [] = some (outD (outR p c l st ev),[]):=by
 have h1:=run33x p hf c h2 h0
 have h3:=run68 p c (st 0) l
 have h4:=run103 p hf c l hl st ev H he
 have hn : ¬ 512 < (l.length : Int):=by omega
 rw [hs0] at h3 h4
 simp only [O115,L115,nil7,bxs,eA,List.map_cons,List.map_nil] at h4
 simp only [SX,SXl] at h3 h4
 unfold outR outD
 refine ce rfl ?_
 cases k : scan (g115 p c st ev) l 0 with
 | none =>
  rw [k] at h4
  simp only at h4
  cases k2 : ev l.length <;> rw [k2] at h4 <;> simp only at h4 <;> simp [h1,h3,h4,hn,YID]
 | some b =>
  obtain ⟨E,es,s1,s2⟩:=b
  rw [k] at h4
  simp only at h4
  have hN : Ns [] = Dat.sl []:=rfl
  cases es <;> simp only at h4 <;> simp [h1,h3,h4,hn,YID,noSa,hN]
end Go.Am.E

set_option maxRecDepth 10000
set_option maxHeartbeats 16000000
namespace Go.Am.E
open Go.Proofs Go.Ex Go.Rc
theorem run45s (p : Pg) (hf : Fit p) (c : Cf) (h2 : ¬ c.md = 2) (h0 : stdE p c.bd = 0) (l : List Int) (hl : l.length ≤ 512) (st : Nat → Sa) (ev : Nat → List Evt) (H : Sts p c l st ev) (he : ∀ i,(ev i).length < 1000000)
  (hs0 : st 0 = ⟨thS p c.bd,newM p,[]⟩) :
  K 45 [.dat (RD p c),.dat (Ns l)] [] = some (outD (outR p c l st ev),[]):=by
 have h1:=run33s p hf c h2 h0
 have h3:=run68 p c (st 0) l
 have h4:=run103 p hf c l hl st ev H he
 have hn : ¬ 512 < (l.length : Int):=by omega
 rw [hs0] at h3 h4
 simp only [O115,L115,nil7,bxs,eA,List.map_cons,List.map_nil] at h4
 simp only [SX,SXl,List.map_nil] at h3 h4
 unfold outR outD
 refine ce rfl ?_
 cases k : scan (g115 p c st ev) l 0 with
 | none =>
  rw [k] at h4
  simp only at h4
  cases k2 : ev l.length <;> rw [k2] at h4 <;> simp only at h4 <;> simp [h1,h3,h4,hn,YID]
 | some b =>
  obtain ⟨E,es,s1,s2⟩:=b
  rw [k] at h4
  simp only at h4
  have hN : Ns [] = Dat.sl []:=rfl
  cases es <;> simp only at h4 <;> simp [h1,h3,h4,hn,YID,noSa,hN]
theorem run45l (p : Pg) (hf : Fit p) (c : Cf) (h0 : stdE p c.bd = 0) (l : List Int) (hl : 512 < l.length) : K 45 [.dat (RD p c),.dat (Ns l)] [] = some (outD (4,[],noSa),[]):=by
 have hn : 512 < (l.length : Int):=by omega
 have hN : Ns [] = Dat.sl []:=rfl
 by_cases h2 : c.md = 2
 ·have h1:=run33x p hf c h2 h0
  refine ce rfl ?_
  simp [h1,hn,outD,noSa,hN]
 ·have h1:=run33s p hf c h2 h0
  refine ce rfl ?_
  simp [h1,hn,outD,noSa,hN]
end Go.Am.E

set_option maxRecDepth 10000
set_option maxHeartbeats 16000000
namespace Go.Am.E
open Go.Proofs Go.Ex Go.Rc
theorem run22 (p : Pg) (hf : Fit p) (c : Cf) (l : List Int) (r : Int × List Evt × Sa) (h : chE p c = 0 → K 45 [.dat (RD p c),.dat (Ns l)] [] = some (outD r,[])) :
  K 22 [.dat (PD p),.dat (CD c),.dat (Ns l)] [] = some (outD (if chE p c = 0 then r else (chE p c,[],noSa)),[]):=by
 have h1:=run32 p hf c
 have hN : Ns [] = Dat.sl []:=rfl
 unfold chR at h1
 simp only [CD] at h1 ⊢
 refine ce rfl ?_
 unfold outD at h ⊢
 by_cases k : chE p c = 0
 ·rw [if_pos k] at h1
  have h2:=h k
  simp [h1,h2,k]
 ·rw [if_neg k] at h1
  simp [h1,k,noSa,hN]
theorem chE_std {p : Pg} {c : Cf} (h : chE p c = 0) : stdE p c.bd = 0:=by
 unfold chE at h
 split at h
 ·omega
 ·split at h
  ·omega
  ·rename_i a b
   have hc : cfE c = 0:=by omega
   unfold cfE at hc
   split at hc
   ·omega
   ·split at hc
    ·omega
    ·unfold stdE
     rw [if_neg a,if_neg (by omega)]
end Go.Am.E

namespace Go.Am.E
open Go.Proofs Go.Ex Go.Rc
theorem run_scan {p : Pg} {c : Cf} {l : List Int} {st : Nat → Sa} {ev : Nat → List Evt} (H : Sts p c l st ev) : ∀ (m : List Int) (i : Nat),(∀ j : Nat,m[j]? = l[i + j]?) →
  Go.Ex.run p c m (ev i) (st i) = match scan (g115 p c st ev) m i with
   | some b => (b.1,[],noSa)
   | none => (0,ev (i + m.length),st (i + m.length))
 | [],i,h => rfl
 | a :: r,i,h => by
  have h0:=h 0
  simp only [List.getElem?_cons_zero,Nat.add_zero] at h0
  have hr : ∀ j : Nat,r[j]? = l[i + 1 + j]?:=fun j => by
   have:=h (j + 1)
   rw [List.getElem?_cons_succ] at this
   rw [this]
   congr 1
   omega
  have ih:=run_scan H r (i + 1) hr
  unfold Go.Ex.run
  by_cases k : (stp p c (st i) a).1 = 0
  ·obtain ⟨k1,k2⟩:=H.s i a h0.symm k
   rw [if_neg (by simp [k]),← k1,← k2,ih]
   simp only [scan,g115,k,if_true,List.length_cons]
   rw [show i + (r.length + 1) = i + 1 + r.length by omega]
  ·rw [if_pos k]
   simp only [scan,g115,k,if_false]
theorem outR_run {p : Pg} {c : Cf} {l : List Int} {st : Nat → Sa} {ev : Nat → List Evt} (H : Sts p c l st ev) : outR p c l st ev = Go.Ex.run p c l [] (st 0):=by
 have h:=run_scan H l 0 (fun j => by rw [Nat.zero_add])
 rw [H.z,Nat.zero_add] at h
 rw [h]
 rfl
end Go.Am.E

namespace Go.Am.E
open Go.Proofs Go.Ex Go.Rc
def mass (m : Me) : Nat:=m.sg.length + m.qu.flatten.length
theorem flat_set (q : List Int) : ∀ (l : List (List Int)) (k : Nat),(l.set k q).flatten.length + ((l[k]?).getD []).length ≤ l.flatten.length + q.length
 | [],k => by simp
 | a :: r,0 => by simp; omega
 | a :: r,k + 1 => by
  have:=flat_set q r k
  simp only [List.set_cons_succ,List.flatten_cons,List.length_append,List.getElem?_cons_succ] at this ⊢
  omega
theorem flat_len (l : List (List Int)) (q : List Int) (h : q ∈ l) : q.length ≤ l.flatten.length:=by
 induction l with
 | nil => cases h
 | cons a r ih =>
  rcases List.mem_cons.1 h with rfl | h
  ·simp
  ·have:=ih h
   simp only [List.flatten_cons,List.length_append]
   omega
theorem fold_ins (l : List Int) : ∀ s : List Int,(l.foldl (fun s i => ins i s) s).length ≤ s.length + l.length:=by
 induction l with
 | nil => intro s; simp
 | cons a r ih =>
  intro s
  have h1:=ih (ins a s)
  have h2:=ins_len a s
  simp only [List.foldl_cons,List.length_cons]
  omega
theorem mass_eff (m : Me) (t : Th) (e : Evt) : mass (effM m t e) ≤ mass m + 1:=by
 have hw : ∀ (c : Int) (n : Nat),mass (wakM m c n) ≤ mass m + 1:=by
  intro c n
  have h1:=fold_ins ((getq m c).take n) m.sg
  have h2:=flat_set ((getq m c).drop n) m.qu c.toNat
  have h3 : (((m.qu[c.toNat]?).getD []).length) = (getq m c).length:=rfl
  rw [List.length_take] at h1
  rw [List.length_drop] at h2
  unfold mass wakM
  simp only
  omega
 have hq : ∀ (m : Me) (c id : Int),mass (enqM m c id) ≤ mass m + 1:=by
  intro m c id
  have h2:=flat_set (getq m c ++ [id]) m.qu c.toNat
  have h3 : (((m.qu[c.toNat]?).getD []).length) = (getq m c).length:=rfl
  rw [List.length_append] at h2
  unfold mass enqM
  simp only [List.length_cons,List.length_nil] at h2 ⊢
  omega
 have hd : mass (wokM m t.id) ≤ mass m + 1:=by
  have:=List.length_filter_le (fun x => decide (x ≠ t.id)) m.sg
  unfold mass wokM del
  simp only
  omega
 have ho : ∀ i v,mass (ownM m i v) = mass m:=fun _ _ => rfl
 unfold effM
 split
 ·exact Nat.le_succ _
 split
 ·exact Nat.le_succ _
 split
 ·exact Nat.le_succ _
 split
 ·exact Nat.le_succ _
 split
 ·exact hq _ _ _
 split
 ·exact hd
 split
 ·exact hw _ _
 split
 ·exact hw _ _
 ·exact Nat.le_succ _
theorem lens_eff (m : Me) (t : Th) (e : Evt) : (effM m t e).va.length = m.va.length ∧ (effM m t e).ow.length = m.ow.length ∧ (effM m t e).qu.length = m.qu.length:=by
 unfold effM
 repeat' split
 all_goals simp [wrM,ownM,enqM,wokM,wakM]
structure Jn (i : Nat) (s : Sa) : Prop where
 th : s.th.length ≤ 8 + i
 ts : ∀ t ∈ s.th,t.id < 100000000 ∧ t.hd.length ≤ 1000
 va : s.me.va.length ≤ 8
 ow : s.me.ow.length ≤ 8
 qu : s.me.qu.length ≤ 8
 ms : mass s.me ≤ i
 bu : s.bu.length ≤ 8 + i
 bs : ∀ b ∈ s.bu,-1 ≤ b.t ∧ b.t < 100000000 ∧ -1 ≤ b.f ∧ b.f ≤ 100 ∧ b.es.length ≤ 100
theorem mb_of {m : Me} (h1 : m.va.length ≤ 8) (h2 : m.ow.length ≤ 8) (h3 : m.qu.length ≤ 8) (h4 : mass m ≤ 1000) : Mb m:=by
 unfold mass at h4
 refine ⟨by omega,by omega,by omega,fun q hq => ?_,by omega⟩
 have:=flat_len _ _ hq
 omega
theorem Jn.sb {i : Nat} {s : Sa} (h : Jn i s) (hi : i ≤ 900) : Sb s:=by
 have hm:=h.ms
 refine ⟨by have:=h.th; omega,fun t ht => ?_,mb_of h.va h.ow h.qu (by omega),by have:=h.bu; omega,fun b hb => ?_⟩
 ·have:=h.ts t ht
  exact ⟨by omega,by omega⟩
 ·have:=h.bs b hb
  exact ⟨by omega,by omega,by omega,by omega,by omega⟩
theorem Jn.mb {i : Nat} {s : Sa} (h : Jn i s) (hi : i ≤ 900) (t : Th) (E : Evt) : Mb (effM s.me t E):=by
 have h1:=mass_eff s.me t E
 have h2:=lens_eff s.me t E
 have h3:=h.ms
 exact mb_of (by rw [h2.1]; exact h.va) (by rw [h2.2.1]; exact h.ow) (by rw [h2.2.2]; exact h.qu) (by omega)
theorem Jn.up {i : Nat} {s : Sa} (h : Jn i s) : Jn (i + 1) s :=
 ⟨by have:=h.th; omega,h.ts,h.va,h.ow,h.qu,by have:=h.ms; omega,by have:=h.bu; omega,h.bs⟩
theorem putT_len (c : Th) : ∀ l : List Th,(putT c l).length = l.length + 1
 | [] => rfl
 | t :: r => by
  unfold putT
  split
  ·simp [putT_len c r]
  ·simp
theorem putT_mem {c t : Th} : ∀ {l : List Th},t ∈ putT c l → t = c ∨ t ∈ l
 | [],h => by simp [putT] at h; exact .inl h
 | u :: r,h => by
  unfold putT at h
  split at h
  ·rcases List.mem_cons.1 h with rfl | h
   ·exact .inr (by simp)
   ·rcases putT_mem h with h | h
    ·exact .inl h
    ·exact .inr (by simp [h])
  ·rcases List.mem_cons.1 h with rfl | h
   ·exact .inl rfl
   ·exact .inr h
theorem repT_len (t : Th) (l : List Th) : (repT t l).length = l.length:=by
 unfold repT
 split <;> simp
theorem repT_mem {c t : Th} {l : List Th} (h : t ∈ repT c l) : t = c ∨ t ∈ l:=by
 unfold repT at h
 split at h
 ·rcases List.mem_or_eq_of_mem_set h with h | h
  ·exact .inr h
  ·exact .inl h
 ·exact .inr h
theorem newT_hd (p : Pg) (bd id fn arg : Int) : (newT p bd id fn arg).hd = []:=by
 unfold newT
 rw [(setl_same _ _ _ _).2.2]
 rfl
theorem cmpT_hd (p : Pg) (bd : Int) (t : Th) (v : Int) : (cmpT p bd t v).hd.length ≤ t.hd.length + 1:=by
 unfold cmpT
 split
 ·rw [(setl_same _ _ _ _).2.2]
  exact (nxtT_same _ _ _).2.2.2
 ·omega
theorem okT_b {p : Pg} {bd : Int} {t : Th} (hp : chP p = 0) (h : okT p bd t = true) : t.id < 10000000 ∧ t.hd.length ≤ 4:=by
 unfold okT at h
 simp only [Bool.and_eq_true] at h
 exact ⟨(dep_lt (frmT_dep h.1)).2,(frmT_fr hp h.1).hl⟩
theorem stpS_cases (p : Pg) (bd : Int) (s : Sa) (a : Int) : (∃ e,stpS p bd s a = bad e ∧ e ≠ 0) ∨ ∃ k t i th,chP p = 0 ∧ valS p bd s = true ∧ fndT s.th a = some k ∧ s.th[k]? = some t ∧ penT p t = some i ∧
  enaS s t i = true ∧ effE s.me t (labS s t i) = 0 ∧ th = (if (labS s t i).kind = 16 then putT (newT p bd (labS s t i).obj i.o (reg t i.b)) s.th else s.th) ∧
  stpS p bd s a = (0,⟨repT (cmpT p bd t (resS i (labS s t i))) th,effM s.me t (labS s t i),[]⟩,labS s t i):=by
 unfold stpS
 split
 ·rename_i h; exact .inl ⟨_,rfl,h⟩
 rename_i hs
 have hp : chP p = 0:=(zvc7 (Decidable.not_not.1 hs)).1
 split
 ·exact .inl ⟨_,rfl,by omega⟩
 rename_i hv
 cases hr : Go.Ex.runS p s a with
 | none => exact .inl ⟨_,rfl,by omega⟩
 | some x =>
  obtain ⟨k,t,i⟩:=x
  simp only
  split
  ·exact .inl ⟨_,rfl,by omega⟩
  rename_i he
  split
  ·exact .inl ⟨_,rfl,by omega⟩
  rename_i hf
  split
  ·exact .inl ⟨_,rfl,by omega⟩
  have hfact : fndT s.th a = some k ∧ s.th[k]? = some t ∧ penT p t = some i:=by
   unfold Go.Ex.runS at hr
   split at hr
   ·cases hr
   ·rename_i k1 hk
    split at hr
    ·cases hr
    ·rename_i t1 ht
     split at hr
     ·cases hr
     ·rename_i i1 hi
      cases hr
      exact ⟨hk,ht,hi⟩
  exact .inr ⟨k,t,i,_,hp,by simpa using hv,hfact.1,hfact.2.1,hfact.2.2,by simpa using he,Decidable.not_not.1 hf,rfl,rfl⟩
theorem stpS_th (p : Pg) (bd : Int) (s : Sa) (a : Int) : (stpS p bd s a).2.1.th.length ≤ s.th.length + 1:=by
 rcases stpS_cases p bd s a with ⟨e,h,-⟩ | ⟨k,t,i,th,-,-,-,-,-,-,-,e,h⟩
 ·rw [h]; simp [bad,noSa]
 ·rw [h,e]
  simp only
  rw [repT_len]
  split
  ·rw [putT_len]; exact Nat.le_refl _
  ·omega
theorem valS_th {p : Pg} {bd : Int} {s : Sa} (h : valS p bd s = true) : ∀ t ∈ s.th,okT p bd t = true:=by
 simp only [valS,Bool.and_eq_true,List.all_eq_true] at h
 exact h.1.2
theorem chd_lt {t : Th} {c : Int} (h : chd t = some c) : c < 10000000:=(chd_dep h).2.2
theorem lab16 {p : Pg} {bd : Int} {s : Sa} {t : Th} {i : In} (h : okT p bd t = true) (hi : penT p t = some i) (hk : (labS s t i).kind = 16) : (labS s t i).obj < 10000000:=by
 have hi' : insT p t = some i:=by
  unfold penT at hi
  split at hi
  ·exact hi
  ·cases hi
 have hss : t.ss = 1:=by
  unfold penT at hi
  split at hi
  ·rename_i c; exact c.1
  ·cases hi
 obtain ⟨-,j,hj,hv,-⟩:=okT_run h hss
 rw [hi'] at hj
 cases hj
 obtain ⟨-,h2⟩:=lab_spawn hv hk
 rw [h2]
 cases hc : chd t with
 | none => simp
 | some c => exact chd_lt hc
theorem stpS_jn {p : Pg} {bd : Int} {s : Sa} {a : Int} {i : Nat} (hJ : Jn i s) (h0 : (stpS p bd s a).1 = 0) : Jn (i + 1) (stpS p bd s a).2.1:=by
 have hl:=stpS_th p bd s a
 rcases stpS_cases p bd s a with ⟨e,h,he⟩ | ⟨k,t,j,th,hp,hv,hk,ht,hi,-,-,e,h⟩
 ·rw [h] at h0; exact absurd h0 he
 have hok:=valS_th hv
 have htm:=List.mem_of_getElem? ht
 have h1:=mass_eff s.me t (labS s t j)
 have h2:=lens_eff s.me t (labS s t j)
 have h3:=hJ.ms
 have h4:=hJ.th
 have hth : ∀ u ∈ th,u.id < 100000000 ∧ u.hd.length ≤ 1000:=by
  intro u hu
  rw [e] at hu
  split at hu
  ·rename_i hk
   rcases putT_mem hu with rfl | hu
   ·rw [newT_id,newT_hd]
    have:=lab16 (hok t htm) hi hk
    exact ⟨by omega,by simp⟩
   ·exact hJ.ts u hu
  ·exact hJ.ts u hu
 rw [h] at hl ⊢
 simp only at hl ⊢
 refine ⟨by simp only; omega,?_,by rw [h2.1]; exact hJ.va,by rw [h2.2.1]; exact hJ.ow,by rw [h2.2.2]; exact hJ.qu,by simp only; omega,by simp,by simp⟩
 intro u hu
 rcases repT_mem hu with rfl | hu
 ·have h5:=okT_b hp (hok t htm)
  have h6:=cmpT_hd p bd t (resS j (labS s t j))
  rw [cmpT_id]
  omega
 ·exact hth u hu
theorem part_jn {i : Nat} {s : Sa} (h : Jn i s) : Jn i (Go.Ex.part s):=⟨h.th,h.ts,h.va,h.ow,h.qu,h.ms,by simp [Go.Ex.part],by simp [Go.Ex.part]⟩
theorem set_mem {α : Type} {l : List α} {k : Nat} {x y : α} (h : y ∈ l.set k x) : y = x ∨ y ∈ l:=by
 rcases List.mem_or_eq_of_mem_set h with h | h
 ·exact .inr h
 ·exact .inl h
theorem stpX_jn {p : Pg} {bd : Int} {s : Sa} {a : Int} {i : Nat} (hJ : Jn i s) (h0 : (stpX p bd s a).1 = 0) : Jn (i + 1) (stpX p bd s a).2.1:=by
 have hS:=fun h => stpS_jn (p:=p) (bd:=bd) (a:=a) (part_jn hJ) h
 have hL:=stpS_th p bd (Go.Ex.part s) a
 have h4:=hJ.th
 have hpt : (Go.Ex.part s).th.length = s.th.length:=rfl
 unfold stpX at h0 ⊢
 by_cases c1 : stdE p bd = 0
 rotate_left
 ·rw [if_pos c1] at h0; exact absurd h0 c1
 rw [if_neg (by simp [c1])] at h0 ⊢
 have hp : chP p = 0:=(zvc7 c1).1
 by_cases c2 : valX p bd s = false
 ·rw [if_pos c2] at h0; simp [bad] at h0
 rw [if_neg c2] at h0 ⊢
 have hv : valX p bd s = true:=by simpa using c2
 simp only [valX,Bool.and_eq_true,List.all_eq_true] at hv
 have hokT : ∀ t ∈ s.th,okT p bd t = true:=hv.1.1.1.1.2
 have hvb : ∀ b ∈ s.bu,valB b = true:=hv.1.1.2
 have hbb : ∀ b ∈ s.bu,0 ≤ b.t ∧ 0 ≤ b.f ∧ b.f ≤ 32 ∧ b.f + b.es.length ≤ 32:=fun b hb => by
  have:=hvb b hb
  simp only [valB,Bool.and_eq_true,decide_eq_true_eq] at this
  exact this.1
 by_cases c3 : (agsX p s).contains a = false
 ·rw [if_pos c3] at h0; simp [bad] at h0
 rw [if_neg c3] at h0 ⊢
 cases hk : fndT s.th (Go.Ex.thr a) with
 | none => rw [hk] at h0; simp [bad] at h0
 | some k =>
  rw [hk] at h0
  simp only at h0 ⊢
  cases ht : s.th[k]? with
  | none => rw [ht] at h0; simp [bad] at h0
  | some t =>
   cases hb : s.bu[k]? with
   | none => rw [ht,hb] at h0; simp [bad] at h0
   | some b =>
    rw [ht,hb] at h0
    simp only at h0 ⊢
    have htm:=List.mem_of_getElem? ht
    have hbm:=List.mem_of_getElem? hb
    have hbv:=hbb b hbm
    have hbj:=hJ.bs b hbm
    have htj:=hJ.ts t htm
    have hto:=okT_b hp (hokT t htm)
    have hbs : ∀ (b' : Bu),(-1 ≤ b'.t ∧ b'.t < 100000000 ∧ -1 ≤ b'.f ∧ b'.f ≤ 100 ∧ b'.es.length ≤ 100) → ∀ x ∈ s.bu.set k b',-1 ≤ x.t ∧ x.t < 100000000 ∧ -1 ≤ x.f ∧ x.f ≤ 100 ∧ x.es.length ≤ 100:=by
     intro b' hb' x hx
     rcases set_mem hx with rfl | hx
     ·exact hb'
     ·exact hJ.bs x hx
    have hts : ∀ v,∀ x ∈ s.th.set k (cmpT p bd t v),x.id < 100000000 ∧ x.hd.length ≤ 1000:=by
     intro v x hx
     rcases set_mem hx with rfl | hx
     ·have:=cmpT_hd p bd t v
      rw [cmpT_id]
      omega
     ·exact hJ.ts x hx
    by_cases c4 : a < 0
    ·rw [if_pos c4] at h0 ⊢
     cases hf : flsX t b with
     | none => rw [hf] at h0; simp [bad] at h0
     | some e =>
      simp only
      have hes : b.es ≠ []:=by
       intro hn
       unfold flsX at hf
       rw [hn] at hf
       cases hf
      have hln : b.es.tail.length = b.es.length - 1:=by simp
      refine ⟨by simp only; omega,hJ.ts,by simp [wrM]; exact hJ.va,hJ.ow,hJ.qu,by have:=hJ.ms; simp only [wrM,mass] at this ⊢; omega,by have:=hJ.bu; simp; omega,hbs _ ⟨hbj.1,hbj.2.1,by simp only; omega,by simp only; omega,by simp only; omega⟩⟩
    rw [if_neg c4] at h0 ⊢
    cases hi : penT p t with
    | none => rw [hi] at h0; simp [bad] at h0
    | some j =>
     rw [hi] at h0
     simp only at h0 ⊢
     by_cases c5 : j.op = 8 ∨ j.op = 14
     ·rw [if_pos c5] at h0 ⊢
      exact ⟨by simp; omega,hts _,hJ.va,hJ.ow,hJ.qu,by have:=hJ.ms; simp only; omega,by have:=hJ.bu; simp only; omega,hJ.bs⟩
     rw [if_neg c5] at h0 ⊢
     by_cases c6 : j.op = 9
     ·rw [if_pos c6] at h0 ⊢
      by_cases c7 : b.f + b.es.length = 32
      ·rw [if_pos c7] at h0; simp [bad] at h0
      rw [if_neg c7] at h0 ⊢
      exact ⟨by simp; omega,hts _,hJ.va,hJ.ow,hJ.qu,by have:=hJ.ms; simp only; omega,by have:=hJ.bu; simp; omega,hbs _ ⟨hbj.1,hbj.2.1,by simp only; omega,by simp only; omega,by simp; omega⟩⟩
     rw [if_neg c6] at h0 ⊢
     by_cases c7 : (stpS p bd (Go.Ex.part s) a).1 = 0
     rotate_left
     ·rw [if_pos c7] at h0; exact absurd h0 c7
     rw [if_neg (by simp [c7])] at h0 ⊢
     have hJ':=hS c7
     refine ⟨hJ'.th,hJ'.ts,hJ'.va,hJ'.ow,hJ'.qu,hJ'.ms,by simpa using hJ'.th,?_⟩
     intro x hx
     obtain ⟨u,hu,rfl⟩:=List.mem_map.1 hx
     have hui:=hJ'.ts u hu
     have h0u : (-1 : Int) ≤ u.id:=by
      rcases stpS_cases p bd (Go.Ex.part s) a with ⟨e,h,he⟩ | ⟨k',t',j',th',hp',hv',hk',ht',hi',-,-,e',h'⟩
      ·rw [h] at c7; exact absurd c7 he
      ·rw [h'] at hu
       have hin : ∀ v ∈ s.th,(-1 : Int) ≤ v.id:=fun v hv => by
        have:=hokT v hv
        unfold okT at this
        simp only [Bool.and_eq_true] at this
        have:=(dep_lt (frmT_dep this.1)).1
        omega
       rcases repT_mem hu with rfl | hu
       ·rw [cmpT_id]; exact hin _ (List.mem_of_getElem? ht')
       ·rw [e'] at hu
        split at hu
        ·rename_i hk16
         rcases putT_mem hu with rfl | hu
         ·rw [newT_id]
          have hok':=valS_th hv' t' (List.mem_of_getElem? ht')
          have hss : t'.ss = 1 ∧ insT p t' = some j':=by
           unfold penT at hi'
           split at hi'
           ·rename_i c; exact ⟨c.1,hi'⟩
           ·cases hi'
          obtain ⟨-,j2,hj2,hv2,-⟩:=okT_run hok' hss.1
          rw [hss.2] at hj2
          cases hj2
          rw [(lab_spawn hv2 hk16).2]
          cases hc : chd t' with
          | none => simp
          | some c => have:=(chd_dep hc).2.1; simp; omega
         ·exact hin u hu
        ·exact hin u hu
     cases hb2 : fndB s.bu u.id with
     | none => simp only; exact ⟨h0u,hui.1,by omega,by omega,by simp⟩
     | some m =>
      simp only
      cases hb3 : s.bu[m]? with
      | none => simp only [Option.getD_none]; exact ⟨h0u,hui.1,by omega,by omega,by simp⟩
      | some b3 => simp only [Option.getD_some]; exact hJ.bs b3 (List.mem_of_getElem? hb3)
theorem stp_jn {p : Pg} {c : Cf} {s : Sa} {a : Int} {i : Nat} (hJ : Jn i s) (h0 : (stp p c s a).1 = 0) : Jn (i + 1) (stp p c s a).2.1:=by
 unfold stp at h0 ⊢
 split at h0
 ·rename_i h; rw [if_pos h]; exact stpX_jn hJ h0
 ·rename_i h; rw [if_neg h]; exact stpS_jn hJ h0
theorem strX_jn {p : Pg} {c : Cf} (hp : chP p = 0) : Jn 0 (strX p c):=by
 obtain ⟨l1,l2,l3⟩:=chP_thr hp
 obtain ⟨m1,m2,m3,-⟩:=chP_lim hp
 have hth : ∀ t ∈ thS p c.bd,-1 ≤ t.id ∧ t.id < 100000000 ∧ t.hd.length ≤ 1000:=by
  intro t ht
  obtain ⟨i,hi⟩:=List.getElem?_of_mem ht
  unfold thS at hi
  rw [List.getElem?_map,List.getElem?_zipIdx] at hi
  cases hq : p.ts[i]? with
  | none => rw [hq] at hi; cases hi
  | some q =>
   rw [hq] at hi
   simp only [Option.map_some,Option.some.injEq] at hi
   rw [← hi,newT_id,newT_hd]
   have:=(List.getElem?_eq_some_iff.1 hq).1
   simp
   omega
 have hms : mass (newM p) = 0:=by
  have : ∀ l : List Str,(l.map fun _ => ([] : List Int)).flatten.length = 0:=by
   intro l
   induction l with
   | nil => rfl
   | cons a r ih => rw [List.map_cons,List.flatten_cons,List.nil_append]; exact ih
  unfold mass newM
  simp only [this,List.length_nil]
 have hlen : (thS p c.bd).length = p.ts.length:=thS_len p c.bd
 unfold strX
 simp only
 split
 ·refine ⟨by show (thS p c.bd).length ≤ _; omega,fun t ht => (hth t ht).2,by simpa [strS,newM] using m1,by simp [strS,newM]; omega,by simp [strS,newM]; omega,by show mass (newM p) ≤ 0; omega,by simp only [List.length_map]; show (thS p c.bd).length ≤ _; omega,?_⟩
  intro b hb
  obtain ⟨t,ht,rfl⟩:=List.mem_map.1 hb
  have:=hth t ht
  exact ⟨this.1,this.2.1,by simp,by simp,by simp⟩
 ·exact ⟨by show (thS p c.bd).length ≤ _; omega,fun t ht => (hth t ht).2,by simpa [strS,newM] using m1,by simp [strS,newM]; omega,by simp [strS,newM]; omega,by show mass (newM p) ≤ 0; omega,by simp [strS],by simp [strS]⟩
def stN (p : Pg) (c : Cf) (l : List Int) : Nat → Sa
 | 0 => strX p c
 | i + 1 => match l[i]? with
  | some a => if (stp p c (stN p c l i) a).1 = 0 then (stp p c (stN p c l i) a).2.1 else stN p c l i
  | none => stN p c l i
def evN (p : Pg) (c : Cf) (l : List Int) : Nat → List Evt
 | 0 => []
 | i + 1 => match l[i]? with
  | some a => if (stp p c (stN p c l i) a).1 = 0 then evN p c l i ++ [(stp p c (stN p c l i) a).2.2] else evN p c l i
  | none => evN p c l i
theorem stN_jn {p : Pg} {c : Cf} (hp : chP p = 0) (l : List Int) : ∀ i,Jn (min i l.length) (stN p c l i)
 | 0 => by rw [Nat.zero_min]; exact strX_jn hp
 | i + 1 => by
  have ih:=stN_jn (c:=c) hp l i
  unfold stN
  cases h : l[i]? with
  | none =>
   have : l.length ≤ i:=by simpa using h
   rw [show min (i + 1) l.length = min i l.length by omega]
   exact ih
  | some a =>
   have hi:=(List.getElem?_eq_some_iff.1 h).1
   have e1 : min i l.length = i:=by omega
   have e2 : min (i + 1) l.length = i + 1:=by omega
   rw [e1] at ih
   rw [e2]
   simp only
   split
   ·rename_i h0; exact stp_jn ih h0
   ·exact ih.up
theorem evN_len (p : Pg) (c : Cf) (l : List Int) (i : Nat) : (evN p c l i).length ≤ l.length:=by
  have : ∀ i,(evN p c l i).length ≤ min i l.length:=by
   intro i
   induction i with
   | zero => simp [evN]
   | succ i ih =>
    unfold evN
    cases h : l[i]? with
    | none => simp only; omega
    | some a =>
     have hi:=(List.getElem?_eq_some_iff.1 h).1
     simp only
     split
     ·simp only [List.length_append,List.length_cons,List.length_nil]; omega
     ·omega
  have:=this i
  omega
theorem sts_N {p : Pg} {c : Cf} (hp : chP p = 0) (l : List Int) (hl : l.length ≤ 512) : Sts p c l (stN p c l) (evN p c l):=by
 refine ⟨rfl,fun i a h h0 => ?_,fun i => ?_,fun i t E _ => ?_,fun i a => ?_⟩
 ·simp only [stN,evN,h,h0,if_true,and_self]
 ·exact (stN_jn hp l i).sb (by omega)
 ·exact (stN_jn hp l i).mb (by omega) t E
 ·have h1:=stpS_th p c.bd (Go.Ex.part (stN p c l i)) a
  have h2:=(stN_jn (c:=c) hp l i).th
  have h3 : (Go.Ex.part (stN p c l i)).th.length = (stN p c l i).th.length:=rfl
  omega
end Go.Am.E

set_option maxRecDepth 10000
set_option maxHeartbeats 4000000
namespace Go.Am.E
open Go.Proofs Go.Ex Go.Rc
def cmpI (a b : Int) : Int:=if a < b then -1 else if b < a then 1 else 0
def cmpX : List Int → List Int → Int
 | [],[] => 0
 | [],_ :: _ => -1
 | _ :: _,[] => 1
 | a :: r,b :: s => if cmpI a b = 0 then cmpX r s else cmpI a b
theorem run86 (a : Int) : K 86 [.dat (N a)] [] = some (.dat (.bool false),[]):=ce rfl (by simp)
theorem run53 (a b : Int) : K 53 [.dat (N a),.dat (N b)] [] = some (.dat (N (cmpI a b)),[]):=by
 have h1:=run86 a
 have h2:=run86 b
 refine ce rfl ?_
 unfold cmpI
 by_cases c1 : a < b
 ·simp [h1,h2,c1]
 ·by_cases c2 : b < a <;> simp [h1,h2,c1,c2]
def cmF (b : List Int) (i : Nat) (x : Int) : Option Int:=match b[i]? with
 | none => some 1
 | some y => if cmpI x y = 0 then none else some (cmpI x y)
def cmR (n : Int) : Option Int → Int
 | some v => v
 | none => n
theorem cmF_scan (b : List Int) : ∀ (a : List Int) (i : Nat),cmR (if a.length + i < b.length then -1 else 0) (scan (cmF b) a i) = cmpX a (b.drop i)
 | [],i => by
  simp only [scan,cmR,List.length_nil,Nat.zero_add]
  split
  ·rename_i h; rw [List.drop_eq_getElem_cons h]; rfl
  ·rename_i h; rw [List.drop_eq_nil_of_le (by omega)]; rfl
 | x :: r,i => by
  simp only [scan]
  by_cases h : i < b.length
  ·have h' : b[i]? = some b[i]:=by simp
   rw [List.drop_eq_getElem_cons h]
   simp only [cmF,h',cmpX]
   by_cases c : cmpI x b[i] = 0
   ·simp only [c,if_true]
    have:=cmF_scan b r (i + 1)
    rw [show (x :: r).length + i = r.length + (i + 1) by simp; omega]
    exact this
   ·simp only [c,if_false,cmR]
  ·have h' : b[i]? = none:=by simp; omega
   rw [List.drop_eq_nil_of_le (by omega)]
   simp only [cmF,h',cmR,cmpX]
theorem run30 (a b : List Int) (ha : a.length < 100000000000) (hb : b.length < 100000000000) : K 30 [.dat (Ns a),.dat (Ns b)] [] = some (.dat (N (cmpX a b)),[]):=by
 have e:=cmF_scan b a 0
 rw [List.drop_zero,Nat.add_zero] at e
 rw [← e]
 have h53:=run53
 refine ce rfl ?_
 simp
 simp only [zaa7]
 refine (znb7 (live:=[0,1,9,10,11]) (drop:=[]) a (cmF b) (by omega) (fun k => ⟨[(0,.dat (Ns a)),(1,.dat (Ns b)),(9,.dat (Ns a)),(10,.dat (N a.length)),(11,.dat (N k))],[]⟩)
  (fun q => q.1 = .exit 0 ∧ hd [0,1] [] q.2 = some ⟨[(0,.dat (Ns a)),(1,.dat (Ns b))],[]⟩) (fun i q => q.1 = .ret ∧ endK [.t 4] false 0 q = some (.dat (N i),[]))
  (fun i y s h1 h2 h3 ix hs => ?_) (fun s hs => ?_) _ (by simp)).mono ?_
 ·by_cases c : i < b.length
  ·have c1 : b[i]? = some b[i]:=by simp
   have c2 : ¬ (b.length : Int) ≤ i:=by omega
   have c3 : (i : Int) < b.length:=by omega
   by_cases c4 : cmpI y b[i] = 0 <;> simp [hs,h1,h2,h3,ix,c,c1,c2,c3,cmF,h53,c4]
  ·have c1 : b[i]? = none:=by simp; omega
   have c2 : (b.length : Int) ≤ i:=by omega
   simp [hs,h1,h2,h3,ix,c1,c2,cmF]
 ·simp [hs]
 ·rintro ⟨y,s⟩ hq
  cases c : scan (cmF b) a 0 <;> rw [c] at hq <;> obtain ⟨rfl,hq⟩:=hq
  ·by_cases k : a.length < b.length
   ·have k' : (a.length : Int) < b.length:=by omega
    simp [hq,k,k',cmR]
   ·have k' : ¬ (a.length : Int) < b.length:=by omega
    simp [hq,k,k',cmR]
  ·simp [hq,cmR]
theorem run14 (a b : List Int) (ha : a.length < 100000000000) (hb : b.length < 100000000000) : K 14 [.dat (Ns a),.dat (Ns b)] [] = some (.dat (N (cmpX a b)),[]) :=
 ce rfl (by simp [run30 a b ha hb])
def inF (b : List Int) (i : Nat) (x : Int) : Option Unit:=if b[i]? = some x then none else some ()
theorem inF_scan : ∀ (a b pre : List Int),a.length = b.length → (scan (inF (pre ++ b)) a pre.length = none ↔ a = b)
 | [],[],pre,h => by simp [scan]
 | x :: r,y :: s,pre,h => by
  have ih:=inF_scan r s (pre ++ [y]) (by simpa using h)
  rw [List.append_assoc,List.singleton_append,List.length_append,List.length_singleton] at ih
  simp only [scan,inF]
  have e : (pre ++ y :: s)[pre.length]? = some y:=by simp
  rw [e]
  by_cases c : y = x
  ·subst c
   simp only [if_true,List.cons.injEq,true_and]
   exact ih
  ·have c' : ¬ x = y:=fun e => c e.symm
   simp [c,c']
theorem run7 (a b : List Int) (ha : a.length < 100000000000) (hb : b.length < 100000000000) : K 7 [.dat (Ns a),.dat (Ns b)] [] = some (.dat (.bool (decide (a = b))),[]):=by
 refine ce rfl ?_
 by_cases k : a.length = b.length
 rotate_left
 ·have k' : ¬ (a.length : Int) = b.length:=by omega
  have k2 : ¬ a = b:=fun e => k (by rw [e])
  simp [k,k',k2]
 have k' : (a.length : Int) = b.length:=by omega
 have e:=inF_scan a b [] k
 rw [List.nil_append,List.length_nil] at e
 simp [k']
 simp only [zaa7]
 refine (znb7 (live:=[0,1,5]) (drop:=[]) a (inF b) (by omega) (fun k => ⟨[(0,.dat (Ns a)),(1,.dat (Ns b)),(5,.dat (N k))],[]⟩)
  (fun q => q.1 = .exit 0 ∧ hd [] [] q.2 = some ⟨[],[]⟩) (fun i q => q.1 = .ret ∧ endK [.t 4] false 0 q = some (.dat (.bool false),[]))
  (fun i y s h1 h2 h3 ix hs => ?_) (fun s hs => ?_) _ (by simp)).mono ?_
 ·have c : i < b.length:=by have:=(List.getElem?_eq_some_iff.1 h1).1; omega
  have c1 : b[i]? = some b[i]:=by simp
  have c3 : (i : Int) < b.length:=by omega
  by_cases c4 : y = b[i]
  ·have c5 : b[i] = y:=c4.symm
   simp [hs,h1,h2,h3,ix,c,c1,c3,inF,c4]
  ·have c5 : ¬ b[i] = y:=fun e => c4 e.symm
   simp [hs,h1,h2,h3,ix,c,c1,c3,inF,c4,c5]
 ·simp [hs,k']
 ·rintro ⟨y,s⟩ hq
  cases c : scan (inF b) a 0 <;> rw [c] at hq <;> obtain ⟨rfl,hq⟩:=hq
  ·have:=e.1 c
   simp [hq,this]
  ·have : ¬ a = b:=fun h => by rw [e.2 h] at c; cases c
   simp [hq,this]
def bkF (i : Nat) (x : In) : Option Unit:=if (x.op = 4 ∨ x.op = 5) ∧ x.n ≤ i then some () else none
abbrev fbx (f : Str × List In) : TObj:=.plain (.box [.dat (.str f.1),.dat (.sl (f.2.map ID))])
theorem run31 (f : Str × List In) (hf : f.2.length < 1000000000) : K 31 [.dat (FD f)] [] = some (.dat (.bool (scan bkF f.2 0).isSome),[]):=by
 obtain ⟨nm,l⟩:=f
 simp only at hf ⊢
 refine ce rfl ?_
 simp [FD]
 simp only [zaa7]
 refine (znb7 (live:=[1,3]) (drop:=[]) l bkF (by omega) (fun k => ⟨[(1,.ref ((2,0),0,0) 0),(3,.dat (N k))],[((2,0),fbx (nm,l))]⟩)
  (fun q => q.1 = .exit 0 ∧ hd [] [] q.2 = some ⟨[],[((2,0),fbx (nm,l))]⟩) (fun i q => q.1 = .ret ∧ endK [.t 2] false 0 q = some (.dat (.bool true),[]))
  (fun i y s h1 h2 h3 ix hs => ?_) (fun s hs => ?_) _ (by simp)).mono ?_
 ·by_cases c4 : y.op = 4
  ·by_cases c6 : y.n ≤ i <;> simp [hs,h1,h2,h3,ix,bkF,c4,c6]
  ·by_cases c5 : y.op = 5
   ·by_cases c6 : y.n ≤ i <;> simp [hs,h1,h2,h3,ix,bkF,c4,c5,c6]
   ·simp [hs,h1,h2,h3,ix,bkF,c4,c5]
 ·simp [hs]
 ·rintro ⟨y,s⟩ hq
  cases c : scan bkF l 0 <;> rw [c] at hq <;> obtain ⟨rfl,hq⟩:=hq <;> simp [hq]
def cn21 (l : List In) : Nat:=(l.filter fun x => decide (x.op = 21)).length
theorem cn21_step {l : List In} {i : Nat} {x : In} (h : l[i]? = some x) : cn21 (l.take (i + 1)) = cn21 (l.take i) + if x.op = 21 then 1 else 0:=by
 unfold cn21
 rw [List.take_add_one,h,Option.toList_some,List.filter_append,List.length_append]
 split <;> rename_i c <;> simp [c]
theorem cn21_le (l : List In) : cn21 l ≤ l.length:=List.length_filter_le _ _
def spw (l : List In) (bd : Int) : Int:=if 0 < cn21 l ∧ (scan bkF l 0).isSome = true then max (cn21 l : Int) bd else cn21 l
theorem run15 (f : Str × List In) (bd : Int) (hf : f.2.length < 1000000000) : K 15 [.dat (FD f),.dat (N bd)] [] = some (.dat (N (spw f.2 bd)),[]):=by
 have hb:=run31 f hf
 obtain ⟨nm,l⟩:=f
 simp only at hf ⊢
 have hl:=cn21_le l
 simp [FD] at hb
 refine ce rfl ?_
 simp [FD]
 simp only [zaa7]
 refine (zjb7 (live:=[1,2,5,6]) (drop:=[]) l (by omega) (fun k => ⟨[(1,.dat (N bd)),(2,.ref ((3,0),0,0) 0),(5,.dat (N (cn21 (l.take k)))),(6,.dat (N k))],[((3,0),fbx (nm,l))]⟩)
  (fun _ q => q.1 = .exit 0 ∧ hd [1,2,5] [] q.2 = some ⟨[(1,.dat (N bd)),(2,.ref ((3,0),0,0) 0),(5,.dat (N (cn21 l)))],[((3,0),fbx (nm,l))]⟩)
  (fun i y s h1 h2 h3 ix hs => ?_) (fun s hs => ?_) _ (by simp [cn21])).mono ?_
 ·have e:=cn21_step h1
  have hc : cn21 (l.take i) ≤ i:=Nat.le_trans (cn21_le _) (by simp; omega)
  have w : IntKind.wrap .i64 ((cn21 (l.take i) : Int) + 1) = cn21 (l.take i) + 1:=wrap_i64 (by omega) (by omega)
  by_cases c : y.op = 21
  ·rw [if_pos c] at e
   simp [hs,h1,h2,h3,ix,c,e,w]
  ·rw [if_neg c,Nat.add_zero] at e
   simp [hs,h1,h2,h3,ix,c,e]
 ·have e : l.take l.length = l:=List.take_length
  simp [hs,e]
 ·rintro ⟨y,s⟩ ⟨rfl,hq⟩
  unfold spw
  by_cases c : 0 < cn21 l
  ·have c' : (0 : Int) < cn21 l:=by omega
   cases k : (scan bkF l 0).isSome
   ·rw [k] at hb
    simp [hq,c,c',hb]
   ·rw [k] at hb
    simp [hq,c,c',hb]
    split <;> omega
  ·have c' : ¬ (0 : Int) < cn21 l:=by omega
   simp [hq,c,c']
end Go.Am.E

set_option maxRecDepth 10000
set_option maxHeartbeats 4000000
namespace Go.Am.E
open Go.Proofs Go.Ex Go.Rc
def cdF (p : Pg) (k : Int) : List In:=((p.fs[k.toNat]?).map (·.2)).getD []
def nL (p : Pg) (bd : Int) : Nat → Int
 | 0 => p.ts.length
 | k + 1 => match p.ts[k]? with
  | some t => if 0 ≤ t.1 ∧ t.1 < p.fs.length then IntKind.wrap .i64 (nL p bd k + spw (cdF p t.1) bd) else nL p bd k
  | none => nL p bd k
def lnF (p : Pg) (bd : Int) (i : Nat) (x : In) : Option Unit:=if x.op = 21 ∧ 0 ≤ x.o ∧ x.o < p.fs.length ∧ 0 < spw (cdF p x.o) bd then some () else none
def lnG (p : Pg) (bd : Int) (i : Nat) (F : Str × List In) : Option Unit:=scan (lnF p bd) F.2 0
abbrev pbx (p : Pg) : TObj:=.plain (.box ((PDl p).map AVal.dat))
abbrev E8 (p : Pg) (bd n : Int) : Env:=[(1,.dat (N bd)),(2,.ref ((3,0),0,0) 0),(5,.dat (N n))]
theorem loop8_1 (p : Pg) (bd n : Int) (hfl : p.fs.length < 1000000000) (hcd : ∀ F ∈ p.fs,F.2.length < 1000000000) (i : Nat) (F : Str × List In) (hi : p.fs[i]? = some F) (s0 : St) (h0 : hd [1,2,5,8,9] [2] s0 = some ⟨E8 p bd n ++ [(8,.dat (N i)),(9,.dat (N (0 : Nat)))],[((3,0),pbx p)]⟩) :
  Ev (zga7 (exec K l8_1) s0) (oQ (fun q => q.1 = .exit 4 ∧ hd [1,2,5,8] [] q.2 = some ⟨E8 p bd n ++ [(8,.dat (N i))],[((3,0),pbx p)]⟩) (fun _ q => q.1 = .ret ∧ endK [.t 4] false 0 q = some (.dat (.bool false),[])) (scan (lnF p bd) F.2 0)):=by
 have hF:=hcd F (List.mem_of_getElem? hi)
 have hi1:=(List.getElem?_eq_some_iff.1 hi).1
 have hi2 : p.fs[i] = F:=(List.getElem?_eq_some_iff.1 hi).2
 have hi3 : (i : Int) < p.fs.length:=by omega
 obtain ⟨nm,l⟩:=F
 refine znb7 (live:=[1,2,5,8,9]) (drop:=[2]) l (lnF p bd) (by simp only at hF; omega) (fun k => ⟨E8 p bd n ++ [(8,.dat (N i)),(9,.dat (N k))],[((3,0),pbx p)]⟩) _ _
  (fun j y s h1 h2 h3 ix hs => ?_) (fun s hs => ?_) s0 h0
 ·unfold lnF
  by_cases c1 : y.op = 21
  rotate_left
  ·simp [hs,h1,h2,h3,ix,hi,hi1,hi2,hi3,FD,c1]
  by_cases c2 : 0 ≤ y.o
  rotate_left
  ·simp [hs,h1,h2,h3,ix,hi,hi1,hi2,hi3,FD,c1,c2]
  by_cases c3 : y.o < p.fs.length
  rotate_left
  ·simp [hs,h1,h2,h3,ix,hi,hi1,hi2,hi3,FD,c1,c2,c3]
  obtain ⟨m,hm⟩ : ∃ m : Nat,y.o = m:=⟨y.o.toNat,by omega⟩
  have m1 : m < p.fs.length:=by omega
  have m2 : p.fs[m]? = some p.fs[m]:=by simp
  have h15:=run15 p.fs[m] bd (hcd _ (by simp))
  have e : cdF p y.o = p.fs[m].2:=by unfold cdF; rw [hm,Int.toNat_natCast,m2]; rfl
  simp [FD] at h15
  by_cases c4 : 0 < spw p.fs[m].2 bd
  ·simp [hs,h1,h2,h3,ix,hi,hi1,hi2,hi3,FD,c1,c2,c3,m1,m2,h15,e,c4]
   simp [hm,m1,m2,hi,hi1,hi2,hi3,FD,h15,c4,ix]
  ·simp [hs,h1,h2,h3,ix,hi,hi1,hi2,hi3,FD,c1,c2,c3,m1,m2,h15,e,c4]
   simp [hm,m1,m2,hi,hi1,hi2,hi3,FD,h15,c4,ix]
 ·simp [hs,hi,hi1,hi2,hi3,FD]
theorem loop8_0 (p : Pg) (bd : Int) (hfl : p.fs.length < 1000000000) (hcd : ∀ F ∈ p.fs,F.2.length < 1000000000) (htl : p.ts.length < 1000000000) (s0 : St) (h0 : hd [1,2,5,6] [] s0 = some ⟨E8 p bd (nL p bd 0) ++ [(6,.dat (N (0 : Nat)))],[((3,0),pbx p)]⟩) :
  Ev (zga7 (exec K l8_0) s0) (fun q => q.1 = .exit 0 ∧ hd [1,2,5] [] q.2 = some ⟨E8 p bd (nL p bd p.ts.length),[((3,0),pbx p)]⟩):=by
 refine zjb7 (live:=[1,2,5,6]) (drop:=[]) p.ts (by omega) (fun k => ⟨E8 p bd (nL p bd k) ++ [(6,.dat (N k))],[((3,0),pbx p)]⟩)
  (fun _ q => q.1 = .exit 0 ∧ hd [1,2,5] [] q.2 = some ⟨E8 p bd (nL p bd p.ts.length),[((3,0),pbx p)]⟩)
  (fun i y s h1 h2 h3 ix hs => ?_) (fun s hs => ?_) s0 h0
 ·have e : nL p bd (i + 1) = if 0 ≤ y.1 ∧ y.1 < p.fs.length then IntKind.wrap .i64 (nL p bd i + spw (cdF p y.1) bd) else nL p bd i:=by simp only [nL,h1]
  obtain ⟨a,b⟩:=y
  simp only at e
  by_cases c2 : 0 ≤ a
  rotate_left
  ·simp [c2] at e
   simp [hs,h1,h2,h3,ix,NP,c2,e]
  by_cases c3 : a < p.fs.length
  rotate_left
  ·simp [c2,c3] at e
   simp [hs,h1,h2,h3,ix,NP,c2,c3,e]
  obtain ⟨m,hm⟩ : ∃ m : Nat,a = m:=⟨a.toNat,by omega⟩
  have m1 : m < p.fs.length:=by omega
  have m2 : p.fs[m]? = some p.fs[m]:=by simp
  have h15:=run15 p.fs[m] bd (hcd _ (by simp))
  have e2 : cdF p a = p.fs[m].2:=by unfold cdF; rw [hm,Int.toNat_natCast,m2]; rfl
  rw [e2,if_pos ⟨c2,c3⟩] at e
  simp [FD] at h15
  generalize spw p.fs[m].2 bd = w at *
  subst hm
  simp [hs,h1,h2,h3,ix,NP,c2,c3,m1,m2,h15,e,FD]
 ·simp [hs]
theorem loop8_2 (p : Pg) (bd n : Int) (hfl : p.fs.length < 1000000000) (hcd : ∀ F ∈ p.fs,F.2.length < 1000000000) (s0 : St) (h0 : hd [1,2,5,8] [2] s0 = some ⟨E8 p bd n ++ [(8,.dat (N (0 : Nat)))],[((3,0),pbx p)]⟩) :
  Ev (zga7 (exec K l8_2) s0) (oQ (fun q => q.1 = .exit 2 ∧ hd [5] [] q.2 = some ⟨[(5,.dat (N n))],[((3,0),pbx p)]⟩) (fun _ q => q.1 = .ret ∧ endK [.t 4] false 0 q = some (.dat (.bool false),[])) (scan (lnG p bd) p.fs 0)):=by
 refine znb7 (live:=[1,2,5,8]) (drop:=[2]) p.fs (lnG p bd) (by omega) (fun k => ⟨E8 p bd n ++ [(8,.dat (N k))],[((3,0),pbx p)]⟩) _ _
  (fun i F s h1 h2 h3 ix hs => ?_) (fun s hs => ?_) s0 h0
 ·simp [hs,h1,h2,h3]
  simp only [zaa7]
  refine (loop8_1 p bd n hfl hcd i F h1 _ (by simp)).mono ?_
  rintro ⟨y,s⟩ hq
  unfold lnG
  cases c : scan (lnF p bd) F.2 0 <;> rw [c] at hq <;> obtain ⟨rfl,hq⟩:=hq
  ·simp [hq,ix]
  ·simp [hq]
 ·simp [hs]
def lonB (p : Pg) (bd : Int) : Bool:=if (scan (lnG p bd) p.fs 0).isSome then false else decide (nL p bd p.ts.length ≤ 5)
theorem run8 (p : Pg) (bd : Int) (hfl : p.fs.length < 1000000000) (hcd : ∀ F ∈ p.fs,F.2.length < 1000000000) (htl : p.ts.length < 1000000000) : K 8 [.dat (PD p),.dat (N bd)] [] = some (.dat (.bool (lonB p bd)),[]):=by
 refine ce rfl ?_
 simp
 simp only [zaa7]
 refine (loop8_0 p bd hfl hcd htl _ (by simp [nL])).mono ?_
 rintro ⟨y,s⟩ ⟨rfl,hq⟩
 unfold lonB
 generalize nL p bd p.ts.length = n at *
 simp [hq]
 simp only [zaa7]
 refine (loop8_2 p bd n hfl hcd _ (by simp)).mono ?_
 rintro ⟨y,s⟩ hq
 cases c : scan (lnG p bd) p.fs 0 <;> rw [c] at hq <;> obtain ⟨rfl,hq⟩:=hq <;> simp [hq]
def smF (i : Nat) (F : Str × List In) : Option Unit:=if 12 < F.2.length then some () else none
theorem smF_scan : ∀ (l : List (Str × List In)) (i : Nat),scan smF l i = none → ∀ F ∈ l,F.2.length ≤ 12
 | [],i,h,F,hF => by cases hF
 | G :: r,i,h,F,hF => by
  simp only [scan,smF] at h
  by_cases c : 12 < G.2.length
  ·rw [if_pos c] at h; cases h
  ·rw [if_neg c] at h
   rcases List.mem_cons.1 hF with rfl | hF
   ·omega
   ·exact smF_scan r _ h F hF
theorem run4 (p : Pg) (bd : Int) : ∃ b,K 4 [.dat (PD p),.dat (N bd)] [] = some (.dat (.bool b),[]) ∧ (b = true → p.fs.length ≤ 4 ∧ p.ts.length ≤ 4 ∧ p.vs.length ≤ 8 ∧ p.ms.length ≤ 4 ∧ p.cs.length ≤ 4 ∧ ∀ F ∈ p.fs,F.2.length ≤ 12):=by
 by_cases c1 : 4 < p.fs.length
 ·have c1' : (4 : Int) < p.fs.length:=by omega
  exact ⟨false,ce rfl (by simp [c1']),by simp⟩
 have c1' : ¬ (4 : Int) < p.fs.length:=by omega
 by_cases c2 : 4 < p.ts.length
 ·have c2' : (4 : Int) < p.ts.length:=by omega
  exact ⟨false,ce rfl (by simp [c1',c2']),by simp⟩
 have c2' : ¬ (4 : Int) < p.ts.length:=by omega
 by_cases c3 : 8 < bd
 ·exact ⟨false,ce rfl (by simp [c1',c2',c3]),by simp⟩
 by_cases c4 : 8 < p.vs.length
 ·have c4' : (8 : Int) < p.vs.length:=by omega
  exact ⟨false,ce rfl (by simp [c1',c2',c3,c4']),by simp⟩
 have c4' : ¬ (8 : Int) < p.vs.length:=by omega
 by_cases c5 : 4 < p.ms.length
 ·have c5' : (4 : Int) < p.ms.length:=by omega
  exact ⟨false,ce rfl (by simp [c1',c2',c3,c4',c5']),by simp⟩
 have c5' : ¬ (4 : Int) < p.ms.length:=by omega
 by_cases c6 : 4 < p.cs.length
 ·have c6' : (4 : Int) < p.cs.length:=by omega
  exact ⟨false,ce rfl (by simp [c1',c2',c3,c4',c5',c6']),by simp⟩
 have c6' : ¬ (4 : Int) < p.cs.length:=by omega
 cases c7 : scan smF p.fs 0 with
 | some u =>
  refine ⟨false,ce rfl ?_,by simp⟩
  simp [c1',c2',c3,c4',c5',c6']
  simp only [zaa7]
  refine (znb7 (live:=[1,2,5]) (drop:=[]) p.fs smF (by omega) (fun k => ⟨[(1,.dat (N bd)),(2,.ref ((3,0),0,0) 0),(5,.dat (N k))],[((3,0),pbx p)]⟩)
   (fun q => q.1 = .exit 0) (fun _ q => q.1 = .ret ∧ endK [.t 4] false 0 q = some (.dat (.bool false),[]))
   (fun i F s h1 h2 h3 ix hs => ?_) (fun s hs => ?_) _ (by simp)).mono ?_
  ·obtain ⟨nm,l⟩:=F
   unfold smF
   by_cases c : 12 < l.length
   ·have c' : (12 : Int) < l.length:=by omega
    simp [hs,h1,h2,h3,ix,FD,c,c']
   ·have c' : ¬ (12 : Int) < l.length:=by omega
    simp [hs,h1,h2,h3,ix,FD,c,c']
  ·simp [hs]
  ·rintro ⟨y,s⟩ hq
   rw [c7] at hq
   obtain ⟨rfl,hq⟩:=hq
   simp [hq]
 | none =>
  have hcd:=smF_scan _ _ c7
  have h8:=run8 p bd (by omega) (fun F hF => by have:=hcd F hF; omega) (by omega)
  refine ⟨lonB p bd,ce rfl ?_,fun _ => ⟨by omega,by omega,by omega,by omega,by omega,hcd⟩⟩
  simp [c1',c2',c3,c4',c5',c6']
  simp only [zaa7]
  refine (znb7 (live:=[1,2,5]) (drop:=[]) p.fs smF (by omega) (fun k => ⟨[(1,.dat (N bd)),(2,.ref ((3,0),0,0) 0),(5,.dat (N k))],[((3,0),pbx p)]⟩)
   (fun q => q.1 = .exit 0 ∧ hd [1,2] [] q.2 = some ⟨[(1,.dat (N bd)),(2,.ref ((3,0),0,0) 0)],[((3,0),pbx p)]⟩) (fun _ q => q.1 = .ret ∧ endK [.t 4] false 0 q = some (.dat (.bool false),[]))
   (fun i F s h1 h2 h3 ix hs => ?_) (fun s hs => ?_) _ (by simp)).mono ?_
  ·obtain ⟨nm,l⟩:=F
   unfold smF
   by_cases c : 12 < l.length
   ·have c' : (12 : Int) < l.length:=by omega
    simp [hs,h1,h2,h3,ix,FD,c,c']
   ·have c' : ¬ (12 : Int) < l.length:=by omega
    simp [hs,h1,h2,h3,ix,FD,c,c']
  ·simp [hs]
  ·rintro ⟨y,s⟩ hq
   rw [c7] at hq
   obtain ⟨rfl,hq⟩:=hq
   simp [hq,h8]
end Go.Am.E
